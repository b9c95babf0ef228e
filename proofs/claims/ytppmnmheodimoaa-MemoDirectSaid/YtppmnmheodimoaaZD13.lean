/- Own texts of this claim, part 14: no condition. -/
import Derived.Test.YtppmnmheodimoaaZD12
set_option linter.unusedVariables false
set_option linter.unusedSimpArgs false
section
namespace Go.Proofs.Ytppmnmheodimoaa
open Go Go.RowKit Rg Hp Bn
set_option maxHeartbeats 4000000 in
set_option maxRecDepth 100000 in
theorem rminus_calls {w:World} {da db:List Nat} {va vb:Value} (ha:Reads w va da.length 1 (i64s da)) (hb:Reads w vb db.length 1 (i64s db)) (hDa:Dig 256 da) (hDb:Dig 256 db) (hle:db.length≤da.length) (hvv:val 256 db≤val 256 da) (hla:da.length≤100000) :
  Calls Try.prog 92 #[va,vb] w (ListPost w (w.heap.size≤·) (dg 256 (val 256 da - val 256 db))):=by
 have hdb:=fun w1 (hf:Fr [] w w1) i=>rdigit_calls (hb.fr hf) (by omega) i
 have Hdb:=Lib.hid hdb
 obtain⟨_,a,ac,rfl,haa⟩:=ha
 obtain⟨_,b,bc,rfl,hbb⟩:=hb
 have Ha:=Lib.hid haa
 have HDa:=Lib.hid hDa
 have HDb:=Lib.hid hDb
 have Hvv:=Lib.hid hvv
 obtain⟨n,hn⟩:∃ n,da.length=n:=⟨_,rfl⟩
 have Hn:=Lib.hid hn
 rw [hn] at Ha hle hla ⊢
 have Hle:=Lib.hid hle
 clear hdb haa hbb hDa hDb hvv hn hle
 go_enter Try.func92,Try.ntmps92
 go_wp2_with fail
 go_loopw [5,6,7] (fun x5 x6 x7 wl=>∃ (i c:Nat) (L:List Nat),x6=.int .i64 c∧x7=.int .i64 i∧i≤n∧c≤1∧Dig 256 L∧L.length=i∧val 256 L+val 256 (db.take i)=val 256 (da.take i)+256 ^ i*c∧wl.ownsRow w.heap.size 3 1 x5 L.length (i64s L)∧Fr [] w wl) (fun _ _ x7 _=>n - (intOf x7).toNat)
 case atStart=>exact⟨0,0,[],rfl,rfl,by omega,by omega,Dig.nil,rfl,by simp [val],World.ownsRow_nil _ _ _ _,Fr.refl _ _⟩
 case round =>
  obtain⟨i,c,L,rfl,rfl,hi,hc,hD,hL,hv,ho,hf⟩:=hrel
  obtain⟨oa,oc,rfl,hoa,hon⟩:=oFM ho
  have HDL:=Lib.hid hD
  have HL:=Lib.hid hL
  have Hv:=Lib.hid hv
  have Ho:=Lib.hid ho
  have Hf:=Lib.hid hf
  clear hoa hon hD hL hv ho
  by_cases hin:i<n
  ·obtain⟨g1,o1,rfl,hg1,hc1⟩:=Ha.out (by omega)
   have e1:=(hf.cell (p:=⟨g1,o1+i,none⟩) hg1 (by simp)).trans (hc1 i _ (i64s_get (by have:=Hn.out;omega)))
   have hx:da.getD i 0<256:=HDa.out.getD (by omega) i
   have hy:db.getD i 0<256:=HDb.out.getD (by omega) i
   have Hta:=Lib.hid (And.intro (val_take_succ 256 da i) (val_take_succ 256 db i))
   have Hdb2:=Lib.hid (fun w1 hf=>Hdb.out w1 hf i)
   clear hc1 hf
   generalize da.getD i 0=x at *
   generalize db.getD i 0=y at *
   obtain⟨d,c2,hd1,hd2,hd3,hd4⟩:∃ d c2:Nat,d<256∧c2≤1∧d+y+c=x+256*c2∧(c2=1↔x<y+c):=by
    by_cases h:x<y+c
    ·exact⟨x+256 - y - c,1,by omega,by omega,by omega,by omega⟩
    ·exact⟨x - y - c,0,by omega,by omega,by omega,by omega⟩
   have Hst:=Lib.hid (diff_step Hv.out hd3)
   have hneg:decide ((x:Int) - y - c<0)=decide (c2=1):=by rw [decide_eq_decide];omega
   have Hd:=Lib.hid (And.intro hd3 hd4)
   clear hd4
   go_wp2_with fail
   refine wRS [([0,1,2,3,4,5,6],[3]),([7,8,9,10],[])] (by kernel_rfl) (by kernel_rfl) ?_
   (simp only [wpSegs,pick,Array.getD_eq_getD_getElem?,List.getElem?_toArray,List.getElem?_cons_succ,List.getElem?_cons_zero,Option.getD_some])
   go_wp2_with fail
   refine (Hdb2.out _ (by have:=Hf.out;(repeat first|exact Fr.refl _ _|assumption|apply Fr.n|apply Fr.d|apply Fr.a|refine Fr.s ?_ (.inr (by simp;try omega)) _))).mono ?_
   rintro e w2 ⟨rfl,rfl⟩
   go_wp2
   refine Mid.intro ⟨⟨again_cell (T:=3) rfl rfl rfl Try.underlying3 rfl e1 rfl,trivial⟩,?_⟩
   go_wp2
   refine Mid.intro ⟨trivial,Strict.intro rfl ?_⟩
   rcases Nat.lt_or_ge c2 1 with h1|h1
   ·obtain rfl:c2=0:=by omega
    have Ed:((x:Int) - y - c)=(d:Nat):=by omega
    have hng:decide ((x:Int) - y - c<0)=false:=by rw [decide_eq_false_iff_not];omega
    clear hneg hd3
    have hsz9:=Hf.out.size
    have Hf0:=Lib.hid (show Fr [] w _ from Hf.out.drewN 1)
    have Ho1:=Lib.hid (oOB (w':=wr.drewN 1) Ho.out (fun g _=>rfl))
    go_wp2_with (at_builtin;refine append_i64 (n:=L.length) (base:=w.heap.size) (xs:=(i64s L)) (y:=(d:Int)) rfl rfl rfl ?e1 rfl ?e2 ?e3 ?e4 ?_)
    case e1=>exact oOB Ho1.out fun y hy=>hAE _ _ _ (oLT Ho1.out hy)
    case e2=>first|(first|(rw [hAC,if_pos rfl];done)|exact (Array.getElem?_eq_some_iff.1 ((hAC _ _ _).trans (if_pos rfl))).2|(simp only [hDR,hDN];rw [hAC,if_pos rfl];done))|(repeat first|rw [if_pos (by omega)]|rw [if_neg (by omega)]|rw [hDR]|rw [hDN]|rw [hAz]|rw [hSz]|rw [hAC]|rw [hSC]|rw [oMS]|rw [uPC]|rw [lSZ]|rw [lSS]|rfl)
    case e3=>(have:=HL.out;omega)
    case e4=>have:=Hf0.out.size;(first|omega|(simp only [hDR,hDN,hAz];omega)|(simp;omega))
    intro g2 cap w9 hown1 hW1 hF1 hloc1 hg1
    rw [i64s_snoc] at hown1
    have Hown1:=Lib.hid hown1
    have Hf9:=Lib.hid (fr_append Hf0.out Ho1.out hF1)
    clear hown1 hW1 hF1 hloc1
    go_wp2
    go_roundw
    case rel=>exact⟨i+1,0,L++[d],by go_num,by go_num,by omega,by omega,HDL.out.append (fun z hz=>by rw [List.mem_singleton] at hz;omega),by rw [List.length_append,HL.out];rfl,by rw [val_snoc,HL.out,Hta.out.1,Hta.out.2,Nat.pow_succ];exact Hst.out,by rw [List.length_append];exact Hown1.out,Hf9.out⟩
    case measure=>simp [intOf];omega
   ·obtain rfl:c2=1:=by omega
    have Ed:((x:Int) - y - c+256)=(d:Nat):=by omega
    have hng:decide ((x:Int) - y - c<0)=true:=by rw [decide_eq_true_eq];omega
    clear hneg hd3
    have hsz9:=Hf.out.size
    have Hf0:=Lib.hid (show Fr [] w _ from Hf.out.drewN 1)
    have Ho1:=Lib.hid (oOB (w':=wr.drewN 1) Ho.out (fun g _=>rfl))
    go_wp2_with (at_builtin;refine append_i64 (n:=L.length) (base:=w.heap.size) (xs:=(i64s L)) (y:=(d:Int)) rfl rfl rfl ?e1 rfl ?e2 ?e3 ?e4 ?_)
    case e1=>exact oOB Ho1.out fun y hy=>hAE _ _ _ (oLT Ho1.out hy)
    case e2=>first|(first|(rw [hAC,if_pos rfl];done)|exact (Array.getElem?_eq_some_iff.1 ((hAC _ _ _).trans (if_pos rfl))).2|(simp only [hDR,hDN];rw [hAC,if_pos rfl];done))|(repeat first|rw [if_pos (by omega)]|rw [if_neg (by omega)]|rw [hDR]|rw [hDN]|rw [hAz]|rw [hSz]|rw [hAC]|rw [hSC]|rw [oMS]|rw [uPC]|rw [lSZ]|rw [lSS]|rfl)
    case e3=>(have:=HL.out;omega)
    case e4=>have:=Hf0.out.size;(first|omega|(simp only [hDR,hDN,hAz];omega)|(simp;omega))
    intro g2 cap w9 hown1 hW1 hF1 hloc1 hg1
    rw [i64s_snoc] at hown1
    have Hown1:=Lib.hid hown1
    have Hf9:=Lib.hid (fr_append Hf0.out Ho1.out hF1)
    clear hown1 hW1 hF1 hloc1
    go_wp2
    go_roundw
    case rel=>exact⟨i+1,1,L++[d],by go_num,by go_num,by omega,by omega,HDL.out.append (fun z hz=>by rw [List.mem_singleton] at hz;omega),by rw [List.length_append,HL.out];rfl,by rw [val_snoc,HL.out,Hta.out.1,Hta.out.2,Nat.pow_succ];exact Hst.out,by rw [List.length_append];exact Hown1.out,Hf9.out⟩
    case measure=>simp [intOf];omega
  ·obtain rfl:i=n:=by omega
   have hfin:val 256 L=val 256 da - val 256 db:=by
    have hv:=Hv.out
    have hll:=val_lt HDL.out
    have h1:=Hle.out
    have h2:=Hvv.out
    rw [List.take_of_length_le (by omega),List.take_of_length_le (by have:=Hn.out;omega)] at hv
    rw [HL.out] at hll
    rcases Nat.lt_or_ge c 1 with h|h
    ·obtain rfl:c=0:=by omega
     omega
    ·obtain rfl:c=1:=by omega
     omega
   have ht:=trim_calls (Reads.of_owns Ho.out) HDL.out (by have:=HL.out;omega) (owns_cap Ho.out) (A:=fun g=>w.heap.size≤g) (fun g hg=>owns_ge Ho.out hg)
   rw [hfin] at ht
   have Ht:=Lib.hid ht
   clear ht hfin hf
   go_wp2_with fail
   refine Ht.out.mono ?_
   rintro e w4 ⟨ra,rc,hlo,rfl,hr,hf⟩
   have Hf5:=Lib.hid (Hf.out.trans0 hf)
   have Hr:=Lib.hid hr
   have Hlo:=Lib.hid hlo
   clear hf hr hlo
   go_wp2
   go_ret
   exact⟨ra,rc,Hlo.out,rfl,Hr.out,Hf5.out⟩
end Go.Proofs.Ytppmnmheodimoaa
end
section
namespace Go.Proofs.Ytppmnmheodimoaa
open Go Go.RowKit Rg Hp Bn
set_option maxHeartbeats 8000000 in
set_option maxRecDepth 100000 in
theorem RAdd_calls {w:World} {na nb:Bool} {da db:List Nat} {va vb:Value} (ha:Reads w va da.length 1 (u32s da)) (hb:Reads w vb db.length 1 (u32s db)) (hDa:Dig 4294967296 da) (hDb:Dig 4294967296 db) (hla:da.length≤10000) (hlb:db.length≤10000) :
  Calls Try.prog 73 #[.agg #[.bool na,va],.agg #[.bool nb,vb]] w (BigPost w (w.heap.size≤·) (addS na da nb db)):=by
 have hra:=fun w1 (hf:Fr [] w w1)=>RRight_calls (neg:=na) (ha.fr hf) (by omega)
 have hrb:=fun w1 (hf:Fr [] w w1)=>RRight_calls (neg:=nb) (hb.fr hf) (by omega)
 have Ha0:=Lib.hid ha
 have Hb0:=Lib.hid hb
 obtain⟨_,a,ac,rfl,_⟩:=ha
 obtain⟨_,b,bc,rfl,_⟩:=hb
 have HDa:=Lib.hid hDa
 have HDb:=Lib.hid hDb
 obtain⟨r,hS⟩:∃ r,r=addS na da nb db:=⟨_,rfl⟩
 rw [← hS]
 unfold addS at hS
 clear hDa hDb
 cases hR1:RightB na da with
 | false =>
  rw [hR1] at hra hS
  simp only [Bool.false_and,if_true] at hS
  subst hS
  have Hra:=Lib.hid hra
  clear hR1 hra hrb
  go_enter Try.func73,Try.ntmps73
  go_wp2_with fail
  refine (Hra.out _ (by (repeat first|exact Fr.refl _ _|assumption|apply Fr.n|apply Fr.d|apply Fr.a|refine Fr.s ?_ (.inr (by simp;try omega)) _))).mono ?_
  rintro e w1 ⟨rfl,hf⟩
  have ha_:=(hf.block (w.heap.size) (by first|(simp;done)|(simp;omega)) (by simp)).trans (show _=some (.cells #[.bool na,.slice a da.length ac] 114 (0,0)) by (repeat first|rw [if_pos (by omega)]|rw [if_neg (by omega)]|rw [hDR]|rw [hDN]|rw [hAz]|rw [hSz]|rw [hAC]|rw [hSC]|rw [oMS]|rw [uPC]|rw [lSZ]|rw [lSS]|rfl))
  have a0:=hEC ha_ 0
  have a1:=hEC ha_ 1
  have al:=lBk ha_
  have Ha:=Lib.hid ha_
  clear ha_
  have hb_:=(hf.block (w.heap.size+1) (by first|(simp;done)|(simp;omega)) (by simp)).trans (show _=some (.cells #[.bool nb,.slice b db.length bc] 114 (0,0)) by (repeat first|rw [if_pos (by omega)]|rw [if_neg (by omega)]|rw [hDR]|rw [hDN]|rw [hAz]|rw [hSz]|rw [hAC]|rw [hSC]|rw [oMS]|rw [uPC]|rw [lSZ]|rw [lSS]|rfl))
  have b0:=hEC hb_ 0
  have b1:=hEC hb_ 1
  have bl:=lBk hb_
  have Hb:=Lib.hid hb_
  clear hb_
  have hc_:=(hf.block (w.heap.size+1+1) (by first|(simp;done)|(simp;omega)) (by simp)).trans (show _=some (.cells #[.bool false,.slice none 0 0] 114 (0,0)) by (repeat first|rw [if_pos (by omega)]|rw [if_neg (by omega)]|rw [hDR]|rw [hDN]|rw [hAz]|rw [hSz]|rw [hAC]|rw [hSC]|rw [oMS]|rw [uPC]|rw [lSZ]|rw [lSS]|rfl))
  have c0:=hEC hc_ 0
  have c0z:=hEF hc_ 0
  have c1:=hEC hc_ 1
  have c1z:=hEF hc_ 1
  have cl:=lBk hc_
  have Hc:=Lib.hid hc_
  clear hc_
  have Hf:=Lib.hid (Fr.trans0 (by (repeat first|exact Fr.refl _ _|assumption|apply Fr.n|apply Fr.d|apply Fr.a|refine Fr.s ?_ (.inr (by simp;try omega)) _):Fr [] w _) hf)
  clear hf
  go_wp2
  (try simp only [Exit.inBlock,Exit.then])
  refine bodyPost_ret (bRS rfl (b:=w.heap.size+1+1) (x:=.bool false) (y:=.slice none 0 0) rfl ?_ rfl) rfl ⟨_,_,⟨Nat.le_refl _,fun g hg=>(by cases hg)⟩,rfl,reads_nil _,?_⟩
  ·have h:=Hc.out
   (repeat first|rw [if_pos (by omega)]|rw [if_neg (by omega)]|rw [hDR]|rw [hDN]|rw [hAz]|rw [hSz]|rw [hAC]|rw [hSC]|rw [oMS]|rw [uPC]|rw [lSZ]|rw [lSS]|rfl)
   rw [h]
   (repeat first|rw [if_pos (by omega)]|rw [if_neg (by omega)]|rw [hDR]|rw [hDN]|rw [hAz]|rw [hSz]|rw [hAC]|rw [hSC]|rw [oMS]|rw [uPC]|rw [lSZ]|rw [lSS]|rfl)
  ·exact (Hf.out.setCell (.inr (by simp;try omega)) _).setCell (.inr (by simp;try omega)) _
 | true =>
  rw [hR1] at hra
  have Hra:=Lib.hid hra
  obtain⟨cA,lA,_⟩:=right_canon hR1
  rw [hR1] at hS
  clear hR1 hra
  cases hR2:RightB nb db with
  | false =>
   rw [hR2] at hrb hS
   simp only [Bool.and_false,if_true] at hS
   subst hS
   have Hrb:=Lib.hid hrb
   clear hR2 hrb
   go_enter Try.func73,Try.ntmps73
   go_wp2_with fail
   refine (Hra.out _ (by (repeat first|exact Fr.refl _ _|assumption|apply Fr.n|apply Fr.d|apply Fr.a|refine Fr.s ?_ (.inr (by simp;try omega)) _))).mono ?_
   rintro e w1 ⟨rfl,hf⟩
   have ha_:=(hf.block (w.heap.size) (by first|(simp;done)|(simp;omega)) (by simp)).trans (show _=some (.cells #[.bool na,.slice a da.length ac] 114 (0,0)) by (repeat first|rw [if_pos (by omega)]|rw [if_neg (by omega)]|rw [hDR]|rw [hDN]|rw [hAz]|rw [hSz]|rw [hAC]|rw [hSC]|rw [oMS]|rw [uPC]|rw [lSZ]|rw [lSS]|rfl))
   have a0:=hEC ha_ 0
   have a1:=hEC ha_ 1
   have al:=lBk ha_
   have Ha:=Lib.hid ha_
   clear ha_
   have hb_:=(hf.block (w.heap.size+1) (by first|(simp;done)|(simp;omega)) (by simp)).trans (show _=some (.cells #[.bool nb,.slice b db.length bc] 114 (0,0)) by (repeat first|rw [if_pos (by omega)]|rw [if_neg (by omega)]|rw [hDR]|rw [hDN]|rw [hAz]|rw [hSz]|rw [hAC]|rw [hSC]|rw [oMS]|rw [uPC]|rw [lSZ]|rw [lSS]|rfl))
   have b0:=hEC hb_ 0
   have b1:=hEC hb_ 1
   have bl:=lBk hb_
   have Hb:=Lib.hid hb_
   clear hb_
   have hc_:=(hf.block (w.heap.size+1+1) (by first|(simp;done)|(simp;omega)) (by simp)).trans (show _=some (.cells #[.bool false,.slice none 0 0] 114 (0,0)) by (repeat first|rw [if_pos (by omega)]|rw [if_neg (by omega)]|rw [hDR]|rw [hDN]|rw [hAz]|rw [hSz]|rw [hAC]|rw [hSC]|rw [oMS]|rw [uPC]|rw [lSZ]|rw [lSS]|rfl))
   have c0:=hEC hc_ 0
   have c0z:=hEF hc_ 0
   have c1:=hEC hc_ 1
   have c1z:=hEF hc_ 1
   have cl:=lBk hc_
   have Hc:=Lib.hid hc_
   clear hc_
   have Hf:=Lib.hid (Fr.trans0 (by (repeat first|exact Fr.refl _ _|assumption|apply Fr.n|apply Fr.d|apply Fr.a|refine Fr.s ?_ (.inr (by simp;try omega)) _):Fr [] w _) hf)
   clear hf
   go_wp2_with fail
   refine (Hrb.out _ Hf.out).mono ?_
   rintro e w2 ⟨rfl,hf⟩
   (try clear a0)
   (try clear a1)
   (try clear al)
   have ha_:=(hf.block _ (lBk Ha.out) (by simp)).trans Ha.out
   clear Ha
   have a0:=hEC ha_ 0
   have a1:=hEC ha_ 1
   have al:=lBk ha_
   have Ha:=Lib.hid ha_
   clear ha_
   (try clear b0)
   (try clear b1)
   (try clear bl)
   have hb_:=(hf.block _ (lBk Hb.out) (by simp)).trans Hb.out
   clear Hb
   have b0:=hEC hb_ 0
   have b1:=hEC hb_ 1
   have bl:=lBk hb_
   have Hb:=Lib.hid hb_
   clear hb_
   (try clear c0)
   (try clear c1)
   (try clear c0z)
   (try clear c1z)
   (try clear cl)
   have hc_:=(hf.block _ (lBk Hc.out) (by simp)).trans Hc.out
   clear Hc
   have c0:=hEC hc_ 0
   have c0z:=hEF hc_ 0
   have c1:=hEC hc_ 1
   have c1z:=hEF hc_ 1
   have cl:=lBk hc_
   have Hc:=Lib.hid hc_
   clear hc_
   have Hf:=Lib.hid (Hf.out.trans0 hf)
   clear hf
   go_wp2
   (try simp only [Exit.inBlock,Exit.then])
   refine bodyPost_ret (bRS rfl (b:=w.heap.size+1+1) (x:=.bool false) (y:=.slice none 0 0) rfl ?_ rfl) rfl ⟨_,_,⟨Nat.le_refl _,fun g hg=>(by cases hg)⟩,rfl,reads_nil _,?_⟩
   ·have h:=Hc.out
    (repeat first|rw [if_pos (by omega)]|rw [if_neg (by omega)]|rw [hDR]|rw [hDN]|rw [hAz]|rw [hSz]|rw [hAC]|rw [hSC]|rw [oMS]|rw [uPC]|rw [lSZ]|rw [lSS]|rfl)
    rw [h]
    (repeat first|rw [if_pos (by omega)]|rw [if_neg (by omega)]|rw [hDR]|rw [hDN]|rw [hAz]|rw [hSz]|rw [hAC]|rw [hSC]|rw [oMS]|rw [uPC]|rw [lSZ]|rw [lSS]|rfl)
   ·exact (Hf.out.setCell (.inr (by simp;try omega)) _).setCell (.inr (by simp;try omega)) _
  | true =>
   rw [hR2] at hrb hS
   simp only [Bool.and_self,Bool.true_eq_false,if_false] at hS
   have Hrb:=Lib.hid hrb
   obtain⟨cB,lB,_⟩:=right_canon hR2
   have HcA:=Lib.hid cA
   have HcB:=Lib.hid cB
   have HS:=Lib.hid hS
   clear hR2 hrb cA cB hS
   go_enter Try.func73,Try.ntmps73
   go_wp2_with fail
   refine (Hra.out _ (by (repeat first|exact Fr.refl _ _|assumption|apply Fr.n|apply Fr.d|apply Fr.a|refine Fr.s ?_ (.inr (by simp;try omega)) _))).mono ?_
   rintro e w1 ⟨rfl,hf⟩
   have ha_:=(hf.block (w.heap.size) (by first|(simp;done)|(simp;omega)) (by simp)).trans (show _=some (.cells #[.bool na,.slice a da.length ac] 114 (0,0)) by (repeat first|rw [if_pos (by omega)]|rw [if_neg (by omega)]|rw [hDR]|rw [hDN]|rw [hAz]|rw [hSz]|rw [hAC]|rw [hSC]|rw [oMS]|rw [uPC]|rw [lSZ]|rw [lSS]|rfl))
   have a0:=hEC ha_ 0
   have a1:=hEC ha_ 1
   have al:=lBk ha_
   have Ha:=Lib.hid ha_
   clear ha_
   have hb_:=(hf.block (w.heap.size+1) (by first|(simp;done)|(simp;omega)) (by simp)).trans (show _=some (.cells #[.bool nb,.slice b db.length bc] 114 (0,0)) by (repeat first|rw [if_pos (by omega)]|rw [if_neg (by omega)]|rw [hDR]|rw [hDN]|rw [hAz]|rw [hSz]|rw [hAC]|rw [hSC]|rw [oMS]|rw [uPC]|rw [lSZ]|rw [lSS]|rfl))
   have b0:=hEC hb_ 0
   have b1:=hEC hb_ 1
   have bl:=lBk hb_
   have Hb:=Lib.hid hb_
   clear hb_
   have hc_:=(hf.block (w.heap.size+1+1) (by first|(simp;done)|(simp;omega)) (by simp)).trans (show _=some (.cells #[.bool false,.slice none 0 0] 114 (0,0)) by (repeat first|rw [if_pos (by omega)]|rw [if_neg (by omega)]|rw [hDR]|rw [hDN]|rw [hAz]|rw [hSz]|rw [hAC]|rw [hSC]|rw [oMS]|rw [uPC]|rw [lSZ]|rw [lSS]|rfl))
   have c0:=hEC hc_ 0
   have c0z:=hEF hc_ 0
   have c1:=hEC hc_ 1
   have c1z:=hEF hc_ 1
   have cl:=lBk hc_
   have Hc:=Lib.hid hc_
   clear hc_
   have Hf:=Lib.hid (Fr.trans0 (by (repeat first|exact Fr.refl _ _|assumption|apply Fr.n|apply Fr.d|apply Fr.a|refine Fr.s ?_ (.inr (by simp;try omega)) _):Fr [] w _) hf)
   clear hf
   go_wp2_with fail
   refine (Hrb.out _ Hf.out).mono ?_
   rintro e w2 ⟨rfl,hf⟩
   (try clear a0)
   (try clear a1)
   (try clear al)
   have ha_:=(hf.block _ (lBk Ha.out) (by simp)).trans Ha.out
   clear Ha
   have a0:=hEC ha_ 0
   have a1:=hEC ha_ 1
   have al:=lBk ha_
   have Ha:=Lib.hid ha_
   clear ha_
   (try clear b0)
   (try clear b1)
   (try clear bl)
   have hb_:=(hf.block _ (lBk Hb.out) (by simp)).trans Hb.out
   clear Hb
   have b0:=hEC hb_ 0
   have b1:=hEC hb_ 1
   have bl:=lBk hb_
   have Hb:=Lib.hid hb_
   clear hb_
   (try clear c0)
   (try clear c1)
   (try clear c0z)
   (try clear c1z)
   (try clear cl)
   have hc_:=(hf.block _ (lBk Hc.out) (by simp)).trans Hc.out
   clear Hc
   have c0:=hEC hc_ 0
   have c0z:=hEF hc_ 0
   have c1:=hEC hc_ 1
   have c1z:=hEF hc_ 1
   have cl:=lBk hc_
   have Hc:=Lib.hid hc_
   clear hc_
   have Hf:=Lib.hid (Hf.out.trans0 hf)
   clear hf
   go_wp2
   refine wRS [([0,2,1],[2]),([3,4,5],[])] (by kernel_rfl) (by kernel_rfl) ?_
   (simp only [wpSegs,pick,Array.getD_eq_getD_getElem?,List.getElem?_toArray,List.getElem?_cons_succ,List.getElem?_cons_zero,Option.getD_some])
   go_wp2_with fail
   refine (bytes_calls (neg:=na) (Ha0.out.fr (by have:=Hf.out;(repeat first|exact Fr.refl _ _|assumption|apply Fr.n|apply Fr.d|apply Fr.a|refine Fr.s ?_ (.inr (by simp;try omega)) _))) HDa.out (by omega)).mono ?_
   rintro e w3 ⟨xa,xc,hlo,rfl,hr,hf0⟩
   have hf:Fr [] w2 w3:=Fr.trans0 (by (repeat first|exact Fr.refl _ _|assumption|apply Fr.n|apply Fr.d|apply Fr.a|refine Fr.s ?_ (.inr (by simp;try omega)) _)) hf0
   (try clear a0)
   (try clear a1)
   (try clear al)
   have ha_:=(hf.block _ (lBk Ha.out) (by simp)).trans Ha.out
   clear Ha
   have a0:=hEC ha_ 0
   have a1:=hEC ha_ 1
   have al:=lBk ha_
   have Ha:=Lib.hid ha_
   clear ha_
   (try clear b0)
   (try clear b1)
   (try clear bl)
   have hb_:=(hf.block _ (lBk Hb.out) (by simp)).trans Hb.out
   clear Hb
   have b0:=hEC hb_ 0
   have b1:=hEC hb_ 1
   have bl:=lBk hb_
   have Hb:=Lib.hid hb_
   clear hb_
   (try clear c0)
   (try clear c1)
   (try clear c0z)
   (try clear c1z)
   (try clear cl)
   have hc_:=(hf.block _ (lBk Hc.out) (by simp)).trans Hc.out
   clear Hc
   have c0:=hEC hc_ 0
   have c0z:=hEF hc_ 0
   have c1:=hEC hc_ 1
   have c1z:=hEF hc_ 1
   have cl:=lBk hc_
   have Hc:=Lib.hid hc_
   clear hc_
   have Hf:=Lib.hid (Hf.out.trans0 hf)
   have Hx:=Lib.hid hr
   have Hxc:=Lib.hid hlo.1
   clear hf hf0 hr hlo
   go_wp2
   refine Mid.intro ⟨⟨aGR (T:=114) (cs:=[.bool nb,.slice b db.length bc]) rfl rfl rfl Try.underlying114 rfl (by kernel_rfl) (fun j v hj=>?rng) rfl,trivial⟩,?_⟩
   case rng =>
    rw [Nat.zero_add,hEC Hb.out,← hj]
    exact (Array.getElem?_toList (xs:=#[Value.bool nb,.slice b db.length bc])).symm
   go_wp2_with fail
   refine (bytes_calls (neg:=nb) (Hb0.out.fr Hf.out) HDb.out (by omega)).mono ?_
   rintro e w4 ⟨ya,yc,hlo,rfl,hr,hf⟩
   (try clear a0)
   (try clear a1)
   (try clear al)
   have ha_:=(hf.block _ (lBk Ha.out) (by simp)).trans Ha.out
   clear Ha
   have a0:=hEC ha_ 0
   have a1:=hEC ha_ 1
   have al:=lBk ha_
   have Ha:=Lib.hid ha_
   clear ha_
   (try clear b0)
   (try clear b1)
   (try clear bl)
   have hb_:=(hf.block _ (lBk Hb.out) (by simp)).trans Hb.out
   clear Hb
   have b0:=hEC hb_ 0
   have b1:=hEC hb_ 1
   have bl:=lBk hb_
   have Hb:=Lib.hid hb_
   clear hb_
   (try clear c0)
   (try clear c1)
   (try clear c0z)
   (try clear c1z)
   (try clear cl)
   have hc_:=(hf.block _ (lBk Hc.out) (by simp)).trans Hc.out
   clear Hc
   have c0:=hEC hc_ 0
   have c0z:=hEF hc_ 0
   have c1:=hEC hc_ 1
   have c1z:=hEF hc_ 1
   have cl:=lBk hc_
   have Hc:=Lib.hid hc_
   clear hc_
   have Hf:=Lib.hid (Hf.out.trans0 hf)
   have Hx:=Lib.hid (Hx.out.fr hf)
   have Hy:=Lib.hid hr
   have Hyc:=Lib.hid hlo.1
   clear hf hr hlo
   go_wp2
   refine Mid.intro ⟨trivial,Strict.intro rfl ?_⟩
   obtain⟨Va,hVa⟩:∃ Va,val 4294967296 da=Va:=⟨_,rfl⟩
   obtain⟨Vb,hVb⟩:∃ Vb,val 4294967296 db=Vb:=⟨_,rfl⟩
   rw [hVa] at Hx HS Hxc ⊢
   rw [hVb] at Hy HS Hyc ⊢
   obtain⟨X,hX⟩:∃ X,dg 256 Va=X:=⟨_,rfl⟩
   obtain⟨Y,hY⟩:∃ Y,dg 256 Vb=Y:=⟨_,rfl⟩
   have hXV:val 256 X=Va:=by rw [← hX];exact val_dg (by omega) Va
   have hYV:val 256 Y=Vb:=by rw [← hY];exact val_dg (by omega) Vb
   have hXD:Dig 256 X:=by rw [← hX];exact dg_dig (by omega) Va
   have hYD:Dig 256 Y:=by rw [← hY];exact dg_dig (by omega) Vb
   have hXC:Canon X:=by rw [← hX];exact dg_canon (by omega) Va
   have hYC:Canon Y:=by rw [← hY];exact dg_canon (by omega) Vb
   have hlen:∀ (ds:List Nat) V,Dig 4294967296 ds→ds.length≤64→val 4294967296 ds=V→(dg 256 V).length≤256:=by
    intro ds V hD hl h
    rw [dg_length_le (by omega),show 256 ^ 256=4294967296 ^ 64 from pow256 64,← h]
    exact Nat.lt_of_lt_of_le (val_lt hD) (Nat.pow_le_pow_right (by omega) hl)
   have hXl:=hlen _ _ HDa.out lA hVa
   have hYl:=hlen _ _ HDb.out lB hVb
   rw [hX] at Hx Hxc hXl ⊢
   rw [hY] at Hy Hyc hYl ⊢
   have HXV:=Lib.hid hXV
   have HYV:=Lib.hid hYV
   have HXD:=Lib.hid hXD
   have HYD:=Lib.hid hYD
   have HXC:=Lib.hid hXC
   have HYC:=Lib.hid hYC
   clear hVa hVb hX hY hXV hYV hXD hYD hXC hYC hlen
   have hw24:w.heap.size+1+1<w4.heap.size:=lBk Hc.out
   have Hw24:=Lib.hid hw24
   clear hw24
   by_cases hn:na=nb
   ·subst hn
    have hS:=HS.out
    rw [if_pos rfl] at hS
    have HS1:=Lib.hid hS
    clear hS HS
    go_wp2
    refine wRS [([0,1,2,3,4],[1]),([5,6,7,8,9],[])] (by kernel_rfl) (by kernel_rfl) ?_
    (simp only [wpSegs,pick,Array.getD_eq_getD_getElem?,List.getElem?_toArray,List.getElem?_cons_succ,List.getElem?_cons_zero,Option.getD_some])
    go_wp2_with fail
    refine (rplus_calls (Hx.out.fr (by (repeat first|exact Fr.refl _ _|assumption|apply Fr.n|apply Fr.d|apply Fr.a|refine Fr.s ?_ (.inr (by simp;try omega)) _))) (Hy.out.fr (by (repeat first|exact Fr.refl _ _|assumption|apply Fr.n|apply Fr.d|apply Fr.a|refine Fr.s ?_ (.inr (by simp;try omega)) _))) HXD.out HYD.out (by omega) (by omega)).mono ?_
    rintro e w5 ⟨L,hLD,hLV,hLl,la,lc,hlo,rfl,hr,hf0⟩
    have hf:Fr [] w4 w5:=Fr.trans0 (by (repeat first|exact Fr.refl _ _|assumption|apply Fr.n|apply Fr.d|apply Fr.a|refine Fr.s ?_ (.inr (by simp;try omega)) _)) hf0
    have h45:=hf.size
    (try clear a0)
    (try clear a1)
    (try clear al)
    have ha_:=(hf.block _ (lBk Ha.out) (by simp)).trans Ha.out
    clear Ha
    have a0:=hEC ha_ 0
    have a1:=hEC ha_ 1
    have al:=lBk ha_
    have Ha:=Lib.hid ha_
    clear ha_
    (try clear b0)
    (try clear b1)
    (try clear bl)
    have hb_:=(hf.block _ (lBk Hb.out) (by simp)).trans Hb.out
    clear Hb
    have b0:=hEC hb_ 0
    have b1:=hEC hb_ 1
    have bl:=lBk hb_
    have Hb:=Lib.hid hb_
    clear hb_
    (try clear c0)
    (try clear c1)
    (try clear c0z)
    (try clear c1z)
    (try clear cl)
    have hc_:=(hf.block _ (lBk Hc.out) (by simp)).trans Hc.out
    clear Hc
    have c0:=hEC hc_ 0
    have c0z:=hEF hc_ 0
    have c1:=hEC hc_ 1
    have c1z:=hEF hc_ 1
    have cl:=lBk hc_
    have Hc:=Lib.hid hc_
    clear hc_
    have Hf:=Lib.hid (Hf.out.trans0 hf)
    have hbg:=big_calls (neg:=na) hr hLD (by omega) hlo.1
    rw [hLV,HXV.out,HYV.out,← HS1.out] at hbg
    have Hbg:=Lib.hid hbg
    have H45:=Lib.hid (show w.heap.size+1+1<w5.heap.size by have:=Hw24.out;omega)
    clear hf hf0 hr hlo hLD hLV hLl hbg h45
    go_wp2
    refine Mid.intro ⟨⟨again_cell (T:=4) rfl rfl rfl Try.underlying4 rfl a0 rfl,trivial⟩,?_⟩
    go_wp2_with fail
    refine (Hbg.out).mono ?_
    rintro e w6 ⟨ra,rc,hlo,rfl,hr,hf⟩
    (try clear c0)
    (try clear c1)
    (try clear c0z)
    (try clear c1z)
    (try clear cl)
    have hc_:=(hf.block _ (lBk Hc.out) (by simp)).trans Hc.out
    clear Hc
    have c0:=hEC hc_ 0
    have c0z:=hEF hc_ 0
    have c1:=hEC hc_ 1
    have c1z:=hEF hc_ 1
    have cl:=lBk hc_
    have Hc:=Lib.hid hc_
    clear hc_
    have Hf:=Lib.hid (Hf.out.trans0 hf)
    have Hlo:=Lib.hid hlo
    have Hr:=Lib.hid hr
    have Hs5:=Lib.hid H45.out
    clear hlo hr hf
    (try clear a0 a1 al b0 b1 bl)
    obtain⟨r1,r2,r3⟩:=r
    go_wp2
    refine Mid.intro ⟨trivial,Strict.intro rfl ?_⟩
    go_wp2
    (try simp only [Exit.inBlock,Exit.then])
    refine bodyPost_ret (bRS rfl (b:=w.heap.size+1+1) (x:=.bool r1) (y:=.slice ra r2.length rc) rfl ?_ rfl) rfl ⟨_,_,⟨Hlo.out.1,fun g hg=>(by have:=Hlo.out.2 g hg;have:=Hs5.out;omega)⟩,rfl,?_,?_⟩
    ·have h:=Hc.out
     (repeat first|rw [if_pos (by omega)]|rw [if_neg (by omega)]|rw [hDR]|rw [hDN]|rw [hAz]|rw [hSz]|rw [hAC]|rw [hSC]|rw [oMS]|rw [uPC]|rw [lSZ]|rw [lSS]|rfl)
     rw [h]
     (repeat first|rw [if_pos (by omega)]|rw [if_neg (by omega)]|rw [hDR]|rw [hDN]|rw [hAz]|rw [hSz]|rw [hAC]|rw [hSC]|rw [oMS]|rw [uPC]|rw [lSZ]|rw [lSS]|rfl)
    ·refine Hr.out.keep fun x hx hl=>?_
     have:=Hlo.out.2 x hx
     have:=Hs5.out
     rw [sCE _ _ _ (by simp;omega),sCE _ _ _ (by simp;omega)]
    ·exact (Hf.out.setCell (.inr (by simp;try omega)) _).setCell (.inr (by simp;try omega)) _
   ·have hS:=HS.out
    rw [if_neg hn] at hS
    have hnb:(na == nb)=false:=by simpa using hn
    have HN:=Lib.hid hn
    clear hn HS
    by_cases hv:Va<Vb
    ·rw [if_pos hv] at hS
     have HS1:=Lib.hid hS
     have Hle:=Lib.hid (Nat.le_of_lt hv)
     have hls:=less_calls Hx.out Hy.out HXD.out HYD.out HXC.out HYC.out (by omega) (by omega)
     rw [HXV.out,HYV.out,decide_eq_true hv] at hls
     have hYX:X.length≤Y.length:=by
      rcases Nat.lt_or_ge Y.length X.length with h|h
      ·have:=val_lt_len (by omega) HYD.out HXD.out HXC.out h
       rw [HXV.out,HYV.out] at this;omega
      ·exact h
     have Hls:=Lib.hid hls
     have HYX:=Lib.hid hYX
     clear hS hls hYX hv
     go_wp2_with fail
     refine Hls.out.mono ?_
     rintro e w5 ⟨rfl,hd⟩
     have hf:=hd.fr []
     have h45:=hf.size
     (try clear a0)
     (try clear a1)
     (try clear al)
     have ha_:=(hf.block _ (lBk Ha.out) (by simp)).trans Ha.out
     clear Ha
     have a0:=hEC ha_ 0
     have a1:=hEC ha_ 1
     have al:=lBk ha_
     have Ha:=Lib.hid ha_
     clear ha_
     (try clear b0)
     (try clear b1)
     (try clear bl)
     have hb_:=(hf.block _ (lBk Hb.out) (by simp)).trans Hb.out
     clear Hb
     have b0:=hEC hb_ 0
     have b1:=hEC hb_ 1
     have bl:=lBk hb_
     have Hb:=Lib.hid hb_
     clear hb_
     (try clear c0)
     (try clear c1)
     (try clear c0z)
     (try clear c1z)
     (try clear cl)
     have hc_:=(hf.block _ (lBk Hc.out) (by simp)).trans Hc.out
     clear Hc
     have c0:=hEC hc_ 0
     have c0z:=hEF hc_ 0
     have c1:=hEC hc_ 1
     have c1z:=hEF hc_ 1
     have cl:=lBk hc_
     have Hc:=Lib.hid hc_
     clear hc_
     have Hf:=Lib.hid (Hf.out.trans0 hf)
     have H45:=Lib.hid (show w.heap.size+1+1<w5.heap.size by have:=Hw24.out;omega)
     have Hm:=Lib.hid (fun w1 (hf1:Fr [] w5 w1)=>rminus_calls (Hy.out.fr (hf.trans0 hf1)) (Hx.out.fr (hf.trans0 hf1)) HYD.out HXD.out HYX.out (by rw [HYV.out,HXV.out];exact Hle.out) (by omega))
     clear hf hd h45
     go_wp2_with fail
     refine wRS [([0,1,2,3,4],[1]),([5,6,7,8,9],[])] (by kernel_rfl) (by kernel_rfl) ?_
     (simp only [wpSegs,pick,Array.getD_eq_getD_getElem?,List.getElem?_toArray,List.getElem?_cons_succ,List.getElem?_cons_zero,Option.getD_some])
     go_wp2_with fail
     refine (Hm.out _ (by (repeat first|exact Fr.refl _ _|assumption|apply Fr.n|apply Fr.d|apply Fr.a|refine Fr.s ?_ (.inr (by simp;try omega)) _))).mono ?_
     rintro e w6 ⟨la,lc,hlo,rfl,hr,hf0⟩
     have hf:Fr [] w5 w6:=Fr.trans0 (by (repeat first|exact Fr.refl _ _|assumption|apply Fr.n|apply Fr.d|apply Fr.a|refine Fr.s ?_ (.inr (by simp;try omega)) _)) hf0
     have h56:=hf.size
     (try clear a0)
     (try clear a1)
     (try clear al)
     have ha_:=(hf.block _ (lBk Ha.out) (by simp)).trans Ha.out
     clear Ha
     have a0:=hEC ha_ 0
     have a1:=hEC ha_ 1
     have al:=lBk ha_
     have Ha:=Lib.hid ha_
     clear ha_
     (try clear b0)
     (try clear b1)
     (try clear bl)
     have hb_:=(hf.block _ (lBk Hb.out) (by simp)).trans Hb.out
     clear Hb
     have b0:=hEC hb_ 0
     have b1:=hEC hb_ 1
     have bl:=lBk hb_
     have Hb:=Lib.hid hb_
     clear hb_
     (try clear c0)
     (try clear c1)
     (try clear c0z)
     (try clear c1z)
     (try clear cl)
     have hc_:=(hf.block _ (lBk Hc.out) (by simp)).trans Hc.out
     clear Hc
     have c0:=hEC hc_ 0
     have c0z:=hEF hc_ 0
     have c1:=hEC hc_ 1
     have c1z:=hEF hc_ 1
     have cl:=lBk hc_
     have Hc:=Lib.hid hc_
     clear hc_
     have Hf:=Lib.hid (Hf.out.trans0 hf)
     obtain⟨D,hDe⟩:∃ D,dg 256 (val 256 Y - val 256 X)=D:=⟨_,rfl⟩
     have hDD:Dig 256 D:=by rw [← hDe];exact dg_dig (by omega) _
     have hDV:val 256 D=val 256 Y - val 256 X:=by rw [← hDe];exact val_dg (by omega) _
     have hDl:D.length≤Y.length:=by
      rw [← hDe,dg_length_le (by omega)]
      exact Nat.lt_of_le_of_lt (Nat.sub_le _ _) (val_lt HYD.out)
     rw [hDe] at hr hlo ⊢
     rw [HYV.out,HXV.out] at hDV
     clear hDe
     have hbg:=big_calls (neg:=nb) hr hDD (by omega) hlo.1
     rw [hDV,← HS1.out] at hbg
     clear hDD hDV hDl
     have Hbg:=Lib.hid hbg
     have H46:=Lib.hid (show w.heap.size+1+1<w6.heap.size by have:=H45.out;omega)
     clear hf hf0 hr hlo hbg h56
     go_wp2
     refine Mid.intro ⟨⟨again_cell (T:=4) rfl rfl rfl Try.underlying4 rfl b0 rfl,trivial⟩,?_⟩
     go_wp2_with fail
     refine (Hbg.out).mono ?_
     rintro e w6 ⟨ra,rc,hlo,rfl,hr,hf⟩
     (try clear c0)
     (try clear c1)
     (try clear c0z)
     (try clear c1z)
     (try clear cl)
     have hc_:=(hf.block _ (lBk Hc.out) (by simp)).trans Hc.out
     clear Hc
     have c0:=hEC hc_ 0
     have c0z:=hEF hc_ 0
     have c1:=hEC hc_ 1
     have c1z:=hEF hc_ 1
     have cl:=lBk hc_
     have Hc:=Lib.hid hc_
     clear hc_
     have Hf:=Lib.hid (Hf.out.trans0 hf)
     have Hlo:=Lib.hid hlo
     have Hr:=Lib.hid hr
     have Hs5:=Lib.hid H46.out
     clear hlo hr hf
     (try clear a0 a1 al b0 b1 bl)
     obtain⟨r1,r2,r3⟩:=r
     go_wp2
     refine Mid.intro ⟨trivial,Strict.intro rfl ?_⟩
     go_wp2
     (try simp only [Exit.inBlock,Exit.then])
     refine bodyPost_ret (bRS rfl (b:=w.heap.size+1+1) (x:=.bool r1) (y:=.slice ra r2.length rc) rfl ?_ rfl) rfl ⟨_,_,⟨Hlo.out.1,fun g hg=>(by have:=Hlo.out.2 g hg;have:=Hs5.out;omega)⟩,rfl,?_,?_⟩
     ·have h:=Hc.out
      (repeat first|rw [if_pos (by omega)]|rw [if_neg (by omega)]|rw [hDR]|rw [hDN]|rw [hAz]|rw [hSz]|rw [hAC]|rw [hSC]|rw [oMS]|rw [uPC]|rw [lSZ]|rw [lSS]|rfl)
      rw [h]
      (repeat first|rw [if_pos (by omega)]|rw [if_neg (by omega)]|rw [hDR]|rw [hDN]|rw [hAz]|rw [hSz]|rw [hAC]|rw [hSC]|rw [oMS]|rw [uPC]|rw [lSZ]|rw [lSS]|rfl)
     ·refine Hr.out.keep fun x hx hl=>?_
      have:=Hlo.out.2 x hx
      have:=Hs5.out
      rw [sCE _ _ _ (by simp;omega),sCE _ _ _ (by simp;omega)]
     ·exact (Hf.out.setCell (.inr (by simp;try omega)) _).setCell (.inr (by simp;try omega)) _
    ·rw [if_neg hv] at hS
     have HS1:=Lib.hid hS
     have Hle:=Lib.hid (Nat.le_of_not_lt hv)
     have hls:=less_calls Hx.out Hy.out HXD.out HYD.out HXC.out HYC.out (by omega) (by omega)
     rw [HXV.out,HYV.out,decide_eq_false hv] at hls
     have hYX:Y.length≤X.length:=by
      rcases Nat.lt_or_ge X.length Y.length with h|h
      ·have:=val_lt_len (by omega) HXD.out HYD.out HYC.out h
       rw [HXV.out,HYV.out] at this;omega
      ·exact h
     have Hls:=Lib.hid hls
     have HYX:=Lib.hid hYX
     clear hS hls hYX hv
     go_wp2_with fail
     refine Hls.out.mono ?_
     rintro e w5 ⟨rfl,hd⟩
     have hf:=hd.fr []
     have h45:=hf.size
     (try clear a0)
     (try clear a1)
     (try clear al)
     have ha_:=(hf.block _ (lBk Ha.out) (by simp)).trans Ha.out
     clear Ha
     have a0:=hEC ha_ 0
     have a1:=hEC ha_ 1
     have al:=lBk ha_
     have Ha:=Lib.hid ha_
     clear ha_
     (try clear b0)
     (try clear b1)
     (try clear bl)
     have hb_:=(hf.block _ (lBk Hb.out) (by simp)).trans Hb.out
     clear Hb
     have b0:=hEC hb_ 0
     have b1:=hEC hb_ 1
     have bl:=lBk hb_
     have Hb:=Lib.hid hb_
     clear hb_
     (try clear c0)
     (try clear c1)
     (try clear c0z)
     (try clear c1z)
     (try clear cl)
     have hc_:=(hf.block _ (lBk Hc.out) (by simp)).trans Hc.out
     clear Hc
     have c0:=hEC hc_ 0
     have c0z:=hEF hc_ 0
     have c1:=hEC hc_ 1
     have c1z:=hEF hc_ 1
     have cl:=lBk hc_
     have Hc:=Lib.hid hc_
     clear hc_
     have Hf:=Lib.hid (Hf.out.trans0 hf)
     have H45:=Lib.hid (show w.heap.size+1+1<w5.heap.size by have:=Hw24.out;omega)
     have Hm:=Lib.hid (fun w1 (hf1:Fr [] w5 w1)=>rminus_calls (Hx.out.fr (hf.trans0 hf1)) (Hy.out.fr (hf.trans0 hf1)) HXD.out HYD.out HYX.out (by rw [HXV.out,HYV.out];exact Hle.out) (by omega))
     clear hf hd h45
     go_wp2_with fail
     refine wRS [([0,1,2,3,4],[1]),([5,6,7,8,9],[])] (by kernel_rfl) (by kernel_rfl) ?_
     (simp only [wpSegs,pick,Array.getD_eq_getD_getElem?,List.getElem?_toArray,List.getElem?_cons_succ,List.getElem?_cons_zero,Option.getD_some])
     go_wp2_with fail
     refine (Hm.out _ (by (repeat first|exact Fr.refl _ _|assumption|apply Fr.n|apply Fr.d|apply Fr.a|refine Fr.s ?_ (.inr (by simp;try omega)) _))).mono ?_
     rintro e w6 ⟨la,lc,hlo,rfl,hr,hf0⟩
     have hf:Fr [] w5 w6:=Fr.trans0 (by (repeat first|exact Fr.refl _ _|assumption|apply Fr.n|apply Fr.d|apply Fr.a|refine Fr.s ?_ (.inr (by simp;try omega)) _)) hf0
     have h56:=hf.size
     (try clear a0)
     (try clear a1)
     (try clear al)
     have ha_:=(hf.block _ (lBk Ha.out) (by simp)).trans Ha.out
     clear Ha
     have a0:=hEC ha_ 0
     have a1:=hEC ha_ 1
     have al:=lBk ha_
     have Ha:=Lib.hid ha_
     clear ha_
     (try clear b0)
     (try clear b1)
     (try clear bl)
     have hb_:=(hf.block _ (lBk Hb.out) (by simp)).trans Hb.out
     clear Hb
     have b0:=hEC hb_ 0
     have b1:=hEC hb_ 1
     have bl:=lBk hb_
     have Hb:=Lib.hid hb_
     clear hb_
     (try clear c0)
     (try clear c1)
     (try clear c0z)
     (try clear c1z)
     (try clear cl)
     have hc_:=(hf.block _ (lBk Hc.out) (by simp)).trans Hc.out
     clear Hc
     have c0:=hEC hc_ 0
     have c0z:=hEF hc_ 0
     have c1:=hEC hc_ 1
     have c1z:=hEF hc_ 1
     have cl:=lBk hc_
     have Hc:=Lib.hid hc_
     clear hc_
     have Hf:=Lib.hid (Hf.out.trans0 hf)
     obtain⟨D,hDe⟩:∃ D,dg 256 (val 256 X - val 256 Y)=D:=⟨_,rfl⟩
     have hDD:Dig 256 D:=by rw [← hDe];exact dg_dig (by omega) _
     have hDV:val 256 D=val 256 X - val 256 Y:=by rw [← hDe];exact val_dg (by omega) _
     have hDl:D.length≤X.length:=by
      rw [← hDe,dg_length_le (by omega)]
      exact Nat.lt_of_le_of_lt (Nat.sub_le _ _) (val_lt HXD.out)
     rw [hDe] at hr hlo ⊢
     rw [HXV.out,HYV.out] at hDV
     clear hDe
     have hbg:=big_calls (neg:=na) hr hDD (by omega) hlo.1
     rw [hDV,← HS1.out] at hbg
     clear hDD hDV hDl
     have Hbg:=Lib.hid hbg
     have H46:=Lib.hid (show w.heap.size+1+1<w6.heap.size by have:=H45.out;omega)
     clear hf hf0 hr hlo hbg h56
     go_wp2
     refine Mid.intro ⟨⟨again_cell (T:=4) rfl rfl rfl Try.underlying4 rfl a0 rfl,trivial⟩,?_⟩
     go_wp2_with fail
     refine (Hbg.out).mono ?_
     rintro e w6 ⟨ra,rc,hlo,rfl,hr,hf⟩
     (try clear c0)
     (try clear c1)
     (try clear c0z)
     (try clear c1z)
     (try clear cl)
     have hc_:=(hf.block _ (lBk Hc.out) (by simp)).trans Hc.out
     clear Hc
     have c0:=hEC hc_ 0
     have c0z:=hEF hc_ 0
     have c1:=hEC hc_ 1
     have c1z:=hEF hc_ 1
     have cl:=lBk hc_
     have Hc:=Lib.hid hc_
     clear hc_
     have Hf:=Lib.hid (Hf.out.trans0 hf)
     have Hlo:=Lib.hid hlo
     have Hr:=Lib.hid hr
     have Hs5:=Lib.hid H46.out
     clear hlo hr hf
     (try clear a0 a1 al b0 b1 bl)
     obtain⟨r1,r2,r3⟩:=r
     go_wp2
     refine Mid.intro ⟨trivial,Strict.intro rfl ?_⟩
     go_wp2
     (try simp only [Exit.inBlock,Exit.then])
     refine bodyPost_ret (bRS rfl (b:=w.heap.size+1+1) (x:=.bool r1) (y:=.slice ra r2.length rc) rfl ?_ rfl) rfl ⟨_,_,⟨Hlo.out.1,fun g hg=>(by have:=Hlo.out.2 g hg;have:=Hs5.out;omega)⟩,rfl,?_,?_⟩
     ·have h:=Hc.out
      (repeat first|rw [if_pos (by omega)]|rw [if_neg (by omega)]|rw [hDR]|rw [hDN]|rw [hAz]|rw [hSz]|rw [hAC]|rw [hSC]|rw [oMS]|rw [uPC]|rw [lSZ]|rw [lSS]|rfl)
      rw [h]
      (repeat first|rw [if_pos (by omega)]|rw [if_neg (by omega)]|rw [hDR]|rw [hDN]|rw [hAz]|rw [hSz]|rw [hAC]|rw [hSC]|rw [oMS]|rw [uPC]|rw [lSZ]|rw [lSS]|rfl)
     ·refine Hr.out.keep fun x hx hl=>?_
      have:=Hlo.out.2 x hx
      have:=Hs5.out
      rw [sCE _ _ _ (by simp;omega),sCE _ _ _ (by simp;omega)]
     ·exact (Hf.out.setCell (.inr (by simp;try omega)) _).setCell (.inr (by simp;try omega)) _
end Go.Proofs.Ytppmnmheodimoaa
end
