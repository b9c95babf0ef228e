/- Own texts of this claim, part 9: no condition. -/
import Derived.Test.YtdanghnadbkhfaaGreatZR7
set_option linter.unusedVariables false
set_option linter.unusedSimpArgs false
section
namespace Go.Proofs.YtdanghnadbkhfaaGreat
open Go Go.RowKit Rg Hp Bn
set_option maxHeartbeats 8000000 in
set_option maxRecDepth 100000 in
theorem Add_calls {w:World} {na nb:Bool} {da db:List Nat} {va vb:Value} (ha:Reads w va da.length 1 (u32s da)) (hb:Reads w vb db.length 1 (u32s db)) (hDa:Dig 4294967296 da) (hDb:Dig 4294967296 db) (hla:da.length≤10000) (hlb:db.length≤10000) :
  Calls Tryz.prog 88 #[.agg #[.bool na,va],.agg #[.bool nb,vb]] w (BigPost w (w.heap.size≤·) (addS na da nb db)):=by
 have hra:=fun w1 (hf:Fr [] w w1)=>Right_calls (neg:=na) (ha.fr hf) (by omega)
 have hrb:=fun w1 (hf:Fr [] w w1)=>Right_calls (neg:=nb) (hb.fr hf) (by omega)
 have Ha:=Lib.hid ha
 have Hb:=Lib.hid hb
 obtain⟨_,a,ac,rfl,_⟩:=ha
 obtain⟨_,b,bc,rfl,_⟩:=hb
 have Hra:=Lib.hid hra
 have Hrb:=Lib.hid hrb
 have HDa:=Lib.hid hDa
 have HDb:=Lib.hid hDb
 obtain⟨r,hS⟩:∃ r,r=addS na da nb db:=⟨_,rfl⟩
 rw [← hS]
 unfold addS at hS
 clear hDa hDb hra hrb
 cases hR1:RightB na da with
 | false =>
  rw [hR1] at hS
  simp only [Bool.false_and,if_true] at hS
  subst hS
  have Hra':=Lib.hid (fun w1 hf=>hR1▸Hra.out w1 hf)
  clear hR1
  go_enter Tryz.func88,Tryz.ntmps88
  go_wp2_with fail
  refine (Hra'.out _ (by (repeat first|exact Fr.refl _ _|assumption|apply Fr.n|apply Fr.d|apply Fr.a|refine Fr.s ?_ (.inr (by simp;try omega)) _))).mono ?_
  rintro e w1 ⟨rfl,hf⟩
  have hc:=(hf.block (w.heap.size+1+1) (by simp) (by simp)).trans (show _=some (.cells #[.bool false,.slice none 0 0] 27 (0,0)) by (repeat first|rw [if_pos (by omega)]|rw [if_neg (by omega)]|rw [hDR]|rw [hDN]|rw [hAz]|rw [hSz]|rw [hAC]|rw [hSC]|rw [oMS]|rw [uPC]|rw [lSZ]|rw [lSS]|rfl))
  have c0:=hEC hc 0
  have c1:=hEC hc 1
  have z0:=hEF hc 0
  have z1:=hEF hc 1
  have cl:=lBk hc
  have Hc:=Lib.hid hc
  have Hf:=Lib.hid (Fr.trans0 (by (repeat first|exact Fr.refl _ _|assumption|apply Fr.n|apply Fr.d|apply Fr.a|refine Fr.s ?_ (.inr (by simp;try omega)) _):Fr [] w _) hf)
  clear hf hc
  go_wp2
  (try simp only [Exit.inBlock,Exit.then])
  refine bodyPost_ret (bRS rfl (b:=w.heap.size+1+1) (x:=.bool false) (y:=.slice none 0 0) rfl ?_ rfl) rfl ⟨_,_,⟨Nat.le_refl _,fun g hg=>(by cases hg)⟩,rfl,reads_nil _,?_⟩
  ·have h:=Hc.out
   (repeat first|rw [if_pos (by omega)]|rw [if_neg (by omega)]|rw [hDR]|rw [hDN]|rw [hAz]|rw [hSz]|rw [hAC]|rw [hSC]|rw [oMS]|rw [uPC]|rw [lSZ]|rw [lSS]|rfl)
   rw [h]
   (repeat first|rw [if_pos (by omega)]|rw [if_neg (by omega)]|rw [hDR]|rw [hDN]|rw [hAz]|rw [hSz]|rw [hAC]|rw [hSC]|rw [oMS]|rw [uPC]|rw [lSZ]|rw [lSS]|rfl)
  ·exact (Hf.out.setCell (.inr (by simp;try omega)) _).setCell (.inr (by simp;try omega)) _
 | true =>
  have Hra':=Lib.hid (fun w1 hf=>hR1▸Hra.out w1 hf)
  obtain⟨cA,lA,_⟩:=right_canon hR1
  have HcA:=Lib.hid cA
  rw [hR1] at hS
  clear hR1 cA Hra
  cases hR2:RightB nb db with
  | false =>
   rw [hR2] at hS
   simp only [Bool.and_false,if_true] at hS
   subst hS
   have Hrb':=Lib.hid (fun w1 hf=>hR2▸Hrb.out w1 hf)
   clear hR2
   go_enter Tryz.func88,Tryz.ntmps88
   go_wp2_with fail
   refine (Hra'.out _ (by (repeat first|exact Fr.refl _ _|assumption|apply Fr.n|apply Fr.d|apply Fr.a|refine Fr.s ?_ (.inr (by simp;try omega)) _))).mono ?_
   rintro e w1 ⟨rfl,hf⟩
   have hb:=(hf.block (w.heap.size+1) (by simp) (by simp)).trans (show _=some (.cells #[.bool nb,.slice b db.length bc] 27 (0,0)) by (repeat first|rw [if_pos (by omega)]|rw [if_neg (by omega)]|rw [hDR]|rw [hDN]|rw [hAz]|rw [hSz]|rw [hAC]|rw [hSC]|rw [oMS]|rw [uPC]|rw [lSZ]|rw [lSS]|rfl))
   have b0:=hEC hb 0
   have b1:=hEC hb 1
   have bl:=lBk hb
   have Hc1:=Lib.hid ((hf.block (w.heap.size+1+1) (by simp) (by simp)).trans (show _=some (.cells #[.bool false,.slice none 0 0] 27 (0,0)) by (repeat first|rw [if_pos (by omega)]|rw [if_neg (by omega)]|rw [hDR]|rw [hDN]|rw [hAz]|rw [hSz]|rw [hAC]|rw [hSC]|rw [oMS]|rw [uPC]|rw [lSZ]|rw [lSS]|rfl)))
   have Hf1:=Lib.hid (Fr.trans0 (by (repeat first|exact Fr.refl _ _|assumption|apply Fr.n|apply Fr.d|apply Fr.a|refine Fr.s ?_ (.inr (by simp;try omega)) _):Fr [] w _) hf)
   clear hf hb
   go_wp2_with fail
   refine (Hrb'.out _ Hf1.out).mono ?_
   rintro e w2 ⟨rfl,hf⟩
   have hc:=(hf.block _ (lBk Hc1.out) (by simp)).trans Hc1.out
   have c0:=hEC hc 0
   have c1:=hEC hc 1
   have z0:=hEF hc 0
   have z1:=hEF hc 1
   have cl:=lBk hc
   have Hc:=Lib.hid hc
   have Hf:=Lib.hid (Hf1.out.trans0 hf)
   clear hf hc b0 b1
   go_wp2
   (try simp only [Exit.inBlock,Exit.then])
   refine bodyPost_ret (bRS rfl (b:=w.heap.size+1+1) (x:=.bool false) (y:=.slice none 0 0) rfl ?_ rfl) rfl ⟨_,_,⟨Nat.le_refl _,fun g hg=>(by cases hg)⟩,rfl,reads_nil _,?_⟩
   ·have h:=Hc.out
    (repeat first|rw [if_pos (by omega)]|rw [if_neg (by omega)]|rw [hDR]|rw [hDN]|rw [hAz]|rw [hSz]|rw [hAC]|rw [hSC]|rw [oMS]|rw [uPC]|rw [lSZ]|rw [lSS]|rfl)
    rw [h]
    (repeat first|rw [if_pos (by omega)]|rw [if_neg (by omega)]|rw [hDR]|rw [hDN]|rw [hAz]|rw [hSz]|rw [hAC]|rw [hSC]|rw [oMS]|rw [uPC]|rw [lSZ]|rw [lSS]|rfl)
   ·exact (Hf.out.setCell (.inr (by simp;try omega)) _).setCell (.inr (by simp;try omega)) _
  | true =>
   have Hrb':=Lib.hid (fun w1 hf=>hR2▸Hrb.out w1 hf)
   obtain⟨cB,lB,_⟩:=right_canon hR2
   have HcB:=Lib.hid cB
   rw [hR2] at hS
   simp only [Bool.and_self,Bool.true_eq_false,if_false] at hS
   have HS:=Lib.hid hS
   clear hR2 cB Hrb hS
   go_enter Tryz.func88,Tryz.ntmps88
   go_wp2_with fail
   refine (Hra'.out _ (by (repeat first|exact Fr.refl _ _|assumption|apply Fr.n|apply Fr.d|apply Fr.a|refine Fr.s ?_ (.inr (by simp;try omega)) _))).mono ?_
   rintro e w1 ⟨rfl,hf⟩
   have hb:=(hf.block (w.heap.size+1) (by simp) (by simp)).trans (show _=some (.cells #[.bool nb,.slice b db.length bc] 27 (0,0)) by (repeat first|rw [if_pos (by omega)]|rw [if_neg (by omega)]|rw [hDR]|rw [hDN]|rw [hAz]|rw [hSz]|rw [hAC]|rw [hSC]|rw [oMS]|rw [uPC]|rw [lSZ]|rw [lSS]|rfl))
   have b0:=hEC hb 0
   have b1:=hEC hb 1
   have bl:=lBk hb
   have Hb1:=Lib.hid hb
   have Ha1:=Lib.hid ((hf.block w.heap.size (by simp;omega) (by simp)).trans (show _=some (.cells #[.bool na,.slice a da.length ac] 27 (0,0)) by (repeat first|rw [if_pos (by omega)]|rw [if_neg (by omega)]|rw [hDR]|rw [hDN]|rw [hAz]|rw [hSz]|rw [hAC]|rw [hSC]|rw [oMS]|rw [uPC]|rw [lSZ]|rw [lSS]|rfl)))
   have Hc1:=Lib.hid ((hf.block (w.heap.size+1+1) (by simp) (by simp)).trans (show _=some (.cells #[.bool false,.slice none 0 0] 27 (0,0)) by (repeat first|rw [if_pos (by omega)]|rw [if_neg (by omega)]|rw [hDR]|rw [hDN]|rw [hAz]|rw [hSz]|rw [hAC]|rw [hSC]|rw [oMS]|rw [uPC]|rw [lSZ]|rw [lSS]|rfl)))
   have Hf1:=Lib.hid (Fr.trans0 (by (repeat first|exact Fr.refl _ _|assumption|apply Fr.n|apply Fr.d|apply Fr.a|refine Fr.s ?_ (.inr (by simp;try omega)) _):Fr [] w _) hf)
   clear hf hb
   go_wp2_with fail
   refine (Hrb'.out _ Hf1.out).mono ?_
   rintro e w2 ⟨rfl,hf⟩
   have hc2:=(hf.block _ (lBk Hc1.out) (by simp)).trans Hc1.out
   have ha2:=(hf.block _ (lBk Ha1.out) (by simp)).trans Ha1.out
   have hb2:=(hf.block _ (lBk Hb1.out) (by simp)).trans Hb1.out
   clear b0 b1 bl
   have a0:=hEC ha2 0
   have a1:=hEC ha2 1
   have al:=lBk ha2
   have b0:=hEC hb2 0
   have b1:=hEC hb2 1
   have bl:=lBk hb2
   have Hc2:=Lib.hid hc2
   have Ha2:=Lib.hid ha2
   have Hb2:=Lib.hid hb2
   have Hf2:=Lib.hid (Hf1.out.trans0 hf)
   clear hf hc2 ha2 hb2
   by_cases hn:na=nb
   ·subst hn
    have hS:=HS.out
    rw [if_pos rfl] at hS
    have HS1:=Lib.hid hS
    clear hS HS
    go_wp2
    refine wRS [([0,1,2,3,4,5,6],[1]),([7,8,9,10,11],[])] (by kernel_rfl) (by kernel_rfl) ?_
    (simp only [wpSegs,pick,Array.getD_eq_getD_getElem?,List.getElem?_toArray,List.getElem?_cons_succ,List.getElem?_cons_zero,Option.getD_some])
    go_wp2_with fail
    refine (plus_calls (Ha.out.fr (by have:=Hf2.out;(repeat first|exact Fr.refl _ _|assumption|apply Fr.n|apply Fr.d|apply Fr.a|refine Fr.s ?_ (.inr (by simp;try omega)) _))) (Hb.out.fr (by have:=Hf2.out;(repeat first|exact Fr.refl _ _|assumption|apply Fr.n|apply Fr.d|apply Fr.a|refine Fr.s ?_ (.inr (by simp;try omega)) _))) HDa.out HDb.out (by omega) (by omega)).mono ?_
    rintro e w3 ⟨pa,pc,ds,rfl,ho,hD,hV,hl,hlc,hf0⟩
    have hf:Fr [] w2 w3:=Fr.trans0 (by (repeat first|exact Fr.refl _ _|assumption|apply Fr.n|apply Fr.d|apply Fr.a|refine Fr.s ?_ (.inr (by simp;try omega)) _)) hf0
    have ha3:=(hf.block _ al (by simp)).trans Ha2.out
    have a0':=hEC ha3 0
    have a1':=hEC ha3 1
    have al':=lBk ha3
    have Ho3:=Lib.hid ho
    have HD3:=Lib.hid hD
    have HV3:=Lib.hid hV
    have Hl3:=Lib.hid hl
    have Hlc:=Lib.hid hlc
    have Hc3:=Lib.hid ((hf.block _ (lBk Hc2.out) (by simp)).trans Hc2.out)
    have Hf3:=Lib.hid (Hf2.out.trans0 hf)
    clear ho hD hV hl hlc hf hf0 ha3 a0 a1 al b0 b1 bl
    go_wp2
    refine Mid.intro ⟨⟨again_cell (T:=4) rfl rfl rfl Tryz.underlying4 rfl a0' rfl,trivial⟩,?_⟩
    go_wp2_with fail
    refine (made_calls (neg:=na) (Reads.of_owns Ho3.out) HD3.out (by have:=Hl3.out;omega) Hlc.out (A:=fun g=>w2.heap.size≤g) (fun g hg=>owns_ge Ho3.out hg)).mono ?_
    rintro e w4 ⟨ra,rc,hlo,rfl,hr,hf⟩
    rw [HV3.out,← HS1.out] at hlo hr
    rw [HV3.out,← HS1.out]
    have hc4:=(hf.block _ (lBk Hc3.out) (by simp)).trans Hc3.out
    have c0:=hEC hc4 0
    have c1:=hEC hc4 1
    have z0:=hEF hc4 0
    have z1:=hEF hc4 1
    have cl:=lBk hc4
    have Hc:=Lib.hid hc4
    have Hlo:=Lib.hid hlo
    have Hr:=Lib.hid hr
    have Hf:=Lib.hid (Hf3.out.trans0 hf)
    have hcl2:w.heap.size+1+1<w2.heap.size:=lBk Hc2.out
    have Hcl2:=Lib.hid hcl2
    clear hlo hr hf hc4 a0' a1' al' hcl2
    obtain⟨r1,r2,r3⟩:=r
    go_wp2
    refine Mid.intro ⟨trivial,Strict.intro rfl ?_⟩
    go_wp2
    (try simp only [Exit.inBlock,Exit.then])
    refine bodyPost_ret (bRS rfl (b:=w.heap.size+1+1) (x:=.bool r1) (y:=.slice ra r2.length rc) rfl ?_ rfl) rfl ⟨_,_,⟨Hlo.out.1,fun g hg=>(by have:=Hlo.out.2 g hg;have:=Hcl2.out;omega)⟩,rfl,?_,?_⟩
    ·have h:=Hc.out
     (repeat first|rw [if_pos (by omega)]|rw [if_neg (by omega)]|rw [hDR]|rw [hDN]|rw [hAz]|rw [hSz]|rw [hAC]|rw [hSC]|rw [oMS]|rw [uPC]|rw [lSZ]|rw [lSS]|rfl)
     rw [h]
     (repeat first|rw [if_pos (by omega)]|rw [if_neg (by omega)]|rw [hDR]|rw [hDN]|rw [hAz]|rw [hSz]|rw [hAC]|rw [hSC]|rw [oMS]|rw [uPC]|rw [lSZ]|rw [lSS]|rfl)
    ·refine Hr.out.keep fun x hx hl=>?_
     have:=Hlo.out.2 x hx
     have hcl:=Hcl2.out
     rw [sCE _ _ _ (by simp;omega),sCE _ _ _ (by simp;omega)]
    ·exact (Hf.out.setCell (.inr (by simp;try omega)) _).setCell (.inr (by simp;try omega)) _
   ·have hS:=HS.out
    rw [if_neg hn] at hS
    have hnb:(na != nb)=true:=by simpa using hn
    have hne:(na == nb)=false:=by simpa using hn
    have HN:=Lib.hid hn
    have hag:=fun w3 (hf:Fr [] w w3)=>against_calls (Ha.out.fr hf) (Hb.out.fr hf) HDa.out HDb.out HcA.out HcB.out (by omega) (by omega)
    clear hn HS
    by_cases hv:val 4294967296 da<val 4294967296 db
    ·rw [if_pos hv] at hS
     have hc:cmpN (val 4294967296 da) (val 4294967296 db)=-1:=by unfold cmpN;rw [if_pos hv]
     rw [hc] at hag
     have hlen:da.length≤db.length:=by
      rcases Nat.lt_or_ge db.length da.length with h|h
      ·have:=val_lt_len (by omega) HDb.out HDa.out HcA.out h;omega
      ·exact h
     have HS1:=Lib.hid hS
     have Hlen:=Lib.hid hlen
     have Hval:=Lib.hid (Nat.le_of_lt hv)
     have Hag:=Lib.hid hag
     clear hS hlen hc hag hv
     go_wp2_with fail
     refine (Hag.out _ Hf2.out).mono ?_
     rintro e w3 ⟨rfl,hd⟩
     have hf:=hd.fr []
     have H23:=Lib.hid hf.size
     have ha3:=(hf.block _ al (by simp)).trans Ha2.out
     have hb3:=(hf.block _ bl (by simp)).trans Hb2.out
     have Hc3':=Lib.hid ((hf.block _ (lBk Hc2.out) (by simp)).trans Hc2.out)
     have Hf3':=Lib.hid (Hf2.out.trans0 hf)
     clear a0 a1 al b0 b1 bl
     have a0:=hEC ha3 0
     have a1:=hEC ha3 1
     have al:=lBk ha3
     have b0:=hEC hb3 0
     have b1:=hEC hb3 1
     have bl:=lBk hb3
     have az0:=hEF ha3 0
     have az1:=hEF ha3 1
     have bz0:=hEF hb3 0
     have bz1:=hEF hb3 1
     have Ha3:=Lib.hid ha3
     have Hb3:=Lib.hid hb3
     clear hd hf ha3 hb3
     go_wp2
     refine aBW (fun W=>W.heap[w.heap.size]?=some (.cells #[.bool nb,.slice b db.length bc] 27 (0,0))∧W.heap[w.heap.size+1]?=some (.cells #[.bool na,.slice a da.length ac] 27 (0,0)) ∧
      W.heap[w.heap.size+1+1]?=some (.cells #[.bool false,.slice none 0 0] 27 (0,0))∧Fr [] w W∧w2.heap.size≤W.heap.size) ?_ ?_
     ·have ha3:=Ha3.out
      have hb3:=Hb3.out
      have hc3:=Hc3'.out
      refine⟨by (repeat first|rw [if_pos (by omega)]|rw [if_neg (by omega)]|rw [hDR]|rw [hDN]|rw [hAz]|rw [hSz]|rw [hAC]|rw [hSC]|rw [oMS]|rw [uPC]|rw [lSZ]|rw [lSS]|rfl);rw [ha3];(repeat first|rw [if_pos (by omega)]|rw [if_neg (by omega)]|rw [hDR]|rw [hDN]|rw [hAz]|rw [hSz]|rw [hAC]|rw [hSC]|rw [oMS]|rw [uPC]|rw [lSZ]|rw [lSS]|rfl),by (repeat first|rw [if_pos (by omega)]|rw [if_neg (by omega)]|rw [hDR]|rw [hDN]|rw [hAz]|rw [hSz]|rw [hAC]|rw [hSC]|rw [oMS]|rw [uPC]|rw [lSZ]|rw [lSS]|rfl);rw [hb3];(repeat first|rw [if_pos (by omega)]|rw [if_neg (by omega)]|rw [hDR]|rw [hDN]|rw [hAz]|rw [hSz]|rw [hAC]|rw [hSC]|rw [oMS]|rw [uPC]|rw [lSZ]|rw [lSS]|rfl),by (repeat first|rw [if_pos (by omega)]|rw [if_neg (by omega)]|rw [hDR]|rw [hDN]|rw [hAz]|rw [hSz]|rw [hAC]|rw [hSC]|rw [oMS]|rw [uPC]|rw [lSZ]|rw [lSS]|rfl);exact hc3,?_,by simp only [hSz];exact H23.out⟩
      exact (((Hf3'.out.setCell (.inr (by simp;try omega)) _).setCell (.inr (by simp;try omega)) _).setCell (.inr (by simp;try omega)) _).setCell (.inr (by simp;try omega)) _
     clear a0 a1 al b0 b1 bl az0 az1 bz0 bz1
     rintro W5 ⟨ha5,hb5,hc5,hf5,h25⟩
     have a0:=hEC ha5 0
     have a1:=hEC ha5 1
     have al:=lBk ha5
     have b0:=hEC hb5 0
     have b1:=hEC hb5 1
     have bl:=lBk hb5
     have Ha5:=Lib.hid ha5
     have Hc5:=Lib.hid hc5
     have Hf5:=Lib.hid hf5
     have H25:=Lib.hid h25
     clear ha5 hb5 hc5 hf5 h25
     refine wRS [([0,1,2,3,4,5,6],[1]),([7,8,9,10,11],[])] (by kernel_rfl) (by kernel_rfl) ?_
     (simp only [wpSegs,pick,Array.getD_eq_getD_getElem?,List.getElem?_toArray,List.getElem?_cons_succ,List.getElem?_cons_zero,Option.getD_some])
     go_wp2_with fail
     refine (minus_calls (Hb.out.fr ?q1) (Ha.out.fr ?q2) HDb.out HDa.out (by omega) Hlen.out Hval.out).mono ?_
     case q1=>have:=Hf5.out;(repeat first|exact Fr.refl _ _|assumption|apply Fr.n|apply Fr.d|apply Fr.a|refine Fr.s ?_ (.inr (by simp;try omega)) _)
     case q2=>have:=Hf5.out;(repeat first|exact Fr.refl _ _|assumption|apply Fr.n|apply Fr.d|apply Fr.a|refine Fr.s ?_ (.inr (by simp;try omega)) _)
     rintro e w6 ⟨pa,pc,ds,rfl,ho,hD,hV,hl,hlc,hf0⟩
     have hf:Fr [] W5 w6:=Fr.trans0 (by (repeat first|exact Fr.refl _ _|assumption|apply Fr.n|apply Fr.d|apply Fr.a|refine Fr.s ?_ (.inr (by simp;try omega)) _)) hf0
     have ha3:=(hf.block _ al (by simp)).trans Ha5.out
     have a0':=hEC ha3 0
     have a1':=hEC ha3 1
     have al':=lBk ha3
     have Ho3:=Lib.hid ho
     have HD3:=Lib.hid hD
     have HV3:=Lib.hid hV
     have Hl3:=Lib.hid hl
     have Hlc:=Lib.hid hlc
     have Hc3:=Lib.hid ((hf.block _ (lBk Hc5.out) (by simp)).trans Hc5.out)
     have Hf3:=Lib.hid (Hf5.out.trans0 hf)
     clear ho hD hV hl hlc hf hf0 ha3 a0 a1 al b0 b1 bl
     go_wp2
     refine Mid.intro ⟨⟨again_cell (T:=4) rfl rfl rfl Tryz.underlying4 rfl a0' rfl,trivial⟩,?_⟩
     go_wp2_with fail
     refine (made_calls (neg:=nb) (Reads.of_owns Ho3.out) HD3.out (by have:=Hl3.out;omega) Hlc.out (A:=fun g=>w2.heap.size≤g) (fun g hg=>by have h1:W5.heap.size≤g:=owns_ge Ho3.out hg;have:=H25.out;omega)).mono ?_
     rintro e w7 ⟨ra,rc,hlo,rfl,hr,hf⟩
     rw [HV3.out,← HS1.out] at hlo hr
     rw [HV3.out,← HS1.out]
     have hc4:=(hf.block _ (lBk Hc3.out) (by simp)).trans Hc3.out
     have c0:=hEC hc4 0
     have c1:=hEC hc4 1
     have z0:=hEF hc4 0
     have z1:=hEF hc4 1
     have cl:=lBk hc4
     have Hc:=Lib.hid hc4
     have Hlo:=Lib.hid hlo
     have Hr:=Lib.hid hr
     have Hf:=Lib.hid (Hf3.out.trans0 hf)
     have hcl2:w.heap.size+1+1<w2.heap.size:=lBk Hc2.out
     have Hcl2:=Lib.hid hcl2
     clear hlo hr hf hc4 a0' a1' al' hcl2
     obtain⟨r1,r2,r3⟩:=r
     go_wp2
     refine Mid.intro ⟨trivial,Strict.intro rfl ?_⟩
     go_wp2
     (try simp only [Exit.inBlock,Exit.then])
     refine bodyPost_ret (bRS rfl (b:=w.heap.size+1+1) (x:=.bool r1) (y:=.slice ra r2.length rc) rfl ?_ rfl) rfl ⟨_,_,⟨Hlo.out.1,fun g hg=>(by have:=Hlo.out.2 g hg;have:=Hcl2.out;omega)⟩,rfl,?_,?_⟩
     ·have h:=Hc.out
      (repeat first|rw [if_pos (by omega)]|rw [if_neg (by omega)]|rw [hDR]|rw [hDN]|rw [hAz]|rw [hSz]|rw [hAC]|rw [hSC]|rw [oMS]|rw [uPC]|rw [lSZ]|rw [lSS]|rfl)
      rw [h]
      (repeat first|rw [if_pos (by omega)]|rw [if_neg (by omega)]|rw [hDR]|rw [hDN]|rw [hAz]|rw [hSz]|rw [hAC]|rw [hSC]|rw [oMS]|rw [uPC]|rw [lSZ]|rw [lSS]|rfl)
     ·refine Hr.out.keep fun x hx hl=>?_
      have:=Hlo.out.2 x hx
      have hcl:=Hcl2.out
      rw [sCE _ _ _ (by simp;omega),sCE _ _ _ (by simp;omega)]
     ·exact (Hf.out.setCell (.inr (by simp;try omega)) _).setCell (.inr (by simp;try omega)) _
    ·rw [if_neg hv] at hS
     have hc:0≤cmpN (val 4294967296 da) (val 4294967296 db):=by unfold cmpN;rw [if_neg hv];split<;>omega
     have hlen:db.length≤da.length:=by
      rcases Nat.lt_or_ge da.length db.length with h|h
      ·have:=val_lt_len (by omega) HDa.out HDb.out HcB.out h;omega
      ·exact h
     obtain⟨q,hq⟩:∃ q,cmpN (val 4294967296 da) (val 4294967296 db)=q:=⟨_,rfl⟩
     rw [hq] at hag hc
     have HS1:=Lib.hid hS
     have Hlen:=Lib.hid hlen
     have Hval:=Lib.hid (Nat.le_of_not_lt hv)
     have Hag:=Lib.hid hag
     have hqd:decide (q<0)=false:=by simp;omega
     clear hS hlen hag hv hq
     go_wp2_with fail
     refine (Hag.out _ Hf2.out).mono ?_
     rintro e W5 ⟨rfl,hd⟩
     have hf:=hd.fr []
     have H25:=Lib.hid hf.size
     have ha3:=(hf.block _ al (by simp)).trans Ha2.out
     have hb3:=(hf.block _ bl (by simp)).trans Hb2.out
     have Hc5:=Lib.hid ((hf.block _ (lBk Hc2.out) (by simp)).trans Hc2.out)
     have Hf5:=Lib.hid (Hf2.out.trans0 hf)
     clear a0 a1 al b0 b1 bl
     have a0:=hEC ha3 0
     have a1:=hEC ha3 1
     have al:=lBk ha3
     have b0:=hEC hb3 0
     have b1:=hEC hb3 1
     have bl:=lBk hb3
     have Ha5:=Lib.hid ha3
     clear hd hf ha3 hb3
     go_wp2
     refine wRS [([0,1,2,3,4,5,6],[1]),([7,8,9,10,11],[])] (by kernel_rfl) (by kernel_rfl) ?_
     (simp only [wpSegs,pick,Array.getD_eq_getD_getElem?,List.getElem?_toArray,List.getElem?_cons_succ,List.getElem?_cons_zero,Option.getD_some])
     go_wp2_with fail
     refine (minus_calls (Ha.out.fr ?q1) (Hb.out.fr ?q2) HDa.out HDb.out (by omega) Hlen.out Hval.out).mono ?_
     case q1=>have:=Hf5.out;(repeat first|exact Fr.refl _ _|assumption|apply Fr.n|apply Fr.d|apply Fr.a|refine Fr.s ?_ (.inr (by simp;try omega)) _)
     case q2=>have:=Hf5.out;(repeat first|exact Fr.refl _ _|assumption|apply Fr.n|apply Fr.d|apply Fr.a|refine Fr.s ?_ (.inr (by simp;try omega)) _)
     rintro e w6 ⟨pa,pc,ds,rfl,ho,hD,hV,hl,hlc,hf0⟩
     have hf:Fr [] W5 w6:=Fr.trans0 (by (repeat first|exact Fr.refl _ _|assumption|apply Fr.n|apply Fr.d|apply Fr.a|refine Fr.s ?_ (.inr (by simp;try omega)) _)) hf0
     have ha3:=(hf.block _ al (by simp)).trans Ha5.out
     have a0':=hEC ha3 0
     have a1':=hEC ha3 1
     have al':=lBk ha3
     have Ho3:=Lib.hid ho
     have HD3:=Lib.hid hD
     have HV3:=Lib.hid hV
     have Hl3:=Lib.hid hl
     have Hlc:=Lib.hid hlc
     have Hc3:=Lib.hid ((hf.block _ (lBk Hc5.out) (by simp)).trans Hc5.out)
     have Hf3:=Lib.hid (Hf5.out.trans0 hf)
     clear ho hD hV hl hlc hf hf0 ha3 a0 a1 al b0 b1 bl
     go_wp2
     refine Mid.intro ⟨⟨again_cell (T:=4) rfl rfl rfl Tryz.underlying4 rfl a0' rfl,trivial⟩,?_⟩
     go_wp2_with fail
     refine (made_calls (neg:=na) (Reads.of_owns Ho3.out) HD3.out (by have:=Hl3.out;omega) Hlc.out (A:=fun g=>w2.heap.size≤g) (fun g hg=>by have h1:W5.heap.size≤g:=owns_ge Ho3.out hg;have:=H25.out;omega)).mono ?_
     rintro e w7 ⟨ra,rc,hlo,rfl,hr,hf⟩
     rw [HV3.out,← HS1.out] at hlo hr
     rw [HV3.out,← HS1.out]
     have hc4:=(hf.block _ (lBk Hc3.out) (by simp)).trans Hc3.out
     have c0:=hEC hc4 0
     have c1:=hEC hc4 1
     have z0:=hEF hc4 0
     have z1:=hEF hc4 1
     have cl:=lBk hc4
     have Hc:=Lib.hid hc4
     have Hlo:=Lib.hid hlo
     have Hr:=Lib.hid hr
     have Hf:=Lib.hid (Hf3.out.trans0 hf)
     have hcl2:w.heap.size+1+1<w2.heap.size:=lBk Hc2.out
     have Hcl2:=Lib.hid hcl2
     clear hlo hr hf hc4 a0' a1' al' hcl2
     obtain⟨r1,r2,r3⟩:=r
     go_wp2
     refine Mid.intro ⟨trivial,Strict.intro rfl ?_⟩
     go_wp2
     (try simp only [Exit.inBlock,Exit.then])
     refine bodyPost_ret (bRS rfl (b:=w.heap.size+1+1) (x:=.bool r1) (y:=.slice ra r2.length rc) rfl ?_ rfl) rfl ⟨_,_,⟨Hlo.out.1,fun g hg=>(by have:=Hlo.out.2 g hg;have:=Hcl2.out;omega)⟩,rfl,?_,?_⟩
     ·have h:=Hc.out
      (repeat first|rw [if_pos (by omega)]|rw [if_neg (by omega)]|rw [hDR]|rw [hDN]|rw [hAz]|rw [hSz]|rw [hAC]|rw [hSC]|rw [oMS]|rw [uPC]|rw [lSZ]|rw [lSS]|rfl)
      rw [h]
      (repeat first|rw [if_pos (by omega)]|rw [if_neg (by omega)]|rw [hDR]|rw [hDN]|rw [hAz]|rw [hSz]|rw [hAC]|rw [hSC]|rw [oMS]|rw [uPC]|rw [lSZ]|rw [lSS]|rfl)
     ·refine Hr.out.keep fun x hx hl=>?_
      have:=Hlo.out.2 x hx
      have hcl:=Hcl2.out
      rw [sCE _ _ _ (by simp;omega),sCE _ _ _ (by simp;omega)]
     ·exact (Hf.out.setCell (.inr (by simp;try omega)) _).setCell (.inr (by simp;try omega)) _
end Go.Proofs.YtdanghnadbkhfaaGreat
end
section
namespace Go.Proofs.YtdanghnadbkhfaaGreat
open Go Go.RowKit Rg Hp Bn
set_option maxHeartbeats 4000000 in
set_option maxRecDepth 100000 in
theorem Compare_calls {w:World} {na nb:Bool} {da db:List Nat} {va vb:Value} (ha:Reads w va da.length 1 (u32s da)) (hb:Reads w vb db.length 1 (u32s db)) (hDa:Dig 4294967296 da) (hDb:Dig 4294967296 db) (hla:da.length≤10000) (hlb:db.length≤10000) :
  Calls Tryz.prog 53 #[.agg #[.bool na,va],.agg #[.bool nb,vb]] w fun e w'=>e=.returned (.int .i64 (cmpS na da nb db))∧Fr [] w w':=by
 have hra:=fun w1 (hf:Fr [] w w1)=>Right_calls (neg:=na) (ha.fr hf) (by omega)
 have hrb:=fun w1 (hf:Fr [] w w1)=>Right_calls (neg:=nb) (hb.fr hf) (by omega)
 have Ha:=Lib.hid ha
 have Hb:=Lib.hid hb
 obtain⟨_,a,ac,rfl,_⟩:=ha
 obtain⟨_,b,bc,rfl,_⟩:=hb
 have HDa:=Lib.hid hDa
 have HDb:=Lib.hid hDb
 obtain⟨r,hS⟩:∃ r,r=cmpS na da nb db:=⟨_,rfl⟩
 rw [← hS]
 unfold cmpS at hS
 clear hDa hDb
 cases hR1:RightB na da with
 | false =>
  rw [hR1] at hra hS
  simp only [Bool.false_and,if_true] at hS
  subst hS
  have Hra:=Lib.hid hra
  clear hR1 hra hrb
  go_enter Tryz.func53,Tryz.ntmps53
  go_wp2_with fail
  refine (Hra.out _ (by (repeat first|exact Fr.refl _ _|assumption|apply Fr.n|apply Fr.d|apply Fr.a|refine Fr.s ?_ (.inr (by simp;try omega)) _))).mono ?_
  rintro e w1 ⟨rfl,hf⟩
  have Hf:=Lib.hid (Fr.trans0 (by (repeat first|exact Fr.refl _ _|assumption|apply Fr.n|apply Fr.d|apply Fr.a|refine Fr.s ?_ (.inr (by simp;try omega)) _):Fr [] w _) hf)
  clear hf
  go_wp2
  go_ret
  exact⟨rfl,Hf.out⟩
 | true =>
  rw [hR1] at hra hS
  obtain⟨cA,lA,_⟩:=right_canon hR1
  have HcA:=Lib.hid cA
  have Hra:=Lib.hid hra
  clear hR1 hra cA
  cases hR2:RightB nb db with
  | false =>
   rw [hR2] at hrb hS
   simp only [Bool.and_false,if_true] at hS
   subst hS
   have Hrb:=Lib.hid hrb
   clear hR2 hrb
   go_enter Tryz.func53,Tryz.ntmps53
   go_wp2_with fail
   refine (Hra.out _ (by (repeat first|exact Fr.refl _ _|assumption|apply Fr.n|apply Fr.d|apply Fr.a|refine Fr.s ?_ (.inr (by simp;try omega)) _))).mono ?_
   rintro e w1 ⟨rfl,hf⟩
   have hb1:=(hf.block (w.heap.size+1) (by simp) (by simp)).trans (show _=some (.cells #[.bool nb,.slice b db.length bc] 27 (0,0)) by (repeat first|rw [if_pos (by omega)]|rw [if_neg (by omega)]|rw [hDR]|rw [hDN]|rw [hAz]|rw [hSz]|rw [hAC]|rw [hSC]|rw [oMS]|rw [uPC]|rw [lSZ]|rw [lSS]|rfl))
   have b0:=hEC hb1 0
   have b1:=hEC hb1 1
   have bl:=lBk hb1
   have Hf1:=Lib.hid (Fr.trans0 (by (repeat first|exact Fr.refl _ _|assumption|apply Fr.n|apply Fr.d|apply Fr.a|refine Fr.s ?_ (.inr (by simp;try omega)) _):Fr [] w _) hf)
   clear hf hb1
   go_wp2_with fail
   refine (Hrb.out _ Hf1.out).mono ?_
   rintro e w2 ⟨rfl,hf⟩
   have Hf:=Lib.hid (Hf1.out.trans0 hf)
   clear hf b0 b1
   go_wp2
   go_ret
   exact⟨rfl,Hf.out⟩
  | true =>
   rw [hR2] at hrb hS
   obtain⟨cB,lB,_⟩:=right_canon hR2
   have HcB:=Lib.hid cB
   simp only [Bool.and_self,Bool.true_eq_false,if_false] at hS
   have Hrb:=Lib.hid hrb
   have hag:=fun w3 (hf:Fr [] w w3)=>against_calls (Ha.out.fr hf) (Hb.out.fr hf) HDa.out HDb.out HcA.out cB (by omega) (by omega)
   have hag2:=fun w3 (hf:Fr [] w w3)=>against_calls (Hb.out.fr hf) (Ha.out.fr hf) HDb.out HDa.out cB HcA.out (by omega) (by omega)
   generalize cmpN (val 4294967296 da) (val 4294967296 db)=q1 at *
   generalize cmpN (val 4294967296 db) (val 4294967296 da)=q2 at *
   have Hag:=Lib.hid hag
   have Hag2:=Lib.hid hag2
   have HS:=Lib.hid hS
   clear hR2 hrb cB hag hag2 hS
   go_enter Tryz.func53,Tryz.ntmps53
   go_wp2_with fail
   refine (Hra.out _ (by (repeat first|exact Fr.refl _ _|assumption|apply Fr.n|apply Fr.d|apply Fr.a|refine Fr.s ?_ (.inr (by simp;try omega)) _))).mono ?_
   rintro e w1 ⟨rfl,hf⟩
   have hb1:=(hf.block (w.heap.size+1) (by simp) (by simp)).trans (show _=some (.cells #[.bool nb,.slice b db.length bc] 27 (0,0)) by (repeat first|rw [if_pos (by omega)]|rw [if_neg (by omega)]|rw [hDR]|rw [hDN]|rw [hAz]|rw [hSz]|rw [hAC]|rw [hSC]|rw [oMS]|rw [uPC]|rw [lSZ]|rw [lSS]|rfl))
   have b0:=hEC hb1 0
   have b1:=hEC hb1 1
   have bl:=lBk hb1
   have Hb1:=Lib.hid hb1
   have Ha1:=Lib.hid ((hf.block w.heap.size (by simp;omega) (by simp)).trans (show _=some (.cells #[.bool na,.slice a da.length ac] 27 (0,0)) by (repeat first|rw [if_pos (by omega)]|rw [if_neg (by omega)]|rw [hDR]|rw [hDN]|rw [hAz]|rw [hSz]|rw [hAC]|rw [hSC]|rw [oMS]|rw [uPC]|rw [lSZ]|rw [lSS]|rfl)))
   have Hf1:=Lib.hid (Fr.trans0 (by (repeat first|exact Fr.refl _ _|assumption|apply Fr.n|apply Fr.d|apply Fr.a|refine Fr.s ?_ (.inr (by simp;try omega)) _):Fr [] w _) hf)
   clear hf hb1
   go_wp2_with fail
   refine (Hrb.out _ Hf1.out).mono ?_
   rintro e w2 ⟨rfl,hf⟩
   have ha2:=(hf.block _ (lBk Ha1.out) (by simp)).trans Ha1.out
   have hb2:=(hf.block _ (lBk Hb1.out) (by simp)).trans Hb1.out
   clear b0 b1 bl
   have a0:=hEC ha2 0
   have a1:=hEC ha2 1
   have al:=lBk ha2
   have b0:=hEC hb2 0
   have b1:=hEC hb2 1
   have bl:=lBk hb2
   have Hf:=Lib.hid (Hf1.out.trans0 hf)
   clear hf ha2 hb2
   cases na<;>cases nb
   ·go_wp2_with fail
    refine (Hag.out _ Hf.out).mono ?_
    rintro e w3 ⟨rfl,hd⟩
    have Hf3:=Lib.hid (Hf.out.trans0 (hd.fr []))
    clear hd a0 a1 b0 b1
    go_wp2
    go_ret
    exact⟨by rw [HS.out];rfl,Hf3.out⟩
   ·go_wp2
    go_ret
    exact⟨by rw [HS.out];rfl,Hf.out⟩
   ·go_wp2
    go_ret
    exact⟨by rw [HS.out];rfl,Hf.out⟩
   ·go_wp2_with fail
    refine (Hag2.out _ Hf.out).mono ?_
    rintro e w3 ⟨rfl,hd⟩
    have Hf3:=Lib.hid (Hf.out.trans0 (hd.fr []))
    clear hd a0 a1 b0 b1
    go_wp2
    go_ret
    exact⟨by rw [HS.out];rfl,Hf3.out⟩
end Go.Proofs.YtdanghnadbkhfaaGreat
end
section
namespace Go.Proofs.YtdanghnadbkhfaaGreat
open Go Go.RowKit Rg Hp Bn
set_option maxHeartbeats 4000000 in
set_option maxRecDepth 100000 in
theorem From_calls {w:World} {n:Int} (h1:-9223372036854775808≤n) (h2:n<9223372036854775808) :
  Calls Tryz.prog 54 #[.int .i64 n] w (BigPost1 w (w.heap.size≤·) (fromS n)):=by
 have hsz:=fun w1=>size_calls (w:=w1) h1 h2
 have hb:n.natAbs<18446744073709551616:=by omega
 unfold fromS
 obtain⟨neg,hneg⟩:∃ neg,decide (n<0)=neg:=⟨_,rfl⟩
 rw [hneg]
 generalize n.natAbs=v at *
 obtain⟨r,hrr⟩:∃ r,mkN neg v=r:=⟨_,rfl⟩
 rw [hrr]
 have HRR:=Lib.hid hrr
 clear hrr
 have Hsz:=Lib.hid hsz
 have hv:val 4294967296 [v % 4294967296,v / 4294967296 % 4294967296]=v:=by simp only [val];omega
 have hdd:Dig 4294967296 [v % 4294967296,v / 4294967296 % 4294967296]:=fun x hx=>by simp at hx;omega
 have Hv:=Lib.hid hv
 have Hdd:=Lib.hid hdd
 have Hb:=Lib.hid (And.intro h1 (And.intro h2 hb))
 clear hsz hv hdd h1 h2 hb
 go_enter Tryz.func54,Tryz.ntmps54
 go_wp2_with fail
 refine (Hsz.out _).mono ?_
 rintro e w1 ⟨rfl,rfl⟩
 go_wp2_with fail
 refine (made_calls (ds:=[v % 4294967296,v / 4294967296 % 4294967296]) (A:=fun g=>w.heap.size+1≤g) (reads_blk (cs:=u32s [v % 4294967296,v / 4294967296 % 4294967296]) (by (repeat first|rw [if_pos (by omega)]|rw [if_neg (by omega)]|rw [hDR]|rw [hDN]|rw [hAz]|rw [hSz]|rw [hAC]|rw [hSC]|rw [oMS]|rw [uPC]|rw [lSZ]|rw [lSS]|rfl)) rfl) Hdd.out (by simp) (by simp) (fun g hg=>by simp [Value.ownBlock] at hg;omega)).mono ?_
 rintro e w2 ⟨ra,rc,hlo,rfl,hr,hf⟩
 rw [Hv.out,HRR.out] at hlo hr
 rw [Hv.out,HRR.out]
 have hc:=(hf.block w.heap.size (by simp;omega) (by simp)).trans (show _=some (.cells #[.bool false,.slice none 0 0] 27 (0,0)) by (repeat first|rw [if_pos (by omega)]|rw [if_neg (by omega)]|rw [hDR]|rw [hDN]|rw [hAz]|rw [hSz]|rw [hAC]|rw [hSC]|rw [oMS]|rw [uPC]|rw [lSZ]|rw [lSS]|rfl))
 have c0:=hEC hc 0
 have c1:=hEC hc 1
 have z0:=hEF hc 0
 have z1:=hEF hc 1
 have cl:=lBk hc
 have Hc:=Lib.hid hc
 have Hlo:=Lib.hid hlo
 have Hr:=Lib.hid hr
 have Hf:=Lib.hid (Fr.trans0 (by (repeat first|exact Fr.refl _ _|assumption|apply Fr.n|apply Fr.d|apply Fr.a|refine Fr.s ?_ (.inr (by simp;try omega)) _):Fr [] w _) hf)
 clear hlo hr hf hc
 obtain⟨r1,r2,r3⟩:=r
 go_wp2
 (try simp only [Exit.inBlock,Exit.then])
 refine bodyPost_ret (big_result1 rfl (b:=w.heap.size) (x:=.bool r1) (y:=.slice ra r2.length rc) rfl ?_) rfl ⟨_,_,⟨Hlo.out.1,fun g hg=>(by have h:=Hlo.out.2 g hg;omega)⟩,rfl,?_,?_⟩
 ·have h:=Hc.out
  (repeat first|rw [if_pos (by omega)]|rw [if_neg (by omega)]|rw [hDR]|rw [hDN]|rw [hAz]|rw [hSz]|rw [hAC]|rw [hSC]|rw [oMS]|rw [uPC]|rw [lSZ]|rw [lSS]|rfl)
  first|exact h|(rw [h];(repeat first|rw [if_pos (by omega)]|rw [if_neg (by omega)]|rw [hDR]|rw [hDN]|rw [hAz]|rw [hSz]|rw [hAC]|rw [hSC]|rw [oMS]|rw [uPC]|rw [lSZ]|rw [lSS]|rfl))
 ·refine Hr.out.keep fun x hx hl=>?_
  have h1:=Hlo.out.2 x hx
  rw [hAE _ _ _ (by simp only [hSz];exact hl),sCE _ _ _ (by simp;omega),sCE _ _ _ (by simp;omega)]
 ·repeat (first|exact Hf.out|refine Fr.alloc ?_ _|refine Fr.setCell ?_ (.inr (by first|(simp;done)|(simp;omega))) _)
end Go.Proofs.YtdanghnadbkhfaaGreat
end
section
namespace Go.Proofs.YtdanghnadbkhfaaGreat
open Go Go.RowKit Rg Hp Bn
theorem down1_calls {w:World} {x:Nat}:Calls Tryz.prog 119 #[.int .u32 x] w fun e w'=>e=.returned (.bool (decide (x≠0)))∧w=w':=by
 have hd:((x:Int) != 0)=decide (x≠0):=by
  by_cases h:x=0<;>simp [h]
 obtain⟨b,hb⟩:∃ b,decide (x≠0)=b:=⟨_,rfl⟩
 rw [hb] at hd ⊢
 clear hb
 go_enter Tryz.func119,Tryz.ntmps119
 go_wp2
 go_ret
 exact⟨rfl,rfl⟩
set_option maxHeartbeats 2000000 in
set_option maxRecDepth 100000 in
theorem IndexFunc_calls {w:World} {ds:List Nat} {v:Value} (hv:Reads w v ds.length 1 (u32s ds)) (hl:ds.length≤1000000) :
  Calls Tryz.prog 135 #[v,.func (.func 119) #[] #[]] w fun e w'=>∃ z:Int,e=.returned (.int .i64 z)∧decide (0≤z)=decide (val 4294967296 ds≠0)∧Drew w w':=by
 obtain⟨_,a,c,rfl,hav⟩:=hv
 have Hav:=Lib.hid hav
 clear hav
 obtain⟨n,hn⟩:∃ n,ds.length=n:=⟨_,rfl⟩
 have Hn:=Lib.hid hn
 rw [hn] at Hav hl ⊢
 clear hn
 go_enter Tryz.func135,Tryz.ntmps135
 go_wp2_with fail
 go_loopw [8] (fun xk wl=>∃ k:Nat,xk=.int .i64 k∧k≤n∧val 4294967296 (ds.take k)=0∧Drew w wl) (fun xk _=>n - (intOf xk).toNat)
 case atStart=>exact⟨0,rfl,by omega,by simp [val],Drew.refl _⟩
 case round =>
  obtain⟨k,rfl,hk,hv,hd⟩:=hrel
  by_cases hkn:k<n
  ·obtain⟨g,off,rfl,hg,hc⟩:=Hav.out (by omega)
   have hf:=hd.fr []
   have e1:=(hf.cell (p:=⟨g,off+k,none⟩) hg (by simp)).trans (hc k _ (u32s_get (by have:=Hn.out;omega)))
   have hgr:g<wr.heap.size:=by have:=hf.size;omega
   have hz:=val_zero_iff (B:=4294967296) (by omega) (l:=ds) k
   have hne:=val_take_ne (B:=4294967296) (l:=ds) k (by omega)
   have Hz:=Lib.hid hz
   have Hne:=Lib.hid hne
   have Hd:=Lib.hid hd
   have Hv:=Lib.hid hv
   clear hf hc hz hne hd hv
   generalize ds.getD k 0=x at *
   go_wp2_with fail
   refine down1_calls.mono ?_
   rintro e w2 ⟨rfl,rfl⟩
   by_cases hx:x=0
   ·have hd0:decide (x≠0)=false:=by simp [hx]
    have Hx:=Lib.hid hx
    clear hx
    rw [hd0]
    go_wp2
    go_roundw
    case rel=>exact⟨k+1,by go_num,by omega,Hz.out.2 ⟨Hv.out,Hx.out⟩,Hd.out⟩
    case measure=>simp [intOf];omega
   ·have hd0:decide (x≠0)=true:=by simp [hx]
    have Hx:=Lib.hid hx
    clear hx
    rw [hd0]
    go_wp2
    go_ret
    refine⟨k,rfl,?_,Hd.out⟩
    have h:=Hne.out (fun h=>Hx.out (Hz.out.1 h).2) (by have:=Hn.out;omega)
    rw [decide_eq_true h]
    simp
  ·obtain rfl:k=n:=by omega
   rw [List.take_of_length_le (by have:=Hn.out;omega)] at hv
   have Hd:=Lib.hid hd
   have Hv:=Lib.hid hv
   clear hd hv
   go_wp2
   go_ret
   refine⟨-1,rfl,?_,Hd.out⟩
   rw [Hv.out];rfl
theorem ContainsFunc_calls {w:World} {ds:List Nat} {v:Value} (hv:Reads w v ds.length 1 (u32s ds)) (hl:ds.length≤1000000) :
  Calls Tryz.prog 118 #[v,.func (.func 119) #[] #[]] w fun e w'=>e=.returned (.bool (decide (val 4294967296 ds≠0)))∧Drew w w':=by
 have hi:=IndexFunc_calls hv hl
 obtain⟨b,hb⟩:∃ b,decide (val 4294967296 ds≠0)=b:=⟨_,rfl⟩
 rw [hb] at hi ⊢
 have Hi:=Lib.hid hi
 clear hi hb
 obtain⟨_,a,c,rfl,_⟩:=hv
 go_enter Tryz.func118,Tryz.ntmps118
 go_wp2_with fail
 refine Hi.out.mono ?_
 rintro e w1 ⟨z,rfl,hz,hd⟩
 have Hd:=Lib.hid hd
 clear hd
 go_wp2
 go_ret
 exact⟨rfl,Hd.out⟩
set_option maxHeartbeats 4000000 in
set_option maxRecDepth 100000 in
theorem down_calls {w:World} {ds:List Nat} {k:Nat} {a:Option Addr} {c:Nat} (hv:Reads w (.slice a ds.length c) ds.length 1 (u32s ds)) (hD:Dig 4294967296 ds) (hcn:Canon ds) (hl:ds.length≤1000000) (hc:ds.length≤c) (hk:k≤1000000) :
  Calls Tryz.prog 107 #[.slice a ds.length c,.int .i64 k] w (DownPost w (val 4294967296 ds / 2 ^ k) (decide (val 4294967296 ds % 2 ^ k≠0)) ds.length):=by
 obtain⟨wd,hwd⟩:∃ wd,k / 32=wd:=⟨_,rfl⟩
 obtain⟨rs,hrs⟩:∃ rs,k % 32=rs:=⟨_,rfl⟩
 have Ew:((k:Int) / 32)=wd:=by omega
 have Er:((k:Int) % 32)=rs:=by omega
 have hdg:=fun w1 (hf:Fr [] w w1) i=>digit_calls (hv.fr hf) (by omega) i
 have Hdg:=Lib.hid hdg
 clear hdg
 by_cases hb:ds.length≤wd
 ·have hlt:val 4294967296 ds<2 ^ k:=by
   have h1:=val_lt hD
   have h2:=(two_split (ds:=ds) hwd hrs).1
   have h3:4294967296 ^ ds.length≤4294967296 ^ wd:=Nat.pow_le_pow_right (by omega) hb
   have h4:=Nat.le_mul_of_pos_right (4294967296 ^ wd) (Nat.pow_pos (n:=rs) (show 0<2 by omega))
   omega
  have hlost:decide (val 4294967296 ds % 2 ^ k≠0)=decide (0<ds.length):=by
   rw [Nat.mod_eq_of_lt hlt]
   by_cases h0:ds=[]
   ·subst h0;rfl
   ·have:=canon_pos (B:=4294967296) (by omega) hcn h0
    have h1:0<ds.length:=List.length_pos_iff.2 h0
    rw [decide_eq_true (by omega),decide_eq_true (by omega)]
  rw [Nat.div_eq_of_lt hlt,hlost]
  obtain⟨n,hn⟩:∃ n,ds.length=n:=⟨_,rfl⟩
  rw [hn] at hb hc ⊢
  have Hn:=Lib.hid hn
  clear hv hlt hlost hwd hrs hn
  go_enter Tryz.func107,Tryz.ntmps107
  obtain⟨lost,hlost⟩:∃ lost,decide (0<n)=lost:=⟨_,rfl⟩
  rw [hlost]
  go_wp2
  go_ret2
  exact⟨none,0,[],rfl,reads_nil _,fun g hg=>by simp [Value.ownBlock] at hg,Dig.nil,rfl,by simp,by simp,Fr.refl _ _⟩
 ·have hcf:=fun w1 (hf:Fr [] w w1)=>ContainsFunc_calls (ds:=ds.take wd) (v:=.slice a wd c) (w:=w1) (by
   have h:=(Reads.take hv (by omega:wd≤ds.length)).fr hf
   rw [List.length_take,Nat.min_eq_left (by omega)]
   rw [u32s,← List.map_take] at h
   exact h) (by rw [List.length_take];omega)
  have hli:=lost_iff hD hwd hrs (by omega)
  have hdd:=fun i hi=>down_digit hD hwd hrs (i:=i) hi
  have hxl:val 4294967296 ds / 2 ^ k<4294967296 ^ (ds.length - wd):=by
   have h1:=val_lt hD
   have h2:=(two_split (ds:=ds) hwd hrs).1
   have hp:=Nat.pow_pos (n:=rs) (show 0<2 by omega)
   rw [h2]
   refine Nat.div_lt_of_lt_mul ?_
   rw [show 4294967296 ^ wd*2 ^ rs*4294967296 ^ (ds.length - wd)=2 ^ rs*4294967296 ^ (wd+(ds.length - wd)) by rw [Nat.pow_add];simp only [Nat.mul_assoc,Nat.mul_comm,Nat.mul_left_comm],show wd+(ds.length - wd)=ds.length by omega]
   exact Nat.lt_of_lt_of_le h1 (Nat.le_mul_of_pos_left _ hp)
  have hdw:∀ i,ds.getD i 0<4294967296:=fun i=>hD.getD (by omega) i
  have hr32:rs<32:=by omega
  obtain⟨_,_,_,e0,hav⟩:=hv
  simp only [Value.slice.injEq,true_and] at e0
  obtain⟨rfl,rfl⟩:=e0
  obtain⟨X,hX⟩:∃ X,val 4294967296 ds / 2 ^ k=X:=⟨_,rfl⟩
  simp only [hX] at hdd hxl ⊢
  obtain⟨n,hn⟩:∃ n,ds.length=n:=⟨_,rfl⟩
  rw [hn] at hb hc hl hxl hav
  simp only [hn] at hdd ⊢
  have Hn:=Lib.hid hn
  have Hli:=Lib.hid hli
  have Hdd:=Lib.hid hdd
  have Hcf:=Lib.hid hcf
  have Hxl:=Lib.hid hxl
  have Hav:=Lib.hid hav
  have Hdw:=Lib.hid hdw
  clear hli hcf hdd hX hav hcn hn hwd hrs hdw hxl
  obtain⟨lost,hlost⟩:∃ lost,decide (val 4294967296 ds % 2 ^ k≠0)=lost:=⟨_,rfl⟩
  rw [hlost]
  have Hlost:=Lib.hid hlost
  clear hlost
  go_enter Tryz.func107,Tryz.ntmps107
  go_wp2_with fail
  refine (Hcf.out _ (Fr.refl _ _)).mono ?_
  rintro e w1 ⟨rfl,hd⟩
  have hf:=hd.fr []
  obtain⟨g,off,rfl,hg,hcc⟩:=Hav.out (by omega)
  have e1:=(hf.cell (p:=⟨g,off+wd,none⟩) hg (by simp)).trans (hcc wd _ (u32s_get (by have:=Hn.out;omega)))
  have hgr:g<w1.heap.size:=by have:=hf.size;omega
  have ham:=and_mask (Hdw.out wd) hr32
  have Hf:=Lib.hid hf
  have hdl:lost=decide (¬ (val 4294967296 (ds.take wd)=0∧ds.getD wd 0 % 2 ^ rs=0)):=by rw [← Hlost.out];exact decide_eq_decide.2 (not_congr Hli.out)
  clear hd hf hcc
  obtain⟨x,hx⟩:∃ x,ds.getD wd 0=x:=⟨_,rfl⟩
  rw [hx] at e1 ham hdl
  clear hx
  by_cases hv0:val 4294967296 (ds.take wd)=0
  have hd0:decide (val 4294967296 (ds.take wd)≠0)=false:=by simp [hv0]
  have hbl:decide (x % 2 ^ rs≠0)=lost:=by rw [hdl];simp [hv0]
  rw [hbl] at ham
  rw [hd0]
  clear hd0 hv0 hdl hbl
  rotate_left
  have hd0:decide (val 4294967296 (ds.take wd)≠0)=true:=by simp [hv0]
  obtain rfl:lost=true:=by rw [hdl];simp [hv0]
  rw [hd0]
  clear hd0 hv0 hdl ham
  rotate_left
  all_goals go_wp2_with (refine wpList_make1 rfl (t:=25) (e:=106) (n:=n - wd) (z:=.int .u32 0) (bytes:=4) rfl (congrArg (Value.int .i64) (by omega:(n:Int) - wd=((n - wd:Nat):Int))) (congrArg (Value.int .i64) (by omega:(n:Int) - wd=((n - wd:Nat):Int))) Tryz.underlying25 info_u32 rfl (by omega) (by unfold maxLen;omega) ?_)
  all_goals
   intro w2 ho2 hf2 hsz2
   obtain⟨m,hm⟩:∃ m,n - wd=m:=⟨_,rfl⟩
   have hmi:(n:Int) - wd=m:=by omega
   rw [hm] at ho2
   rw [hm,hmi]
   have hwm:wd+m=n:=by omega
   have Hf2:=Lib.hid (Hf.out.trans0 hf2)
   have Ho2:=Lib.hid ho2
   have Hwm:=Lib.hid hwm
   obtain⟨q,hq⟩:∃ q,w1.heap.size=q:=⟨_,rfl⟩
   have hqw:w.heap.size≤q:=by have:=Hf.out.size;omega
   have Hqw:=Lib.hid hqw
   rw [hq] at Ho2
   rw [hq]
   have hgq:g<q:=by omega
   clear hf2 ho2 hmi hm hsz2 e1 hgr hwm hqw hq
   go_wp2_with fail
   go_loopw [46] (fun xk wl=>∃ (k:Nat) (l:List Nat),xk=.int .i64 k∧k≤m∧l.length=m∧Dig 4294967296 l∧(∀ j,j<k→l.getD j 0=X / 4294967296 ^ j % 4294967296) ∧
     wl.ownsRow q 106 1 (.slice (some ⟨q,0,none⟩) m m) m (u32s l)∧Fr [] w wl) (fun xk _=>m - (intOf xk).toNat)
   case atStart=>exact⟨0,List.replicate m 0,rfl,by omega,List.length_replicate,Dig.replicate (by omega) m,fun j hj=>by omega,by rw [u32s_zero];exact Ho2.out,Hf2.out⟩
   case round =>
    obtain⟨j,l,rfl,hj,hl,hD,hdj,ho,hf⟩:=hrel
    have hol:=oLT ho rfl
    by_cases hjm:j<m
    ·have hwj:wd+j<n:=by have:=Hwm.out;omega
     obtain⟨_,_,e0,_,hcc⟩:=Hav.out (by omega)
     simp only [Option.some.injEq,Addr.mk.injEq,and_true] at e0
     obtain⟨rfl,rfl⟩:=e0
     have e2:=(hf.cell (p:=⟨g,off+(wd+j),none⟩) hg (by simp)).trans (hcc (wd+j) _ (u32s_get (by have:=Hn.out;omega)))
     have hgr2:g<wr.heap.size:=by have:=hf.size;omega
     have hdg:=fun w2 (hf2:Fr [] w w2)=>Hdg.out w2 hf2 (wd+j+1)
     rw [Hn.out,show (((wd+j+1:Nat)):Int)=(wd:Int)+j+1 by omega] at hdg
     have hset:=fun d=>owns_set ho rfl (j:=j) (by rw [u32s_length];omega) (.int .u32 d)
     have hfz:=owns_frozen ho rfl j
     have e3:=owns_cell ho rfl (u32s_get (l:=l) (i:=j) (by omega))
     have hd1:=Hdw.out (wd+j)
     have hd2:=Hdw.out (wd+j+1)
     have hdx:=Hdd.out j hwj
     have Hset:=Lib.hid hset
     have HDG:=Lib.hid hdg
     have HDl:=Lib.hid hD
     have Hdj:=Lib.hid hdj
     have Hl:=Lib.hid hl
     have Hf:=Lib.hid hf
     clear ho hf hD hdj hl hset hdg hcc
     generalize ds.getD (wd+j) 0=x at *
     generalize ds.getD (wd+j+1) 0=y at *
     have Ex:IntKind.u64.wrap (x:Int)=x:=IntWalk.u64_in _ (by omega)
     have Ev:=or_two hd1 hd2
     have hvb:val 4294967296 [x,y]<18446744073709551616:=by simp [val];omega
     obtain⟨v,hv⟩:∃ v,val 4294967296 [x,y]=v:=⟨_,rfl⟩
     rw [hv] at Ev hvb hdx
     have Hdx:=Lib.hid hdx
     have Hvb:=Lib.hid hvb
     clear hd1 hd2 hv hdx hvb
     go_wp2
     refine wRS [([0,1,2,3,4,5,6,7,8,9,10,11,12],[5]),([13,14,15,16],[])] (by kernel_rfl) (by kernel_rfl) ?_
     (simp only [wpSegs,pick,Array.getD_eq_getD_getElem?,List.getElem?_toArray,List.getElem?_cons_succ,List.getElem?_cons_zero,Option.getD_some])
     go_wp2_with fail
     refine (HDG.out _ (by have:=Hf.out;(repeat first|exact Fr.refl _ _|assumption|apply Fr.n|apply Fr.d|apply Fr.a|refine Fr.s ?_ (.inr (by simp;try omega)) _))).mono ?_
     rintro e w3 ⟨rfl,rfl⟩
     go_wp2
     refine Mid.intro ⟨⟨again_cell (T:=106) rfl rfl rfl Tryz.underlying106 rfl e2 rfl,trivial⟩,?_⟩
     go_wp2
     refine Mid.intro ⟨trivial,Strict.intro rfl ?_⟩
     go_wp2
     go_roundw
     case rel =>
      refine⟨j+1,l.set j (v / 2 ^ rs % 4294967296),by go_num,by omega,by rw [List.length_set];exact Hl.out,HDl.out.set (Nat.mod_lt _ (by omega)),?_,?_,?_⟩
      ·intro i hi
       by_cases hij:i=j
       ·subst hij
        rw [List.getD_eq_getElem?_getD,List.getElem?_set_self (by have:=Hl.out;omega),Hdx.out]
        rfl
       ·rw [getD_set_ne hij]
        exact Hdj.out i (by omega)
      ·have e:((v / 2 ^ rs % 4294967296:Nat):Int)=(v:Int) / 2 ^ rs % 4294967296:=by simp
       rw [u32s_set,e]
       exact Hset.out _
      ·exact (Hf.out.setCell (.inr (by have:=Hqw.out;simp;omega)) _).drew
     case measure=>simp [intOf];omega
    ·obtain rfl:j=m:=by omega
     have hvd:=val_of_digits (B:=4294967296) (X:=X) (l:=l) (by omega) (fun i hi=>hdj i (by omega))
     rw [hl,Nat.mod_eq_of_lt (by have h:=Hxl.out;have h2:=Hwm.out;rw [show n - wd=j by omega] at h;exact h)] at hvd
     have Ho:=Lib.hid ho
     have Hf:=Lib.hid hf
     have HDl:=Lib.hid hD
     have Hvd:=Lib.hid hvd
     have Hl:=Lib.hid hl
     clear ho hf hD hvd hl hdj
     go_wp2
     go_ret2
     have hl:=Hl.out
     subst hl
     exact⟨_,_,l,rfl,Reads.of_owns Ho.out,fun g' hg'=>(by simp [Value.ownBlock] at hg';have:=Hqw.out;omega),HDl.out,Hvd.out,by have:=Hwm.out;omega,Nat.le_refl _,Hf.out⟩
end Go.Proofs.YtdanghnadbkhfaaGreat
end
