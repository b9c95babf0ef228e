/- Own texts of this claim, part 27: no condition. -/
import Derived.Deep.RegionHeld3
import Derived.Deep.DeepCutAuto
import Derived.Test.YtdanghnadbkhfaaGreatZG21
import Derived.Test.YtdanghnadbkhfaaGreatZG23
import Derived.Test.YtdanghnadbkhfaaGreatZG22
import Derived.Test.YtdanghnadbkhfaaGreatZG25
import Derived.Test.YtdanghnadbkhfaaGreatZG4
import Derived.Test.YtdanghnadbkhfaaGreatZG2
set_option linter.unusedVariables false
set_option linter.unusedSimpArgs false
section
namespace Go.Proofs.YtdanghnadbkhfaaGreat
open Go Go.RowKit Rg Hp Bn
set_option maxHeartbeats 8000000 in
set_option maxRecDepth 100000 in
theorem RInt_calls {w:World} {neg:Bool} {ds:List Nat} {v:Value} (hv:Reads w v ds.length 1 (u32s ds)) (hD:Dig 4294967296 ds) (hl:ds.length≤10000) :
  Calls Tryz.prog 58 #[.agg #[.bool neg,v]] w fun e w'=>e=.returned (.tuple #[.int .i64 (intS neg ds).1,.bool (intS neg ds).2])∧Fr [] w w':=by
 have hra:=fun w1 (hf:Fr [] w w1)=>RRight_calls (neg:=neg) (hv.fr hf) (by omega)
 have hby:=fun w1 (hf:Fr [] w w1)=>bytes_calls (neg:=neg) (hv.fr hf) hD (by omega)
 obtain⟨_,a,c,rfl,hav⟩:=hv
 obtain⟨r,hS⟩:∃ r,r=intS neg ds:=⟨_,rfl⟩
 rw [← hS]
 unfold intS at hS
 obtain⟨n,hn⟩:∃ n,ds.length=n:=⟨_,rfl⟩
 have Hn:=Lib.hid hn
 clear hav
 cases hR1:RightB neg ds with
 | false =>
  rw [hR1] at hS hra
  simp only [true_or,if_true] at hS
  rw [hn] at hra ⊢
  have Hra:=Lib.hid hra
  have Hr:=Lib.hid hS
  clear hra hR1 hby hn hl hS
  go_enter Tryz.func58,Tryz.ntmps58
  go_wp2_with fail
  refine (Hra.out _ (by (repeat first|exact Fr.refl _ _|assumption|apply Fr.n|apply Fr.d|apply Fr.a|refine Fr.s ?_ (.inr (by simp;try omega)) _))).mono ?_
  rintro e w1 ⟨rfl,hf⟩
  have ha_:=(hf.block (w.heap.size) (by first|(simp;done)|(simp;omega)) (by simp)).trans (show _=some (.cells #[.bool neg,.slice a n c] 27 (0,0)) by (repeat first|rw [if_pos (by omega)]|rw [if_neg (by omega)]|rw [hDR]|rw [hDN]|rw [hAz]|rw [hSz]|rw [hAC]|rw [hSC]|rw [oMS]|rw [uPC]|rw [lSZ]|rw [lSS]|rfl))
  have a0:=hEC ha_ 0
  have a1:=hEC ha_ 1
  have al:=lBk ha_
  have Ha:=Lib.hid ha_
  clear ha_
  have Hf:=Lib.hid (Fr.trans0 (by (repeat first|exact Fr.refl _ _|assumption|apply Fr.n|apply Fr.d|apply Fr.a|refine Fr.s ?_ (.inr (by simp;try omega)) _):Fr [] w _) hf)
  clear hf
  go_wp2
  go_ret2
  exact⟨by rw [Hr.out];rfl,Hf.out⟩
 | true =>
  obtain⟨cA,lA,nA⟩:=right_canon hR1
  rw [hR1] at hS hra
  simp only [Bool.true_eq_false,false_or] at hS
  by_cases h2:2<ds.length
  ·rw [if_pos h2] at hS
   have hd:decide ((2:Int)<n)=true:=by rw [decide_eq_true_eq];omega
   rw [hn] at hra ⊢
   have Hra:=Lib.hid hra
   have Hr:=Lib.hid hS
   clear hra hR1 hby hn hl hS h2 nA
   go_enter Tryz.func58,Tryz.ntmps58
   go_wp2_with fail
   refine (Hra.out _ (by (repeat first|exact Fr.refl _ _|assumption|apply Fr.n|apply Fr.d|apply Fr.a|refine Fr.s ?_ (.inr (by simp;try omega)) _))).mono ?_
   rintro e w1 ⟨rfl,hf⟩
   have ha_:=(hf.block (w.heap.size) (by first|(simp;done)|(simp;omega)) (by simp)).trans (show _=some (.cells #[.bool neg,.slice a n c] 27 (0,0)) by (repeat first|rw [if_pos (by omega)]|rw [if_neg (by omega)]|rw [hDR]|rw [hDN]|rw [hAz]|rw [hSz]|rw [hAC]|rw [hSC]|rw [oMS]|rw [uPC]|rw [lSZ]|rw [lSS]|rfl))
   have a0:=hEC ha_ 0
   have a1:=hEC ha_ 1
   have al:=lBk ha_
   have Ha:=Lib.hid ha_
   clear ha_
   have Hf:=Lib.hid (Fr.trans0 (by (repeat first|exact Fr.refl _ _|assumption|apply Fr.n|apply Fr.d|apply Fr.a|refine Fr.s ?_ (.inr (by simp;try omega)) _):Fr [] w _) hf)
   clear hf
   go_wp2
   go_ret2
   exact⟨by rw [Hr.out];rfl,Hf.out⟩
  ·rw [if_neg h2] at hS
   have hd:decide ((2:Int)<n)=false:=by rw [decide_eq_false_iff_not];omega
   obtain⟨V,hV⟩:∃ V,val 4294967296 ds=V:=⟨_,rfl⟩
   have hVb:V<18446744073709551616:=by
    rw [← hV]
    exact Nat.lt_of_lt_of_le (val_lt hD) (Nat.pow_le_pow_right (show 0<4294967296 by omega) (show ds.length≤2 by omega))
   have hVp:neg=true→1≤V:=fun h=>by
    have hne:ds≠[]:=fun e=>by have:=nA e;rw [this] at h;cases h
    have:=canon_pos (B:=4294967296) (by omega) cA hne
    omega
   obtain⟨X,hX⟩:∃ X,dg 256 V=X:=⟨_,rfl⟩
   have hXV:val 256 X=V:=by rw [← hX];exact val_dg (by omega) V
   have hXD:Dig 256 X:=by rw [← hX];exact dg_dig (by omega) V
   have hXl:X.length≤8:=by rw [← hX,dg_length_le (by omega)];omega
   rw [hV] at hS hby
   rw [hX] at hby
   rw [hn] at hra hby ⊢
   have Hra:=Lib.hid hra
   have Hby:=Lib.hid hby
   have HXV:=Lib.hid hXV
   have HXD:=Lib.hid hXD
   have HS:=Lib.hid hS
   have HVp:=Lib.hid hVp
   have HVb:=Lib.hid hVb
   obtain⟨m,hm⟩:∃ m,X.length=m:=⟨_,rfl⟩
   have Hm:=Lib.hid hm
   rw [hm] at hXl
   clear hra hR1 hby hn hl hS h2 nA hV hX hXV hXD hVp hVb cA lA hm
   go_enter Tryz.func58,Tryz.ntmps58
   go_wp2_with fail
   refine (Hra.out _ (by (repeat first|exact Fr.refl _ _|assumption|apply Fr.n|apply Fr.d|apply Fr.a|refine Fr.s ?_ (.inr (by simp;try omega)) _))).mono ?_
   rintro e w1 ⟨rfl,hf⟩
   have ha_:=(hf.block (w.heap.size) (by first|(simp;done)|(simp;omega)) (by simp)).trans (show _=some (.cells #[.bool neg,.slice a n c] 27 (0,0)) by (repeat first|rw [if_pos (by omega)]|rw [if_neg (by omega)]|rw [hDR]|rw [hDN]|rw [hAz]|rw [hSz]|rw [hAC]|rw [hSC]|rw [oMS]|rw [uPC]|rw [lSZ]|rw [lSS]|rfl))
   have a0:=hEC ha_ 0
   have a1:=hEC ha_ 1
   have al:=lBk ha_
   have Ha:=Lib.hid ha_
   clear ha_
   have Hf:=Lib.hid (Fr.trans0 (by (repeat first|exact Fr.refl _ _|assumption|apply Fr.n|apply Fr.d|apply Fr.a|refine Fr.s ?_ (.inr (by simp;try omega)) _):Fr [] w _) hf)
   clear hf
   go_wp2_with fail
   refine (Hby.out _ Hf.out).mono ?_
   rintro e w2 ⟨xa,xc,hlo,rfl,hr,hf⟩
   rw [Hm.out] at hr ⊢
   (try clear a0)
   (try clear a1)
   (try clear al)
   have ha_:=(hf.block _ (lBk Ha.out) (by simp)).trans Ha.out
   clear Ha
   have a0:=hEC ha_ 0
   have a1:=hEC ha_ 1
   have al:=lBk ha_
   have Ha:=Lib.hid ha_
   clear ha_
   have Hf:=Lib.hid (Hf.out.trans0 hf)
   obtain⟨_,xa2,xc2,he,hxa⟩:=hr
   cases he
   have Hxa:=Lib.hid hxa
   clear hf hlo hxa
   go_wp2_with fail
   go_loopw [4,6] (fun x4 x6 wl=>∃ (u k:Nat) (z:Int),x4=.int .u64 u∧x6=.int .i64 z∧z=(k:Int) - 1∧k≤m∧u=val 256 (X.drop k)∧wl=w2) (fun _ x6 _=>(intOf x6+1).toNat)
   case atStart=>exact⟨0,m,_,rfl,rfl,rfl,by omega,by rw [List.drop_of_length_le (by have:=Hm.out;omega)];rfl,rfl⟩
   case round =>
    obtain⟨u,k,z,rfl,rfl,hz,hk,hu,rfl⟩:=hrel
    have Hu:=Lib.hid hu
    clear hu
    cases k with
    | zero =>
     obtain rfl:z=-1:=by omega
     have hu:=Hu.out
     rw [List.drop_zero,HXV.out] at hu
     subst hu
     clear hz
     have hS:=HS.out
     cases neg
     ·simp only [Bool.false_eq_true,if_false] at hS
      by_cases h:u<9223372036854775808
      ·rw [if_pos h] at hS
       have Hr:=Lib.hid hS
       have hdu:decide ((9223372036854775807:Int)<u)=false:=by rw [decide_eq_false_iff_not];omega
       have Eu:wrap64 (u:Int)=u:=by simp only [wrap64];omega
       clear hS h HS
       go_wp2
       go_ret2
       exact⟨by rw [Hr.out];first|rfl|(show Ending.returned (.tuple #[.int .i64 (wrap64 (u:Int)),.bool true])=_;rw [Eu]),Hf.out⟩
      ·rw [if_neg h] at hS
       have Hr:=Lib.hid hS
       have hdu:decide ((9223372036854775807:Int)<u)=true:=by rw [decide_eq_true_eq];omega
       clear hS h HS
       go_wp2
       go_ret2
       exact⟨by rw [Hr.out];rfl,Hf.out⟩
     ·simp only [if_true] at hS
      by_cases h:u≤9223372036854775808
      ·rw [if_pos h] at hS
       have Hr:=Lib.hid hS
       have Hh:=Lib.hid h
       have hdu:decide ((9223372036854775808:Int)<u)=false:=by rw [decide_eq_false_iff_not];omega
       clear hS h HS
       go_wp2
       go_ret2
       exact⟨by rw [Hr.out];exact rint_neg (HVp.out (by first|rfl|trivial)) Hh.out,Hf.out⟩
      ·rw [if_neg h] at hS
       have Hr:=Lib.hid hS
       have hdu:decide ((9223372036854775808:Int)<u)=true:=by rw [decide_eq_true_eq];omega
       clear hS h HS
       go_wp2
       go_ret2
       exact⟨by rw [Hr.out];rfl,Hf.out⟩
    | succ k =>
     obtain rfl:z=(k:Int):=by omega
     obtain⟨g,off,rfl,hg,hc⟩:=Hxa.out (by omega)
     have e1:=hc k _ (i64s_get (by have:=Hm.out;omega))
     have hx:X.getD k 0<256:=HXD.out.getD (by omega) k
     have hq:=val_drop 256 X k
     rw [← Hu.out] at hq
     have hub:X.getD k 0+256*u<18446744073709551616:=by
      rw [← hq]
      have h1:=val_lt (HXD.out.drop k)
      have h2:256 ^ (X.drop k).length≤256 ^ 8:=Nat.pow_le_pow_right (by omega) (by rw [List.length_drop];have:=Hm.out;omega)
      omega
     have Hq:=Lib.hid hq
     clear hz hc hq
     generalize X.getD k 0=x at *
     have Ex:IntKind.u64.wrap (x:Int)=x:=IntWalk.u64_in _ (by omega)
     go_wp2
     go_roundw
     case rel=>exact⟨x+256*u,k,(k:Int) - 1,by go_num,by go_num,rfl,by omega,Hq.out.symm,trivial⟩
     case measure=>simp [intOf]
end Go.Proofs.YtdanghnadbkhfaaGreat
end
section
namespace Go.Proofs.YtdanghnadbkhfaaGreat
open Go Go.RowKit Rg Hp Bn
set_option maxHeartbeats 4000000 in
set_option maxRecDepth 100000 in
theorem RNeg_calls {w:World} {na:Bool} {da:List Nat} {va:Value} (ha:Reads w va da.length 1 (u32s da)) (hDa:Dig 4294967296 da) (hla:da.length≤10000) :
  Calls Tryz.prog 104 #[.agg #[.bool na,va]] w (BigPost1 w (w.heap.size≤·) (negS na da)):=by
 have hra:=fun w1 (hf:Fr [] w w1)=>RRight_calls (neg:=na) (ha.fr hf) (by omega)
 have hcl:=fun w1 (hf:Fr [] w w1)=>bytes_calls (neg:=na) (ha.fr hf) hDa (by omega)
 obtain⟨_,a,ac,rfl,_⟩:=ha
 obtain⟨V,hV⟩:∃ V,val 4294967296 da=V:=⟨_,rfl⟩
 obtain⟨X,hX⟩:∃ X,dg 256 V=X:=⟨_,rfl⟩
 have hXV:val 256 X=V:=by rw [← hX];exact val_dg (by omega) V
 have hXD:Dig 256 X:=by rw [← hX];exact dg_dig (by omega) V
 have hXl:X.length≤40000:=by
  have h:=dg_len256 (k:=10000) hla (val_lt hDa)
  rw [hV,hX] at h
  omega
 rw [hV,hX] at hcl
 have Hcl:=Lib.hid hcl
 obtain⟨r,hS⟩:∃ r,r=negS na da:=⟨_,rfl⟩
 rw [← hS]
 unfold negS at hS
 rw [hV] at hS
 clear hDa hcl hV hX
 cases hR1:RightB na da with
 | false =>
  rw [hR1] at hra hS
  rw [if_pos rfl] at hS
  subst hS
  have Hra:=Lib.hid hra
  clear hR1 hra
  go_enter Tryz.func104,Tryz.ntmps104
  go_wp2_with fail
  refine (Hra.out _ (by (repeat first|exact Fr.refl _ _|assumption|apply Fr.n|apply Fr.d|apply Fr.a|refine Fr.s ?_ (.inr (by simp;try omega)) _))).mono ?_
  rintro e w1 ⟨rfl,hf⟩
  have hc_:=(hf.block (w.heap.size+1) (by first|(simp;done)|(simp;omega)) (by simp)).trans (show _=some (.cells #[.bool false,.slice none 0 0] 27 (0,0)) by (repeat first|rw [if_pos (by omega)]|rw [if_neg (by omega)]|rw [hDR]|rw [hDN]|rw [hAz]|rw [hSz]|rw [hAC]|rw [hSC]|rw [oMS]|rw [uPC]|rw [lSZ]|rw [lSS]|rfl))
  have c0:=hEC hc_ 0
  have c0z:=hEF hc_ 0
  have c1:=hEC hc_ 1
  have c1z:=hEF hc_ 1
  have cl:=lBk hc_
  have Hc:=Lib.hid hc_
  clear hc_
  have Hf:=Lib.hid (Fr.trans0 (by (repeat first|exact Fr.refl _ _|assumption|apply Fr.n|apply Fr.d|apply Fr.a|refine Fr.s ?_ (.inr (by simp;try omega)) _):Fr [] w _) hf)
  clear hf
  go_wp2
  (try simp only [Exit.inBlock,Exit.then])
  refine bodyPost_ret (big_result1 rfl (b:=w.heap.size+1) (x:=.bool false) (y:=.slice none 0 0) rfl ?_) rfl ⟨_,_,⟨Nat.le_refl _,fun g hg=>(by cases hg)⟩,rfl,reads_nil _,?_⟩
  ·have h:=Hc.out
   (repeat first|rw [if_pos (by omega)]|rw [if_neg (by omega)]|rw [hDR]|rw [hDN]|rw [hAz]|rw [hSz]|rw [hAC]|rw [hSC]|rw [oMS]|rw [uPC]|rw [lSZ]|rw [lSS]|rfl)
   rw [h]
   (repeat first|rw [if_pos (by omega)]|rw [if_neg (by omega)]|rw [hDR]|rw [hDN]|rw [hAz]|rw [hSz]|rw [hAC]|rw [hSC]|rw [oMS]|rw [uPC]|rw [lSZ]|rw [lSS]|rfl)
  ·exact (Hf.out.setCell (.inr (by simp;try omega)) _).setCell (.inr (by simp;try omega)) _
 | true =>
  rw [hR1] at hra hS
  rw [if_neg (by decide)] at hS
  rw [← hXV] at hS
  have Hmd:=Lib.hid (fun (w1:World) (a:Option Addr) (c:Nat) (hv:Reads w1 (.slice a X.length c) X.length 1 (i64s X)) (hc:X.length≤c)=>hS▸big_calls (neg:=!na) hv hXD (by omega) hc)
  have Hra:=Lib.hid hra
  clear hR1 hra hS hXV hXD
  go_enter Tryz.func104,Tryz.ntmps104
  go_wp2_with fail
  refine (Hra.out _ (by (repeat first|exact Fr.refl _ _|assumption|apply Fr.n|apply Fr.d|apply Fr.a|refine Fr.s ?_ (.inr (by simp;try omega)) _))).mono ?_
  rintro e w1 ⟨rfl,hf⟩
  have ha1:=(hf.block w.heap.size (by simp;omega) (by simp)).trans (show _=some (.cells #[.bool na,.slice a da.length ac] 27 (0,0)) by (repeat first|rw [if_pos (by omega)]|rw [if_neg (by omega)]|rw [hDR]|rw [hDN]|rw [hAz]|rw [hSz]|rw [hAC]|rw [hSC]|rw [oMS]|rw [uPC]|rw [lSZ]|rw [lSS]|rfl))
  have a0:=hEC ha1 0
  have a1:=hEC ha1 1
  have al:=lBk ha1
  have Ha1:=Lib.hid ha1
  have Hc1:=Lib.hid ((hf.block (w.heap.size+1) (by simp) (by simp)).trans (show _=some (.cells #[.bool false,.slice none 0 0] 27 (0,0)) by (repeat first|rw [if_pos (by omega)]|rw [if_neg (by omega)]|rw [hDR]|rw [hDN]|rw [hAz]|rw [hSz]|rw [hAC]|rw [hSC]|rw [oMS]|rw [uPC]|rw [lSZ]|rw [lSS]|rfl)))
  have Hf1:=Lib.hid (Fr.trans0 (by (repeat first|exact Fr.refl _ _|assumption|apply Fr.n|apply Fr.d|apply Fr.a|refine Fr.s ?_ (.inr (by simp;try omega)) _):Fr [] w _) hf)
  clear hf ha1
  go_wp2
  have n10:=World.new_ne w1 _ a0
  have n11:=World.new_ne w1 _ a1
  go_region_held3 (fun w'=>w'.cell? ⟨w.heap.size,0,none⟩=some (.bool na)∧w'.cell? ⟨w.heap.size,1,none⟩=some (.slice a da.length ac)) (first|go_keep|exact⟨k20,k21⟩|exact⟨k30,k31⟩)
   (first|(go_at_call 82;refine (Hcl.out _ ?_).mono ?_;(· refine Hf1.out.trans0 ?_;(repeat first|exact Fr.refl _ _|assumption|apply Fr.n|apply Fr.d|apply Fr.a|refine Fr.s ?_ (.inl (by simp)) _));rintro e w2 ⟨pa,pc,ho,rfl,hr2,hf0⟩;have h12:Fr [] w1 w2:=Fr.trans0 (by (repeat first|exact Fr.refl _ _|assumption|apply Fr.n|apply Fr.d|apply Fr.a|refine Fr.s ?_ (.inl (by simp)) _)) hf0;have k20:=(h12.cell (p:=⟨w.heap.size,0,none⟩) al (by simp)).trans a0;have k21:=(h12.cell (p:=⟨w.heap.size,1,none⟩) al (by simp)).trans a1;have n20:=World.new_ne w2 _ k20;have n21:=World.new_ne w2 _ k21;obtain⟨c2,z2⟩:=frcell hf0;(try (have s2:w1.heap.size<w2.heap.size:=by have h:=hf0.size;simp at h;omega)))|(go_at_call 80;refine (Hmd.out _ _ _ (hr2.fr ?_) ho.1).mono ?_;(· (repeat first|exact Fr.refl _ _|assumption|apply Fr.n|apply Fr.d|apply Fr.a|refine Fr.s ?_ (.inl (by simp)) _));rintro e w3 ⟨ra,rc,hlo,rfl,hr,hf⟩;have h13:Fr [] w1 w3:=Fr.trans0 (Fr.trans0 h12 (by (repeat first|exact Fr.refl _ _|assumption|apply Fr.n|apply Fr.d|apply Fr.a|refine Fr.s ?_ (.inl (by simp)) _):Fr [] w2 _)) hf;have k30:=(h13.cell (p:=⟨w.heap.size,0,none⟩) al (by simp)).trans a0;have k31:=(h13.cell (p:=⟨w.heap.size,1,none⟩) al (by simp)).trans a1;have n30:=World.new_ne w3 _ k30;have n31:=World.new_ne w3 _ k31;obtain⟨c3,z3⟩:=frcell hf;(try (have s3:w2.heap.size<w3.heap.size:=by have h:=hf.size;simp at h;omega));(try (have s4:w1.heap.size<w3.heap.size:=by have h:=hf.size;simp at h;omega))))
  all_goals
   have hgo:=hlo.2
   have Hlo1:=Lib.hid hlo.1
   have hc4:=(h13.block _ (lBk Hc1.out) (by simp)).trans Hc1.out
   have cl0:w.heap.size+1<w1.heap.size:=lBk Hc1.out
   have hs12:=h12.size
   have hs13:=h13.size
   have hs23:=hf.size
   clear n10 n11 n20 n21 n30 n31 k20 k21 k30 k31 a0 a1
   have p0:=hEC Hc1.out 0
   have p1:=hEC Hc1.out 1
   have pz0:=hEF Hc1.out 0
   have pz1:=hEF Hc1.out 1
   have q0:=hEC hc4 0
   have q1:=hEC hc4 1
   have z0:=hEF hc4 0
   have z1:=hEF hc4 1
   have cl:=lBk hc4
   have Hc:=Lib.hid hc4
   have Hgo:=Lib.hid hgo
   have Hr:=Lib.hid hr
   have Hf:=Lib.hid (Hf1.out.trans0 h13)
   clear hlo hr hf h12 h13 hf0 hc4 hgo ho hr2
   obtain⟨r1,r2,r3⟩:=r
   go_wp2
   (try simp only [Exit.inBlock,Exit.then])
   refine bodyPost_ret (big_result1 rfl (b:=w.heap.size+1) (x:=.bool r1) (y:=.slice ra r2.length rc) rfl ?_) rfl ⟨_,_,⟨Hlo1.out,fun g hg=>(by have h:=Hgo.out g hg;(try simp at h);omega)⟩,rfl,?_,?_⟩
   ·have h:=Hc.out
    (repeat first|rw [if_pos (by omega)]|rw [if_neg (by omega)]|rw [hDR]|rw [hDN]|rw [hAz]|rw [hSz]|rw [hAC]|rw [hSC]|rw [oMS]|rw [uPC]|rw [lSZ]|rw [lSS]|rfl)
    first|exact h|(rw [h];(repeat first|rw [if_pos (by omega)]|rw [if_neg (by omega)]|rw [hDR]|rw [hDN]|rw [hAz]|rw [hSz]|rw [hAC]|rw [hSC]|rw [oMS]|rw [uPC]|rw [lSZ]|rw [lSS]|rfl))
   ·refine Hr.out.keep fun x hx hl=>?_
    have h1:=Hgo.out x hx
    (try simp at h1);(try simp at hs23)
    repeat (first|rw [sCE _ _ _ (by simp;omega)]|rw [hAE _ _ _ (by simp;omega)])
   ·repeat (first|exact Hf.out|refine Fr.alloc ?_ _|refine Fr.setCell ?_ (.inr (by first|(simp;done)|(simp;omega))) _)
end Go.Proofs.YtdanghnadbkhfaaGreat
end
section
namespace Go.Proofs.YtdanghnadbkhfaaGreat
open Go Go.RowKit Rg Hp Bn
end Go.Proofs.YtdanghnadbkhfaaGreat
end
section
namespace Go.Proofs.YtdanghnadbkhfaaGreat
open Go Go.RowKit Rg Hp Bn
section
variable {w:World} {A B:Nat→Prop} {va vb:Value} {x y:Int}
theorem RNeg_z (ha:BigZ w A va x) (hx:Zok x):Calls Tryz.prog 104 #[va] w (RBigCall1 w (-x)):=by
 obtain⟨a,c,rfl,h0,_,h3⟩:=ha
 refine (RNeg_calls h3 (zd_dig x) (by have:=zd_len hx;omega)).mono ?_
 rw [negS_z hx]
 rintro e w' ⟨a,c,⟨h1,h2⟩,rfl,h3,hf⟩
 exact⟨_,rfl,⟨a,c,rfl,h1,h2,h3⟩,hf⟩
theorem RInt_z (ha:BigZ w A va x) (hx:Zok x):Calls Tryz.prog 58 #[va] w fun e w'=>e=.returned (.tuple #[.int .i64 (if -9223372036854775808≤x∧x<9223372036854775808 then (x,true) else (0,false)).1,.bool (if -9223372036854775808≤x∧x<9223372036854775808 then (x,true) else ((0:Int),false)).2])∧Fr [] w w':=by
 obtain⟨a,c,rfl,h0,_,h3⟩:=ha
 have:=RInt_calls (neg:=decide (x<0)) h3 (zd_dig x) (by have:=zd_len hx;omega)
 rwa [intS_z hx] at this
end
end Go.Proofs.YtdanghnadbkhfaaGreat
end
section
namespace Go.Proofs.YtdanghnadbkhfaaGreat
open Go Go.RowKit Rg Mp Hp Qs
instance (s:Int) (ns:List K4):Decidable (GoodQ s ns):=by
 have:GoodQ s ns↔2≤s∧s≤8∧ns.length≤100000∧ns.Nodup∧∀ i:Fin ns.length,Fits s (ns.take i) ns[i]:=by
  unfold GoodQ
  constructor
  ·rintro⟨h1,h2,h3,h4,h5⟩
   exact⟨h1,h2,h3,h4,fun i=>h5 i _ (by simp)⟩
  ·rintro⟨h1,h2,h3,h4,h5⟩
   refine⟨h1,h2,h3,h4,fun i k hi=>?_⟩
   obtain⟨h,rfl⟩:=List.getElem?_eq_some_iff.1 hi
   exact h5 ⟨i,h⟩
 exact decidable_of_iff _ this.symm
theorem goodQ_step {s:Int} {ns:List K4} (h:GoodQ s ns) {i:Nat} (hi:i<ns.length):Fits s (ns.take i) ns[i]∧ns[i]∉ns.take i:=by
 obtain⟨h1,h2,h3,h4,h5⟩:=h
 refine⟨h5 i _ (List.getElem?_eq_getElem hi),fun hm=>?_⟩
 obtain⟨j,hj,e⟩:=List.getElem_of_mem hm
 rw [List.length_take] at hj
 rw [List.getElem_take] at e
 exact (List.pairwise_iff_getElem.1 h4) j i (by omega) hi (by omega) e
theorem take_snoc {ns:List K4} {i:Nat} (hi:i<ns.length):ns.take (i+1)=ns.take i++[ns[i]]:=by
 rw [List.take_add_one,List.getElem?_eq_getElem hi];rfl
theorem join_ok {s:Int} {ns:List K4} {k:K4} (h:Fits s ns k) (hn:k∉ns) (hl:ns.length<100000):join s ns k=((s+ns.length,0),ns++[k]):=by
 unfold join
 have hf:=h
 unfold Fits at hf
 rw [if_neg (by omega),if_neg (by simpa using h),joinIn_new (by simpa using hn) hl]
theorem join_bad {s:Int} {ns:List K4} {k:K4} (h:¬ (Fits s ns k∧k∉ns)) (_:ns.length<100000):(join s ns k).1.2≠0∨(join s ns k).1.1≠s+ns.length:=by
 unfold join
 split
 ·left;simp
 ·split
  ·left;simp
  ·rename_i hf
   have hf:=Decidable.not_not.1 hf
   have hk:k∈ns:=by
    rcases Decidable.em (k∈ns) with h'|h'
    ·exact h'
    ·exact absurd ⟨hf,h'⟩ h
   obtain⟨i,hi⟩:∃ i,ns.idxOf? k=some i:=by
    cases hx:ns.idxOf? k with
    | none=>rw [List.idxOf?_eq_none_iff] at hx;exact absurd hk hx
    | some i=>exact⟨i,rfl⟩
   rw [joinIn_hit hi]
   right
   rw [List.idxOf?_eq_some_iff] at hi
   obtain⟨h1,_⟩:=hi
   simp;omega
def LoadPost (w:World) (s:Int) (ns:List K4) (e:Ending) (w':World):Prop :=
 (GoodQ s ns→∃ b F,e=.returned (.tuple #[.pointer (some ⟨b,0,none⟩),.int .i64 0])∧StoreAt w' b s ns F∧Fr [] w w'∧∀ x∈F,w.heap.size≤x) ∧
 (¬ GoodQ s ns→e=.returned (.tuple #[.pointer none,.int .i64 2])∧Fr [] w w')
set_option maxHeartbeats 4000000 in
theorem Load_calls {w:World} {s:Int} {ns:List K4} {v:Value} (hl:ns.length≤100000) (hv:Reads w v ns.length 4 (flat ns)) :
  Calls Tryz.prog 32 #[.agg #[.int .i64 s,v]] w (LoadPost w s ns):=by
 have hvk:=hv
 obtain⟨_,a,c,rfl,hav⟩:=hv
 by_cases hbad:s<2∨8<s
 ·have hng:¬ GoodQ s ns:=fun h=>by have:=h.1;have:=h.2.1;omega
  have Hl:=Lib.hid hl
  clear hl hav hvk
  go_enter Tryz.func32,Tryz.ntmps32
  go_wp2_with fail
  refine (New_bad s _ hbad).mono ?_
  rintro e w' ⟨rfl,rfl⟩
  go_wp2
  go_ret2
  exact⟨fun h=>absurd h hng,fun _=>⟨rfl,by (repeat first|exact Fr.refl _ _|assumption|apply Fr.n|apply Fr.d|apply Fr.a|refine Fr.s ?_ (.inr (by simp;try omega)) _)⟩⟩
 ·have hl2:ns.length≤1048576:=by omega
  have Hl:=Lib.hid hl
  have Hav:=Lib.hid hav
  have Hvk:=Lib.hid hvk
  have hs1:2≤s:=by omega
  have hs2:s≤8:=by omega
  clear hav hvk hbad hl
  have hd:decide ((100000:Int)<↑ns.length)=false:=by have:=Hl.out;simp;omega
  go_enter Tryz.func32,Tryz.ntmps32
  go_wp2_with fail
  refine (New_ok s _ hs1 hs2).mono ?_
  rintro e w1 ⟨b,F0,rfl,hS0,hf0,hF0⟩
  have hbx:w1.heap[w.heap.size]?=some (.cells #[.int .i64 s,.slice a ns.length c] 24 (0,0)):=(hf0.block _ (by simp) (by simp)).trans (by (repeat first|rw [if_pos (by omega)]|rw [if_neg (by omega)]|rw [hDR]|rw [hDN]|rw [hAz]|rw [hSz]|rw [hAC]|rw [hSC]|rw [oMS]|rw [uPC]|rw [lSZ]|rw [lSS]|rfl))
  have c0:=hEC hbx 0
  have c1:=hEC hbx 1
  have hfw:Fr [] w w1:=((Fr.refl _ _).alloc _).trans0 hf0
  have Hbx:=Lib.hid hbx
  have Hfw:=Lib.hid hfw
  have HF0:=Lib.hid hF0
  clear hbx hf0 hfw hF0
  go_wp2
  go_loopw [27] (fun x wr=>∃ (k:Nat) (F':List Nat),x=.int .i64 k∧k≤ns.length∧GoodQ s (ns.take k)∧StoreAt wr b s (ns.take k) F'∧Fr [] w wr∧(∀ x∈F',w.heap.size+1≤x)∧wr.heap[w.heap.size]?=some (.cells #[.int .i64 s,.slice a ns.length c] 24 (0,0))) (fun x _=>ns.length - (intOf x).toNat)
  case atStart=>exact⟨0,F0,rfl,by omega,GoodQ.nil hs1 hs2,hS0,Hfw.out,fun x hx=>by have:=HF0.out x hx;simp at this;omega,Hbx.out⟩
  case round =>
   obtain⟨k,F',rfl,hk,hg,hS',hf',hF',hb'⟩:=hrel
   have c0:=hEC hb' 0
   have c1:=hEC hb' 1
   have hwlt:w.heap.size<wr.heap.size:=lBk hb'
   have Hf:=Lib.hid hf'
   have HF:=Lib.hid hF'
   have HB:=Lib.hid hb'
   have HG:=Lib.hid hg
   clear hf' hF' hb' hg
   by_cases hlt:k<ns.length
   ·obtain⟨g,off,rfl,hg,hc⟩:=Hav.out (by omega)
    obtain⟨f0,f1,f2,f3⟩:=flat_get (List.getElem?_eq_getElem hlt)
    rw [Nat.mul_comm] at f0 f1 f2 f3
    obtain⟨x,hx⟩:∃ x,x=ns[k]:=⟨_,rfl⟩
    rw [← hx] at f0 f1 f2 f3
    have hgw:∀ j,wr.cell? ⟨g,off+j,none⟩=w.cell? ⟨g,off+j,none⟩:=fun j=>Hf.out.cell (p:=⟨g,off+j,none⟩) hg (by simp)
    have e0:=(hgw _).trans (hc _ _ f0)
    have e1:=(hgw _).trans (hc _ _ f1)
    have e2:=(hgw _).trans (hc _ _ f2)
    have e3:=(hgw _).trans (hc _ _ f3)
    simp only [← Nat.add_assoc] at e1 e2 e3
    have hgr:g<wr.heap.size:=by omega
    have Hx:=Lib.hid hx
    clear hx hc f0 f1 f2 f3 hgw
    have hJ:∀ w1,Fr [] wr w1→Calls Tryz.prog 75 #[.pointer (some ⟨b,0,none⟩),.int .i64 x.a,.int .i64 x.b,.int .i64 x.c,.int .i64 x.d] w1 (JoinPost w1 b s (ns.take k) F' x):=fun w1 hf=>Join_calls (hS'.fr hf (by simp)) x
    go_wp2_with fail
    refine (hJ _ (by (repeat first|exact Fr.refl _ _|assumption|apply Fr.n|apply Fr.d|apply Fr.a|refine Fr.s ?_ (.inr (by simp;try omega)) _))).mono ?_
    clear hJ
    rintro e w2 ⟨rfl,F2,hS2,hf2,hF2⟩
    have hb2:w2.heap[w.heap.size]?=some (.cells #[.int .i64 s,.slice (some ⟨g,off,none⟩) ns.length c] 24 (0,0)):=by
     refine (hf2.block _ (by simp;omega) fun h=>?_).trans ?_
     ·have:=HF.out _ h;omega
     ·rw [← HB.out];(repeat first|rw [if_pos (by omega)]|rw [if_neg (by omega)]|rw [hDR]|rw [hDN]|rw [hAz]|rw [hSz]|rw [hAC]|rw [hSC]|rw [oMS]|rw [uPC]|rw [lSZ]|rw [lSS]|rfl)
    have c0:=hEC hb2 0
    have c1:=hEC hb2 1
    have hlk:(ns.take k).length=k:=by rw [List.length_take];omega
    have hfr2:Fr [] w w2:=by
     have h1:Fr F' wr w2:=by
      refine Fr.trans ?_ hf2 fun x hx=>.inl hx
      (repeat first|exact Fr.refl _ _|assumption|apply Fr.n|apply Fr.d|apply Fr.a|refine Fr.s ?_ (.inr (by simp;try omega)) _)
     refine Hf.out.trans (h1) fun x hx=>?_
     right;have:=HF.out x hx;omega
    have Hb2:=Lib.hid hb2
    have Hlk:=Lib.hid hlk
    have Hf2:=Lib.hid hf2
    have HF2:=Lib.hid hF2
    have Hfr2:=Lib.hid hfr2
    clear hb2 hlk hf2 hF2 hfr2
    have hl5:ns.length≤100000:=Hl.out
    have hk5:k<100000:=by omega
    have Hk5:=Lib.hid hk5
    clear hl5 hk5
    by_cases hok:Fits s (ns.take k) x∧x∉ns.take k
    ·have hj:=join_ok hok.1 hok.2 (by rw [Hlk.out];exact Hk5.out)
     rw [Hlk.out] at hj
     rw [hj] at hS2 ⊢
     have Hok:=Lib.hid hok
     clear hok hj
     go_wp2
     go_roundw
     case rel =>
      have hx:=Hx.out
      have ht:ns.take (k+1)=ns.take k++[x]:=by rw [take_snoc hlt,hx]
      refine⟨k+1,F2,by go_num,by omega,?_,by rw [ht];exact hS2,Hfr2.out,fun y hy=>?_,Hb2.out⟩
      ·rw [ht];exact HG.out.snoc Hok.out.1 Hok.out.2 (by rw [Hlk.out];exact Hk5.out)
      ·rcases HF2.out y hy with h|h
       ·exact HF.out y h
       ·simp at h;omega
     case measure=>simp [intOf];omega
    ·have hjb:=join_bad hok (by rw [Hlk.out];exact Hk5.out)
     rw [Hlk.out] at hjb
     have hng:¬ GoodQ s ns:=fun h=>hok (by rw [Hx.out];exact goodQ_step h hlt)
     have Hng:=Lib.hid hng
     clear hok hng hS2
     generalize (join s (ns.take k) x).1.1=r at *
     generalize (join s (ns.take k) x).1.2=q at *
     by_cases hq:q=0
     ·subst hq
      have hr:r≠s+k:=by rcases hjb with h|h<;>omega
      have hrb:(r != s+↑k)=true:=by simpa using hr
      clear hjb hr
      go_wp2
      go_ret2
      exact⟨fun h=>absurd h Hng.out,fun _=>⟨rfl,Hfr2.out⟩⟩
     ·have hqb:(q != 0)=true:=by simpa using hq
      clear hjb hq
      go_wp2
      go_ret2
      exact⟨fun h=>absurd h Hng.out,fun _=>⟨rfl,Hfr2.out⟩⟩
   ·obtain rfl:k=ns.length:=by omega
    go_wp2
    go_ret2
    have hg:=HG.out
    rw [List.take_length] at hg hS'
    exact⟨fun _=>⟨b,F',rfl,hS',Hf.out,fun x hx=>by have:=HF.out x hx;omega⟩,fun h=>absurd hg h⟩
end Go.Proofs.YtdanghnadbkhfaaGreat
end
section
namespace Go.Proofs.YtdanghnadbkhfaaGreat
open Go Go.RowKit Rg Mp Hp Qs
theorem findR_cases (ns:List K4) (k:K4):(k∈ns∧0≤findR ns k∧findR ns k<ns.length)∨(k∉ns∧findR ns k=-1):=by
 unfold findR
 cases h:ns.idxOf? k with
 | some i =>
  left
  rw [List.idxOf?_eq_some_iff] at h
  obtain⟨h1,h2,_⟩:=h
  have h3:ns[i]=k:=by simpa using h2
  refine⟨by rw [← h3];exact List.getElem_mem _,?_,?_⟩<;>simp<;>omega
 | none=>right;exact⟨by simpa using h,rfl⟩
set_option maxHeartbeats 2000000 in
set_option maxRecDepth 100000 in
theorem R25Right_calls {w:World} {s:Int} {ns:List K4} {v:Value} (hl:ns.length≤90000) (hv:Reads w v ns.length 4 (flat ns)) :
  Calls Tryz.prog 31 #[.agg #[.int .i64 s,v]] w fun e w'=>e=.returned (.bool (decide (GoodQ s ns)))∧Fr [] w w':=by
 have hvk:=hv
 obtain⟨_,a,c,rfl,hav⟩:=hv
 have Hav:=Lib.hid hav
 have Hvk:=Lib.hid hvk
 have Hl:=Lib.hid hl
 clear hav hvk hl
 obtain⟨i0,hi0,hi1,hi2,hi3⟩:=info_parts info_quad
 by_cases hs1:s<2
 ·have hng:¬ GoodQ s ns:=fun h=>by have:=h.1;omega
  have Hng:=Lib.hid hng
  clear hng
  go_enter Tryz.func31,Tryz.ntmps31
  go_wp2
  go_ret
  exact⟨by rw [decide_eq_false Hng.out];rfl,by (repeat first|exact Fr.refl _ _|assumption|apply Fr.n|apply Fr.d|apply Fr.a|refine Fr.s ?_ (.inr (by simp;try omega)) _)⟩
 by_cases hs2:8<s
 ·have hng:¬ GoodQ s ns:=fun h=>by have:=h.2.1;omega
  have Hng:=Lib.hid hng
  clear hng
  go_enter Tryz.func31,Tryz.ntmps31
  go_wp2
  go_ret
  exact⟨by rw [decide_eq_false Hng.out];rfl,by (repeat first|exact Fr.refl _ _|assumption|apply Fr.n|apply Fr.d|apply Fr.a|refine Fr.s ?_ (.inr (by simp;try omega)) _)⟩
 have hd:decide ((100000:Int)<↑ns.length)=false:=by have:=Hl.out;simp;omega
 go_enter Tryz.func31,Tryz.ntmps31
 go_wp2
 clear hd
 go_loopw [4] (fun x wr=>∃ (k:Nat) (nv:Value),x=.int .i64 k∧k≤ns.length∧Fr [] w wr∧w.heap.size+2≤wr.heap.size∧wr.heap[w.heap.size]?=some (.cells #[.int .i64 s,.slice a ns.length c] 24 (0,0)) ∧
   wr.heap[w.heap.size+1]?=some (.cells #[.int .i64 s,nv] 24 (0,0)) ∧
   wr.ownsRow (w.heap.size+2) 105 4 nv k (flat (ns.take k))∧GoodQ s (ns.take k)) (fun x _=>ns.length - (intOf x).toNat)
 case atStart =>
  refine⟨0,.slice none 0 0,rfl,by omega,?_,?_,?_,?_,World.ownsRow_nil _ _ _ _,GoodQ.nil (by omega) (by omega)⟩
  ·(repeat first|exact Fr.refl _ _|assumption|apply Fr.n|apply Fr.d|apply Fr.a|refine Fr.s ?_ (.inr (by simp;try omega)) _)
  ·simp only [hAz,hSz];omega
  ·(repeat first|rw [if_pos (by omega)]|rw [if_neg (by omega)]|rw [hDR]|rw [hDN]|rw [hAz]|rw [hSz]|rw [hAC]|rw [hSC]|rw [oMS]|rw [uPC]|rw [lSZ]|rw [lSS]|rfl)
  ·(repeat first|rw [if_pos (by omega)]|rw [if_neg (by omega)]|rw [hDR]|rw [hDN]|rw [hAz]|rw [hSz]|rw [hAC]|rw [hSC]|rw [oMS]|rw [uPC]|rw [lSZ]|rw [lSS]|rfl)
 case round =>
  obtain⟨k,nv,rfl,hk,hf,hsz,hb0,hb1,hown,hgood⟩:=hrel
  have b0:=hEC hb0 0
  have b1:=hEC hb0 1
  have o0:=hEC hb1 0
  have o1:=hEC hb1 1
  have hz1:w.heap.size+1<wr.heap.size:=by omega
  have Hsz:=Lib.hid hsz
  have hnb:∀ x,nv.ownBlock=some x→w.heap.size+2≤x:=fun x hx=>owns_ge hown hx
  have Hnb:=Lib.hid hnb
  have Hf:=Lib.hid hf
  have H0:=Lib.hid hb0
  have H1:=Lib.hid hb1
  have Hown:=Lib.hid hown
  have Hgood:=Lib.hid hgood
  obtain⟨na,nc,rfl,_,_⟩:=oFM hown
  clear hf hb0 hb1 hown hsz hnb hgood
  by_cases hlt:k<ns.length
  ·obtain⟨g,off,rfl,hg,hc⟩:=Hav.out (by omega)
   obtain⟨f0,f1,f2,f3⟩:=flat_get (List.getElem?_eq_getElem hlt)
   rw [Nat.mul_comm] at f0 f1 f2 f3
   obtain⟨x,hx⟩:∃ x,x=ns[k]:=⟨_,rfl⟩
   rw [← hx] at f0 f1 f2 f3
   have hgw:∀ j,wr.cell? ⟨g,off+j,none⟩=w.cell? ⟨g,off+j,none⟩:=fun j=>Hf.out.cell (p:=⟨g,off+j,none⟩) hg (by simp)
   have e0:=(hgw _).trans (hc _ _ f0)
   have e1:=(hgw _).trans (hc _ _ f1)
   have e2:=(hgw _).trans (hc _ _ f2)
   have e3:=(hgw _).trans (hc _ _ f3)
   simp only [← Nat.add_assoc] at e1 e2 e3
   have hgr:g<wr.heap.size:=by have:=Hf.out.size;omega
   have E0:=hc _ _ f0
   have E1:=hc _ _ f1
   have E2:=hc _ _ f2
   have E3:=hc _ _ f3
   simp only [← Nat.add_assoc] at E1 E2 E3
   have HE:=Lib.hid (And.intro E0 (And.intro E1 (And.intro E2 E3)))
   clear E0 E1 E2 E3
   have Hx:=Lib.hid hx
   clear hx hc f0 f1 f2 f3 hgw
   have hlk:(ns.take k).length=k:=by rw [List.length_take];omega
   have Hlk:=Lib.hid hlk
   clear hlk
   have hR:∀ w1,Fr [] wr w1→Reads w1 (.slice na k nc) (ns.take k).length 4 (flat (ns.take k)):=fun w1 hf1=>by rw [Hlk.out];exact (Reads.of_owns Hown.out).fr hf1
   have HR:=Lib.hid hR
   clear hR
   obtain⟨la,hla⟩:∃ la,la=lvl s (levs s (ns.take k)) x.a:=⟨_,rfl⟩
   obtain⟨lb,hlb⟩:∃ lb,lb=lvl s (levs s (ns.take k)) x.b:=⟨_,rfl⟩
   obtain⟨lc,hlc⟩:∃ lc,lc=lvl s (levs s (ns.take k)) x.c:=⟨_,rfl⟩
   obtain⟨ld,hld⟩:∃ ld,ld=lvl s (levs s (ns.take k)) x.d:=⟨_,rfl⟩
   obtain⟨fi,hfi⟩:∃ fi,fi=findR (ns.take k) x:=⟨_,rfl⟩
   have Hla:=Lib.hid hla
   have Hlb:=Lib.hid hlb
   have Hlc:=Lib.hid hlc
   have Hld:=Lib.hid hld
   have Hfi:=Lib.hid hfi
   clear hla hlb hlc hld hfi
   have hsp:GoodQ s ns→0≤la∧la<256∧lb=la∧lc=la∧ld=la∧fi<0:=fun h=>by
    obtain⟨⟨h0,h1,h2,h3,h4⟩,hn⟩:=goodQ_step h hlt
    have hx:=Hx.out
    subst hx
    rw [Hla.out,Hlb.out,Hlc.out,Hld.out,Hfi.out]
    refine⟨h0,h1,h2,h3,h4,?_⟩
    rcases findR_cases (ns.take k) ns[k] with h5|h5
    ·exact absurd h5.1 hn
    ·rw [h5.2];omega
   have Hsp:=Lib.hid hsp
   clear hsp
   go_wp2_with fail
   have hk3:(wr.alloc (.cells #[.int .i64 x.a,.int .i64 x.b,.int .i64 x.c,.int .i64 x.d] 81)).heap[wr.heap.size]?=some (.cells #[.int .i64 x.a,.int .i64 x.b,.int .i64 x.c,.int .i64 x.d] 81 (0,0)):=by (repeat first|rw [if_pos (by omega)]|rw [if_neg (by omega)]|rw [hDR]|rw [hDN]|rw [hAz]|rw [hSz]|rw [hAC]|rw [hSC]|rw [oMS]|rw [uPC]|rw [lSZ]|rw [lSS]|rfl)
   have hf3:Fr [] wr (wr.alloc (.cells #[.int .i64 x.a,.int .i64 x.b,.int .i64 x.c,.int .i64 x.d] 81)):=by (repeat first|exact Fr.refl _ _|assumption|apply Fr.n|apply Fr.d|apply Fr.a|refine Fr.s ?_ (.inr (by simp;try omega)) _)
   generalize wr.alloc (.cells #[.int .i64 x.a,.int .i64 x.b,.int .i64 x.c,.int .i64 x.d] 81)=w3 at *
   have hcells:∀ w',Fr [] w3 w'→w'.cell? ⟨w.heap.size+1,0,none⟩=some (.int .i64 s)∧w'.cell? ⟨w.heap.size+1,1,none⟩=some (.slice na k nc)∧w'.cell? ⟨wr.heap.size,0,none⟩=some (.int .i64 x.a)∧w'.cell? ⟨wr.heap.size,1,none⟩=some (.int .i64 x.b) ∧
     w'.cell? ⟨wr.heap.size,2,none⟩=some (.int .i64 x.c)∧w'.cell? ⟨wr.heap.size,3,none⟩=some (.int .i64 x.d):=fun w' hf'=>by
    have hp:=((hf3.trans0 hf').block _ (lBk H1.out) (by simp)).trans H1.out
    have hq:=(hf'.block _ (lBk hk3) (by simp)).trans hk3
    exact⟨hEC hp 0,hEC hp 1,hEC hq 0,hEC hq 1,hEC hq 2,hEC hq 3⟩
   have hLev:∀ (w1:World) (id l:Int),l=lvl s (levs s (ns.take k)) id→Fr [] w3 w1→Calls Tryz.prog 78 #[.agg #[.int .i64 s,.slice na k nc],.int .i64 id] w1 fun e w'=>e=.returned (.int .i64 l)∧Fr [] w3 w'∧w'.cell? ⟨w.heap.size+1,0,none⟩=some (.int .i64 s)∧w'.cell? ⟨w.heap.size+1,1,none⟩=some (.slice na k nc)∧w'.cell? ⟨wr.heap.size,0,none⟩=some (.int .i64 x.a)∧w'.cell? ⟨wr.heap.size,1,none⟩=some (.int .i64 x.b) ∧
     w'.cell? ⟨wr.heap.size,2,none⟩=some (.int .i64 x.c)∧w'.cell? ⟨wr.heap.size,3,none⟩=some (.int .i64 x.d):=fun w1 id l hl1 hf1=>by
    refine (level_ref Hgood.out (HR.out w1 (hf3.trans0 hf1)) id).mono ?_
    rintro e w' ⟨rfl,o,rfl⟩
    exact⟨by rw [hl1],hf1.alloc o,hcells _ (hf1.alloc o)⟩
   have hFind:∀ (w1:World),Fr [] w3 w1→Calls Tryz.prog 79 #[.agg #[.int .i64 s,.slice na k nc],.agg #[.int .i64 x.a,.int .i64 x.b,.int .i64 x.c,.int .i64 x.d]] w1 fun e w'=>e=.returned (.int .i64 fi)∧Fr [] w3 w':=fun w1 hf1=>by
    refine (find_ref (s:=s) (by rw [Hlk.out];have:=Hl.out;omega) (HR.out w1 (hf3.trans0 hf1)) x).mono ?_
    rintro e w' ⟨rfl,o1,o2,n,rfl⟩
    exact⟨by rw [Hfi.out],((hf1.alloc o1).alloc o2).drewN n⟩
   have hcs:=hcells w3 (Fr.refl _ _)
   have HLev:=Lib.hid hLev
   have HFind:=Lib.hid hFind
   have Hf3:=Lib.hid hf3
   have Hk3:=Lib.hid hk3
   clear hLev hFind hcells hf3 hk3 b0 b1 o0 o1 e0 e1 e2 e3
   obtain⟨c0,c1,k0,k1,k2,k3⟩:=hcs
   clear c0 c1 k0 k1 k2 k3
   refine (HLev.out _ _ _ Hla.out (Fr.refl _ _)).mono ?_
   rintro e w4 ⟨rfl,hf,c0,c1,k0,k1,k2,k3⟩
   have Hf_w4:=Lib.hid hf
   clear hf
   go_wp2_with fail
   any_goals (go_ret;refine⟨?_,(Hf.out.trans0 Hf3.out).trans0 Hf_w4.out⟩;rw [decide_eq_false (p:=GoodQ s ns) fun h=>by have:=Hsp.out h;omega];rfl)
   clear c0 c1 k0 k1 k2 k3
   refine (HLev.out _ _ _ Hlb.out Hf_w4.out).mono ?_
   rintro e w5 ⟨rfl,hf,c0,c1,k0,k1,k2,k3⟩
   have Hf_w5:=Lib.hid hf
   clear hf
   go_wp2_with fail
   any_goals (go_ret;refine⟨?_,(Hf.out.trans0 Hf3.out).trans0 Hf_w5.out⟩;rw [decide_eq_false (p:=GoodQ s ns) fun h=>by have:=Hsp.out h;omega];rfl)
   clear c0 c1 k0 k1 k2 k3
   refine (HLev.out _ _ _ Hlc.out Hf_w5.out).mono ?_
   rintro e w6 ⟨rfl,hf,c0,c1,k0,k1,k2,k3⟩
   have Hf_w6:=Lib.hid hf
   clear hf
   go_wp2_with fail
   any_goals (go_ret;refine⟨?_,(Hf.out.trans0 Hf3.out).trans0 Hf_w6.out⟩;rw [decide_eq_false (p:=GoodQ s ns) fun h=>by have:=Hsp.out h;omega];rfl)
   clear c0 c1 k0 k1 k2 k3
   refine (HLev.out _ _ _ Hld.out Hf_w6.out).mono ?_
   rintro e w7 ⟨rfl,hf,c0,c1,k0,k1,k2,k3⟩
   have Hf_w7:=Lib.hid hf
   clear hf
   go_wp2_with fail
   any_goals (go_ret;refine⟨?_,(Hf.out.trans0 Hf3.out).trans0 Hf_w7.out⟩;rw [decide_eq_false (p:=GoodQ s ns) fun h=>by have:=Hsp.out h;omega];rfl)
   clear c0 c1 k0 k1 k2 k3
   refine (HFind.out _ Hf_w7.out).mono ?_
   rintro e w8 ⟨rfl,hf⟩
   have Hf8:=Lib.hid hf
   clear hf
   have hf8:Fr [] wr w8:=Hf3.out.trans0 Hf8.out
   have hp:=(hf8.block _ (lBk H1.out) (by simp)).trans H1.out
   have hq:=(hf8.block _ (lBk H0.out) (by simp)).trans H0.out
   have o0:=hEC hp 0
   have o1:=hEC hp 1
   have p1:=hEF hp 1
   have b1:=hEC hq 1
   obtain⟨E0,E1,E2,E3⟩:=HE.out
   have hgw:∀ j,w8.cell? ⟨g,j,none⟩=w.cell? ⟨g,j,none⟩:=fun j=>(Hf.out.trans0 hf8).cell (p:=⟨g,j,none⟩) hg (by simp)
   have e0:=(hgw _).trans E0
   have e1:=(hgw _).trans E1
   have e2:=(hgw _).trans E2
   have e3:=(hgw _).trans E3
   have hown8:=oOB Hown.out fun y hy=>hf8.block y (oLT Hown.out hy) (by simp)
   have hsz8:=hf8.size
   have hz1:w.heap.size+1<w8.heap.size:=by have:=Hsz.out;omega
   have hg8:g<w8.heap.size:=by omega
   have Hown8:=Lib.hid hown8
   have HP8:=Lib.hid hp
   have HQ8:=Lib.hid hq
   have Hf8w:=Lib.hid (Hf.out.trans0 hf8)
   have Hsz8:=Lib.hid hsz8
   clear hf8 hp hq E0 E1 E2 E3 hgw hown8 hsz8 HLev HFind
   go_wp2_with fail
   any_goals (go_ret;refine⟨?_,Hf8w.out⟩;rw [decide_eq_false (p:=GoodQ s ns) fun h=>by have:=Hsp.out h;omega];rfl)
   have hadd:Fits s (ns.take k) x∧x∉ns.take k:=by
    have ha:=Hla.out
    have hb:=Hlb.out
    have hc:=Hlc.out
    have hd:=Hld.out
    refine⟨⟨by omega,by omega,by omega,by omega,by omega⟩,fun hm=>?_⟩
    rcases findR_cases (ns.take k) x with h|h
    ·have:=Hfi.out;omega
    ·exact h.1 hm
   have hg1:GoodQ s (ns.take (k+1)):=by
    rw [take_snoc hlt,← Hx.out]
    exact Hgood.out.snoc hadd.1 hadd.2 (by rw [Hlk.out];have:=Hl.out;omega)
   have Hg1:=Lib.hid hg1
   have hk9:k<90000:=by have:=Hl.out;omega
   clear hadd hg1 Hsp
   (refine wRT (by kernel_rfl) (by kernel_rfl) ?_)
   go_wp2_with (at_builtin;refine append_quad (k:=x) (n:=k) (base:=w.heap.size+2) (xs:=flat (ns.take k)) rfl rfl rfl ?e1 rfl ?e2 ?e3 ?e4 ?_)
   case e1=>exact oOB Hown8.out fun y hy=>by rw [hDR];exact hAE _ _ _ (oLT Hown8.out hy)
   case e2=>(repeat first|rw [if_pos (by omega)]|rw [if_neg (by omega)]|rw [hDR]|rw [hDN]|rw [hAz]|rw [hSz]|rw [hAC]|rw [hSC]|rw [oMS]|rw [uPC]|rw [lSZ]|rw [lSS]|rfl)
   case e3=>have:=Hl.out;omega
   case e4=>rw [hDR,hAz];omega
   intro g' cap w9 hown1 hW1 hF1 hloc1 hg1
   have old:∀ y,y<w.heap.size+2→w9.heap[y]?=w8.heap[y]?:=fun y hy=>(hW1 y (by omega) (fun e=>by have:=Hnb.out y e;omega)).trans (by rw [hDR];exact hAE _ _ _ (by omega))
   have hb2:=(old (w.heap.size+1) (by omega)).trans HP8.out
   have o0:=hEC hb2 0
   have o1:=hEC hb2 1
   have p1:=hEF hb2 1
   have Hown1:=Lib.hid hown1
   have Hold:=Lib.hid old
   have HF1:=Lib.hid hF1
   have HB2:=Lib.hid hb2
   clear hown1 hW1 hF1 hloc1 old hb2
   have hs1:w.heap.size+1<w9.heap.size:=lBk HB2.out
   go_wp2
   refine Strict.intro rfl ?_
   go_wp2
   go_roundw
   case rel =>
    have hG:w.heap.size+2≤g':=owns_ge Hown1.out rfl
    refine⟨k+1,.slice (some ⟨g',0,none⟩) (k+1) cap,by go_num,by omega,?_,?_,?_,?_,?_,Hg1.out⟩
    ·refine (((Hf8w.out.alloc _).drew).trans HF1.out fun y hy=>?_).setCell (Or.inr (by simp)) _
     have:=Hnb.out y (by simpa using hy)
     right;omega
    ·rw [hSz];omega
    ·rw [hSC,if_neg (by omega),Hold.out _ (by omega)];exact HQ8.out
    ·rw [hSC,if_pos rfl,HB2.out];rfl
    ·have ht:flat (ns.take (k+1))=flat (ns.take k)++kcells x:=by
      rw [List.take_add_one,List.getElem?_eq_getElem hlt,← Hx.out]
      exact flat_snoc _ _
     rw [ht]
     refine oOB Hown1.out fun y hy=>?_
     have:g'=y:=by simpa [Value.ownBlock] using hy
     rw [hSC,if_neg (by omega)]
   case measure=>simp [intOf];omega
  ·obtain rfl:k=ns.length:=by omega
   have hgood:=Hgood.out
   rw [List.take_length] at hgood
   have Hgd:=Lib.hid hgood
   clear hgood
   go_wp2
   go_ret
   exact⟨by rw [decide_eq_true Hgd.out];rfl,Hf.out⟩
end Go.Proofs.YtdanghnadbkhfaaGreat
end
section
namespace Go.Proofs.YtdanghnadbkhfaaGreat
open Go Go.RowKit Rg Mp Hp Qs
def CopyPost (w:World) (s:Int) (ns:List K4) (e:Ending) (w':World):Prop:=∃ v,e=.returned (.agg #[.int .i64 s,v])∧w'.ownsRow w.heap.size 105 4 v ns.length (flat ns)∧Fr [] w w'
set_option maxHeartbeats 4000000 in
theorem copied_ref {w:World} {s:Int} {ns:List K4} {v:Value} (hl:ns.length≤1048576) (hv:Reads w v ns.length 4 (flat ns)) :
  Calls Tryz.prog 72 #[.agg #[.int .i64 s,v]] w (CopyPost w s ns):=by
 have hvk:=hv
 obtain⟨_,a,c,rfl,hav⟩:=hv
 have Hav:=Lib.hid hav
 have Hvk:=Lib.hid hvk
 clear hav hvk
 obtain⟨i0,hi0,hi1,hi2,hi3⟩:=info_parts info_quad
 go_enter Tryz.func72,Tryz.ntmps72
 go_wp2
 go_loopw [4] (fun x wr=>∃ (k:Nat) (nv:Value),x=.int .i64 k∧k≤ns.length∧Fr [] w wr∧w.heap.size+3≤wr.heap.size∧wr.heap[w.heap.size]?=some (.cells #[.int .i64 s,.slice a ns.length c] 24 (0,0)) ∧
   wr.heap[w.heap.size+1]?=some (.cells #[.int .i64 0,.slice none 0 0] 24 (0,0))∧wr.heap[w.heap.size+2]?=some (.cells #[.int .i64 s,nv] 24 (0,0)) ∧
   wr.ownsRow (w.heap.size+3) 105 4 nv k (flat (ns.take k))) (fun x _=>ns.length - (intOf x).toNat)
 case atStart =>
  refine⟨0,.slice none 0 0,rfl,by omega,?_,?_,?_,?_,?_,World.ownsRow_nil _ _ _ _⟩
  ·repeat (first|exact Fr.refl _ _|apply Fr.drewN|apply Fr.drew|apply Fr.alloc|refine Fr.setCell ?_ (Or.inr (by simp)) _)
  ·simp only [hAz];omega
  ·(repeat first|rw [if_pos (by omega)]|rw [if_neg (by omega)]|rw [hDR]|rw [hDN]|rw [hAz]|rw [hSz]|rw [hAC]|rw [hSC]|rw [oMS]|rw [uPC]|rw [lSZ]|rw [lSS]|rfl)
  ·(repeat first|rw [if_pos (by omega)]|rw [if_neg (by omega)]|rw [hDR]|rw [hDN]|rw [hAz]|rw [hSz]|rw [hAC]|rw [hSC]|rw [oMS]|rw [uPC]|rw [lSZ]|rw [lSS]|rfl)
  ·(repeat first|rw [if_pos (by omega)]|rw [if_neg (by omega)]|rw [hDR]|rw [hDN]|rw [hAz]|rw [hSz]|rw [hAC]|rw [hSC]|rw [oMS]|rw [uPC]|rw [lSZ]|rw [lSS]|rfl)
 case round =>
  obtain⟨k,nv,rfl,hk,hf,hsz,hb0,hb1,hb2,hown⟩:=hrel
  have b0:=hEC hb0 0
  have b1:=hEC hb0 1
  have r0:=hEC hb1 0
  have r1:=hEC hb1 1
  have q0:=hEF hb1 0
  have q1:=hEF hb1 1
  have o0:=hEC hb2 0
  have o1:=hEC hb2 1
  have p1:=hEF hb2 1
  have Hsz:=Lib.hid hsz
  have hz0:w.heap.size<wr.heap.size:=by omega
  have hz1:w.heap.size+1<wr.heap.size:=by omega
  have hz2:w.heap.size+2<wr.heap.size:=by omega
  have hnb:∀ x,nv.ownBlock=some x→w.heap.size+3≤x:=fun x hx=>owns_ge hown hx
  have Hnb:=Lib.hid hnb
  have Hf:=Lib.hid hf
  have H0:=Lib.hid hb0
  have H1:=Lib.hid hb1
  have H2:=Lib.hid hb2
  have Hown:=Lib.hid hown
  obtain⟨na,nc,rfl,_,_⟩:=oFM hown
  clear hf hb0 hb1 hb2 hown hsz hnb
  by_cases hlt:k<ns.length
  ·obtain⟨g,off,rfl,hg,hc⟩:=Hav.out (by omega)
   obtain⟨f0,f1,f2,f3⟩:=flat_get (List.getElem?_eq_getElem hlt)
   rw [Nat.mul_comm] at f0 f1 f2 f3
   obtain⟨x,hx⟩:∃ x,x=ns[k]:=⟨_,rfl⟩
   rw [← hx] at f0 f1 f2 f3
   have hgw:∀ j,wr.cell? ⟨g,off+j,none⟩=w.cell? ⟨g,off+j,none⟩:=fun j=>Hf.out.cell (p:=⟨g,off+j,none⟩) hg (by simp)
   have e0:=(hgw _).trans (hc _ _ f0)
   have e1:=(hgw _).trans (hc _ _ f1)
   have e2:=(hgw _).trans (hc _ _ f2)
   have e3:=(hgw _).trans (hc _ _ f3)
   simp only [← Nat.add_assoc] at e1 e2 e3
   have hgr:g<wr.heap.size:=by omega
   have Hx:=Lib.hid hx
   clear hx hc f0 f1 f2 f3 hgw
   go_wp2
   (refine wRT (by kernel_rfl) (by kernel_rfl) ?_)
   go_wp2_with (at_builtin;refine append_quad (k:=x) (n:=k) (base:=w.heap.size+3) (xs:=flat (ns.take k)) rfl rfl rfl ?e1 rfl ?e2 ?e3 ?e4 ?_)
   case e1=>exact oOB Hown.out fun y hy=>by rw [hDR];exact hAE _ _ _ (oLT Hown.out hy)
   case e2=>(repeat first|rw [if_pos (by omega)]|rw [if_neg (by omega)]|rw [hDR]|rw [hDN]|rw [hAz]|rw [hSz]|rw [hAC]|rw [hSC]|rw [oMS]|rw [uPC]|rw [lSZ]|rw [lSS]|rfl)
   case e3=>omega
   case e4=>rw [hDR,hAz];omega
   intro g' cap w1 hown1 hW1 hF1 hloc1 hg1
   have old:∀ y,y<w.heap.size+3→w1.heap[y]?=wr.heap[y]?:=fun y hy=>(hW1 y (by have:=Hsz.out;first|omega|(simp only [hDR,hAz];omega)) (fun e=>by have:=Hnb.out y e;omega)).trans (by rw [hDR];exact hAE _ _ _ (by have:=Hsz.out;omega))
   have hb2:=(old (w.heap.size+2) (by omega)).trans H2.out
   have o0:=hEC hb2 0
   have o1:=hEC hb2 1
   have p1:=hEF hb2 1
   have Hown1:=Lib.hid hown1
   have Hold:=Lib.hid old
   have HF1:=Lib.hid hF1
   have HB2:=Lib.hid hb2
   clear hown1 hW1 hF1 hloc1 old hb2
   have hs1:w.heap.size+2<w1.heap.size:=lBk HB2.out
   go_wp2
   refine Strict.intro rfl ?_
   go_wp2
   go_roundw
   case rel =>
    have hG:w.heap.size+3≤g':=owns_ge Hown1.out rfl
    refine⟨k+1,.slice (some ⟨g',0,none⟩) (k+1) cap,by go_num,by omega,?_,?_,?_,?_,?_,?_⟩
    ·refine (((Hf.out.alloc _).drew).trans HF1.out fun y hy=>?_).setCell (Or.inr (by simp;omega)) _
     have:=Hnb.out y (by simpa using hy)
     right;omega
    ·rw [hSz];have:=HF1.out.size;simp only [hDR,hAz] at this;have:=Hsz.out;omega
    ·rw [hSC,if_neg (by omega),Hold.out _ (by omega)];exact H0.out
    ·rw [hSC,if_neg (by omega),Hold.out _ (by omega)];exact H1.out
    ·rw [hSC,if_pos rfl,HB2.out];rfl
    ·have ht:flat (ns.take (k+1))=flat (ns.take k)++kcells x:=by
      rw [List.take_add_one,List.getElem?_eq_getElem hlt,← Hx.out]
      exact flat_snoc _ _
     rw [ht]
     refine oOB Hown1.out fun y hy=>?_
     have:g'=y:=by simpa [Value.ownBlock] using hy
     rw [hSC,if_neg (by omega)]
   case measure=>simp [intOf];omega
  ·go_wp2
   refine bodyPost_ret (v:=.agg #[.int .i64 s,.slice na k nc]) (by simp [results,Tryz.results72,go_sem,r0,r1]) rfl ⟨_,rfl,?_,?_⟩
   ·have hkn:k=ns.length:=by omega
    subst hkn
    rw [List.take_of_length_le (Nat.le_refl _)] at Hown
    refine oOB (owns_base Hown.out (by omega)) fun y hy=>?_
    have:=Hnb.out y hy
    exact heap_setCell2 _ _ _ _ _ _ (by omega)
   ·exact (Hf.out.setCell (Or.inr (by simp)) _).setCell (Or.inr (by simp)) _
end Go.Proofs.YtdanghnadbkhfaaGreat
end
