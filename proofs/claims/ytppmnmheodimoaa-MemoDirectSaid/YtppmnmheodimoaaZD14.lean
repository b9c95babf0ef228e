/- Own texts of this claim, part 15: no condition. -/
import Derived.Deep.RegionHeld3
import Derived.Deep.DeepCutAuto
import Derived.Test.YtppmnmheodimoaaZD13
import Derived.Test.YtppmnmheodimoaaZD12
set_option linter.unusedVariables false
set_option linter.unusedSimpArgs false
section
namespace Go.Proofs.Ytppmnmheodimoaa
open Go Go.RowKit Rg Hp Bn
set_option maxHeartbeats 8000000 in
set_option maxRecDepth 100000 in
theorem RCompare_calls {w:World} {na nb:Bool} {da db:List Nat} {va vb:Value} (ha:Reads w va da.length 1 (u32s da)) (hb:Reads w vb db.length 1 (u32s db)) (hDa:Dig 4294967296 da) (hDb:Dig 4294967296 db) (hla:da.length≤10000) (hlb:db.length≤10000) :
  Calls Try.prog 76 #[.agg #[.bool na,va],.agg #[.bool nb,vb]] w fun e w'=>e=.returned (.int .i64 (cmpS na da nb db))∧Fr [] w w':=by
 have hra:=fun w1 (hf:Fr [] w w1)=>RRight_calls (neg:=na) (ha.fr hf) (by omega)
 have hrb:=fun w1 (hf:Fr [] w w1)=>RRight_calls (neg:=nb) (hb.fr hf) (by omega)
 have Ha0:=Lib.hid ha
 have Hb0:=Lib.hid hb
 obtain⟨_,a,ac,rfl,_⟩:=ha
 obtain⟨_,b,bc,rfl,_⟩:=hb
 have HDa:=Lib.hid hDa
 have HDb:=Lib.hid hDb
 obtain⟨r,hS⟩:∃ r,r=cmpS na da nb db:=⟨_,rfl⟩
 rw [← hS]
 unfold cmpS at hS
 clear hDa hDb
 cases hR1:RightB na da with
 | false =>
  rw [hR1] at hra hS
  simp only [Bool.false_and,if_true] at hS
  subst hS
  have Hra:=Lib.hid hra
  clear hR1 hra hrb
  go_enter Try.func76,Try.ntmps76
  go_wp2_with fail
  refine (Hra.out _ (by (repeat first|exact Fr.refl _ _|assumption|apply Fr.n|apply Fr.d|apply Fr.a|refine Fr.s ?_ (.inr (by simp;try omega)) _))).mono ?_
  rintro e w1 ⟨rfl,hf⟩
  have ha_:=(hf.block (w.heap.size) (by first|(simp;done)|(simp;omega)) (by simp)).trans (show _=some (.cells #[.bool na,.slice a da.length ac] 114 (0,0)) by (repeat first|rw [if_pos (by omega)]|rw [if_neg (by omega)]|rw [hDR]|rw [hDN]|rw [hAz]|rw [hSz]|rw [hAC]|rw [hSC]|rw [oMS]|rw [uPC]|rw [lSZ]|rw [lSS]|rfl))
  have a0:=hEC ha_ 0
  have a1:=hEC ha_ 1
  have al:=lBk ha_
  have Ha:=Lib.hid ha_
  clear ha_
  have hb_:=(hf.block (w.heap.size+1) (by first|(simp;done)|(simp;omega)) (by simp)).trans (show _=some (.cells #[.bool nb,.slice b db.length bc] 114 (0,0)) by (repeat first|rw [if_pos (by omega)]|rw [if_neg (by omega)]|rw [hDR]|rw [hDN]|rw [hAz]|rw [hSz]|rw [hAC]|rw [hSC]|rw [oMS]|rw [uPC]|rw [lSZ]|rw [lSS]|rfl))
  have b0:=hEC hb_ 0
  have b1:=hEC hb_ 1
  have bl:=lBk hb_
  have Hb:=Lib.hid hb_
  clear hb_
  have Hf:=Lib.hid (Fr.trans0 (by (repeat first|exact Fr.refl _ _|assumption|apply Fr.n|apply Fr.d|apply Fr.a|refine Fr.s ?_ (.inr (by simp;try omega)) _):Fr [] w _) hf)
  clear hf
  go_wp2
  go_ret
  exact⟨rfl,Hf.out⟩
 | true =>
  rw [hR1] at hra
  have Hra:=Lib.hid hra
  obtain⟨cA,lA,nA⟩:=right_canon hR1
  rw [hR1] at hS
  clear hR1 hra nA
  cases hR2:RightB nb db with
  | false =>
   rw [hR2] at hrb hS
   simp only [Bool.and_false,if_true] at hS
   subst hS
   have Hrb:=Lib.hid hrb
   clear hR2 hrb
   go_enter Try.func76,Try.ntmps76
   go_wp2_with fail
   refine (Hra.out _ (by (repeat first|exact Fr.refl _ _|assumption|apply Fr.n|apply Fr.d|apply Fr.a|refine Fr.s ?_ (.inr (by simp;try omega)) _))).mono ?_
   rintro e w1 ⟨rfl,hf⟩
   have ha_:=(hf.block (w.heap.size) (by first|(simp;done)|(simp;omega)) (by simp)).trans (show _=some (.cells #[.bool na,.slice a da.length ac] 114 (0,0)) by (repeat first|rw [if_pos (by omega)]|rw [if_neg (by omega)]|rw [hDR]|rw [hDN]|rw [hAz]|rw [hSz]|rw [hAC]|rw [hSC]|rw [oMS]|rw [uPC]|rw [lSZ]|rw [lSS]|rfl))
   have a0:=hEC ha_ 0
   have a1:=hEC ha_ 1
   have al:=lBk ha_
   have Ha:=Lib.hid ha_
   clear ha_
   have hb_:=(hf.block (w.heap.size+1) (by first|(simp;done)|(simp;omega)) (by simp)).trans (show _=some (.cells #[.bool nb,.slice b db.length bc] 114 (0,0)) by (repeat first|rw [if_pos (by omega)]|rw [if_neg (by omega)]|rw [hDR]|rw [hDN]|rw [hAz]|rw [hSz]|rw [hAC]|rw [hSC]|rw [oMS]|rw [uPC]|rw [lSZ]|rw [lSS]|rfl))
   have b0:=hEC hb_ 0
   have b1:=hEC hb_ 1
   have bl:=lBk hb_
   have Hb:=Lib.hid hb_
   clear hb_
   have Hf:=Lib.hid (Fr.trans0 (by (repeat first|exact Fr.refl _ _|assumption|apply Fr.n|apply Fr.d|apply Fr.a|refine Fr.s ?_ (.inr (by simp;try omega)) _):Fr [] w _) hf)
   clear hf
   go_wp2_with fail
   refine (Hrb.out _ Hf.out).mono ?_
   rintro e w2 ⟨rfl,hf⟩
   (try clear a0)
   (try clear a1)
   (try clear al)
   have ha_:=(hf.block _ (lBk Ha.out) (by simp)).trans Ha.out
   clear Ha
   have a0:=hEC ha_ 0
   have a1:=hEC ha_ 1
   have al:=lBk ha_
   have Ha:=Lib.hid ha_
   clear ha_
   (try clear b0)
   (try clear b1)
   (try clear bl)
   have hb_:=(hf.block _ (lBk Hb.out) (by simp)).trans Hb.out
   clear Hb
   have b0:=hEC hb_ 0
   have b1:=hEC hb_ 1
   have bl:=lBk hb_
   have Hb:=Lib.hid hb_
   clear hb_
   have Hf:=Lib.hid (Hf.out.trans0 hf)
   clear hf
   go_wp2
   go_ret
   exact⟨rfl,Hf.out⟩
  | true =>
   rw [hR2] at hrb hS
   simp only [Bool.and_self,Bool.true_eq_false,if_false] at hS
   have Hrb:=Lib.hid hrb
   obtain⟨cB,lB,nB⟩:=right_canon hR2
   have HcA:=Lib.hid cA
   have HcB:=Lib.hid cB
   have HS:=Lib.hid hS
   clear hR2 hrb cA cB hS nB
   go_enter Try.func76,Try.ntmps76
   go_wp2_with fail
   refine (Hra.out _ (by (repeat first|exact Fr.refl _ _|assumption|apply Fr.n|apply Fr.d|apply Fr.a|refine Fr.s ?_ (.inr (by simp;try omega)) _))).mono ?_
   rintro e w1 ⟨rfl,hf⟩
   have ha_:=(hf.block (w.heap.size) (by first|(simp;done)|(simp;omega)) (by simp)).trans (show _=some (.cells #[.bool na,.slice a da.length ac] 114 (0,0)) by (repeat first|rw [if_pos (by omega)]|rw [if_neg (by omega)]|rw [hDR]|rw [hDN]|rw [hAz]|rw [hSz]|rw [hAC]|rw [hSC]|rw [oMS]|rw [uPC]|rw [lSZ]|rw [lSS]|rfl))
   have a0:=hEC ha_ 0
   have a1:=hEC ha_ 1
   have al:=lBk ha_
   have Ha:=Lib.hid ha_
   clear ha_
   have hb_:=(hf.block (w.heap.size+1) (by first|(simp;done)|(simp;omega)) (by simp)).trans (show _=some (.cells #[.bool nb,.slice b db.length bc] 114 (0,0)) by (repeat first|rw [if_pos (by omega)]|rw [if_neg (by omega)]|rw [hDR]|rw [hDN]|rw [hAz]|rw [hSz]|rw [hAC]|rw [hSC]|rw [oMS]|rw [uPC]|rw [lSZ]|rw [lSS]|rfl))
   have b0:=hEC hb_ 0
   have b1:=hEC hb_ 1
   have bl:=lBk hb_
   have Hb:=Lib.hid hb_
   clear hb_
   have Hf:=Lib.hid (Fr.trans0 (by (repeat first|exact Fr.refl _ _|assumption|apply Fr.n|apply Fr.d|apply Fr.a|refine Fr.s ?_ (.inr (by simp;try omega)) _):Fr [] w _) hf)
   clear hf
   go_wp2_with fail
   refine (Hrb.out _ Hf.out).mono ?_
   rintro e w2 ⟨rfl,hf⟩
   (try clear a0)
   (try clear a1)
   (try clear al)
   have ha_:=(hf.block _ (lBk Ha.out) (by simp)).trans Ha.out
   clear Ha
   have a0:=hEC ha_ 0
   have a1:=hEC ha_ 1
   have al:=lBk ha_
   have Ha:=Lib.hid ha_
   clear ha_
   (try clear b0)
   (try clear b1)
   (try clear bl)
   have hb_:=(hf.block _ (lBk Hb.out) (by simp)).trans Hb.out
   clear Hb
   have b0:=hEC hb_ 0
   have b1:=hEC hb_ 1
   have bl:=lBk hb_
   have Hb:=Lib.hid hb_
   clear hb_
   have Hf:=Lib.hid (Hf.out.trans0 hf)
   clear hf
   go_wp2
   refine wRS [([0,2,1],[2]),([3,4,5],[])] (by kernel_rfl) (by kernel_rfl) ?_
   (simp only [wpSegs,pick,Array.getD_eq_getD_getElem?,List.getElem?_toArray,List.getElem?_cons_succ,List.getElem?_cons_zero,Option.getD_some])
   go_wp2_with fail
   refine (bytes_calls (neg:=na) (Ha0.out.fr (by have:=Hf.out;(repeat first|exact Fr.refl _ _|assumption|apply Fr.n|apply Fr.d|apply Fr.a|refine Fr.s ?_ (.inr (by simp;try omega)) _))) HDa.out (by omega)).mono ?_
   rintro e w3 ⟨xa,xc,hlo,rfl,hr,hf0⟩
   have hf:Fr [] w2 w3:=Fr.trans0 (by (repeat first|exact Fr.refl _ _|assumption|apply Fr.n|apply Fr.d|apply Fr.a|refine Fr.s ?_ (.inr (by simp;try omega)) _)) hf0
   (try clear a0)
   (try clear a1)
   (try clear al)
   have ha_:=(hf.block _ (lBk Ha.out) (by simp)).trans Ha.out
   clear Ha
   have a0:=hEC ha_ 0
   have a1:=hEC ha_ 1
   have al:=lBk ha_
   have Ha:=Lib.hid ha_
   clear ha_
   (try clear b0)
   (try clear b1)
   (try clear bl)
   have hb_:=(hf.block _ (lBk Hb.out) (by simp)).trans Hb.out
   clear Hb
   have b0:=hEC hb_ 0
   have b1:=hEC hb_ 1
   have bl:=lBk hb_
   have Hb:=Lib.hid hb_
   clear hb_
   have Hf:=Lib.hid (Hf.out.trans0 hf)
   have Hx:=Lib.hid hr
   have Hxc:=Lib.hid hlo.1
   clear hf hf0 hr hlo
   go_wp2
   refine Mid.intro ⟨⟨aGR (T:=114) (cs:=[.bool nb,.slice b db.length bc]) rfl rfl rfl Try.underlying114 rfl (by kernel_rfl) (fun j v hj=>?rng) rfl,trivial⟩,?_⟩
   case rng =>
    rw [Nat.zero_add,hEC Hb.out,← hj]
    exact (Array.getElem?_toList (xs:=#[Value.bool nb,.slice b db.length bc])).symm
   go_wp2_with fail
   refine (bytes_calls (neg:=nb) (Hb0.out.fr Hf.out) HDb.out (by omega)).mono ?_
   rintro e w4 ⟨ya,yc,hlo,rfl,hr,hf⟩
   (try clear a0)
   (try clear a1)
   (try clear al)
   have ha_:=(hf.block _ (lBk Ha.out) (by simp)).trans Ha.out
   clear Ha
   have a0:=hEC ha_ 0
   have a1:=hEC ha_ 1
   have al:=lBk ha_
   have Ha:=Lib.hid ha_
   clear ha_
   (try clear b0)
   (try clear b1)
   (try clear bl)
   have hb_:=(hf.block _ (lBk Hb.out) (by simp)).trans Hb.out
   clear Hb
   have b0:=hEC hb_ 0
   have b1:=hEC hb_ 1
   have bl:=lBk hb_
   have Hb:=Lib.hid hb_
   clear hb_
   have Hf:=Lib.hid (Hf.out.trans0 hf)
   have Hx:=Lib.hid (Hx.out.fr hf)
   have Hy:=Lib.hid hr
   have Hyc:=Lib.hid hlo.1
   clear hf hr hlo
   go_wp2
   refine Mid.intro ⟨trivial,Strict.intro rfl ?_⟩
   obtain⟨Va,hVa⟩:∃ Va,val 4294967296 da=Va:=⟨_,rfl⟩
   obtain⟨Vb,hVb⟩:∃ Vb,val 4294967296 db=Vb:=⟨_,rfl⟩
   rw [hVa] at Hx HS Hxc ⊢
   rw [hVb] at Hy HS Hyc ⊢
   obtain⟨X,hX⟩:∃ X,dg 256 Va=X:=⟨_,rfl⟩
   obtain⟨Y,hY⟩:∃ Y,dg 256 Vb=Y:=⟨_,rfl⟩
   have hXV:val 256 X=Va:=by rw [← hX];exact val_dg (by omega) Va
   have hYV:val 256 Y=Vb:=by rw [← hY];exact val_dg (by omega) Vb
   have hXD:Dig 256 X:=by rw [← hX];exact dg_dig (by omega) Va
   have hYD:Dig 256 Y:=by rw [← hY];exact dg_dig (by omega) Vb
   have hXC:Canon X:=by rw [← hX];exact dg_canon (by omega) Va
   have hYC:Canon Y:=by rw [← hY];exact dg_canon (by omega) Vb
   have hlen:∀ (ds:List Nat) V,Dig 4294967296 ds→ds.length≤64→val 4294967296 ds=V→(dg 256 V).length≤256:=by
    intro ds V hD hl h
    rw [dg_length_le (by omega),show 256 ^ 256=4294967296 ^ 64 from pow256 64,← h]
    exact Nat.lt_of_lt_of_le (val_lt hD) (Nat.pow_le_pow_right (by omega) hl)
   have hXl:=hlen _ _ HDa.out lA hVa
   have hYl:=hlen _ _ HDb.out lB hVb
   rw [hX] at Hx Hxc hXl ⊢
   rw [hY] at Hy Hyc hYl ⊢
   have HXV:=Lib.hid hXV
   have HYV:=Lib.hid hYV
   have HXD:=Lib.hid hXD
   have HYD:=Lib.hid hYD
   have HXC:=Lib.hid hXC
   have HYC:=Lib.hid hYC
   clear hVa hVb hX hY hXV hYV hXD hYD hXC hYC hlen
   cases na<;>cases nb
   ·
    have hc:=HS.out
    simp only [if_true,Bool.false_eq_true,if_false] at hc
    have Hc:=Lib.hid hc
    clear hc HS
    have Hl1:=Lib.hid (fun w1 (hf1:Fr [] w4 w1)=>less_calls (Hx.out.fr hf1) (Hy.out.fr hf1) HXD.out HYD.out HXC.out HYC.out (by omega) (by omega))
    have Hl2:=Lib.hid (fun w1 (hf1:Fr [] w4 w1)=>less_calls (Hy.out.fr hf1) (Hx.out.fr hf1) HYD.out HXD.out HYC.out HXC.out (by omega) (by omega))
    go_wp2_with fail
    refine (Hl1.out _ (by (repeat first|exact Fr.refl _ _|assumption|apply Fr.n|apply Fr.d|apply Fr.a|refine Fr.s ?_ (.inr (by simp;try omega)) _))).mono ?_
    rintro e w5 ⟨rfl,n5,rfl⟩
    rw [HXV.out,HYV.out]
    by_cases h1:Va<Vb
    ·have hr:r=-1:=by rw [Hc.out];unfold cmpN;rw [if_pos h1]
     rw [decide_eq_true h1]
     have Hr:=Lib.hid hr
     clear hr h1
     go_wp2
     go_ret
     exact⟨by rw [Hr.out];rfl,by have:=Hf.out;(repeat first|exact Fr.refl _ _|assumption|apply Fr.n|apply Fr.d|apply Fr.a|refine Fr.s ?_ (.inr (by simp;try omega)) _)⟩
    ·rw [decide_eq_false h1]
     have Hh1:=Lib.hid h1
     clear h1
     go_wp2_with fail
     refine (Hl2.out _ (by (repeat first|exact Fr.refl _ _|assumption|apply Fr.n|apply Fr.d|apply Fr.a|refine Fr.s ?_ (.inr (by simp;try omega)) _))).mono ?_
     rintro e w6 ⟨rfl,n6,rfl⟩
     rw [HXV.out,HYV.out]
     by_cases h2:Vb<Va
     ·have hr:r=1:=by rw [Hc.out];unfold cmpN;rw [if_neg Hh1.out,if_pos h2]
      rw [decide_eq_true h2]
      have Hr:=Lib.hid hr
      clear hr h2
      go_wp2
      go_ret
      exact⟨by rw [Hr.out];rfl,by have:=Hf.out;(repeat first|exact Fr.refl _ _|assumption|apply Fr.n|apply Fr.d|apply Fr.a|refine Fr.s ?_ (.inr (by simp;try omega)) _)⟩
     ·have hr:r=0:=by rw [Hc.out];unfold cmpN;rw [if_neg Hh1.out,if_neg h2]
      rw [decide_eq_false h2]
      have Hr:=Lib.hid hr
      clear hr h2
      go_wp2
      go_ret
      exact⟨by rw [Hr.out];rfl,by have:=Hf.out;(repeat first|exact Fr.refl _ _|assumption|apply Fr.n|apply Fr.d|apply Fr.a|refine Fr.s ?_ (.inr (by simp;try omega)) _)⟩
   ·have hr:r=1:=HS.out
    have Hr:=Lib.hid hr
    clear hr HS
    go_wp2
    go_ret
    exact⟨by rw [Hr.out];rfl,by have:=Hf.out;(repeat first|exact Fr.refl _ _|assumption|apply Fr.n|apply Fr.d|apply Fr.a|refine Fr.s ?_ (.inr (by simp;try omega)) _)⟩
   ·have hr:r=-1:=HS.out
    have Hr:=Lib.hid hr
    clear hr HS
    go_wp2
    go_ret
    exact⟨by rw [Hr.out];rfl,by have:=Hf.out;(repeat first|exact Fr.refl _ _|assumption|apply Fr.n|apply Fr.d|apply Fr.a|refine Fr.s ?_ (.inr (by simp;try omega)) _)⟩
   ·
    have hc:=HS.out
    simp only [if_true,Bool.false_eq_true,if_false] at hc
    have Hc:=Lib.hid hc
    clear hc HS
    have Hl1:=Lib.hid (fun w1 (hf1:Fr [] w4 w1)=>less_calls (Hy.out.fr hf1) (Hx.out.fr hf1) HYD.out HXD.out HYC.out HXC.out (by omega) (by omega))
    have Hl2:=Lib.hid (fun w1 (hf1:Fr [] w4 w1)=>less_calls (Hx.out.fr hf1) (Hy.out.fr hf1) HXD.out HYD.out HXC.out HYC.out (by omega) (by omega))
    go_wp2_with fail
    refine (Hl1.out _ (by (repeat first|exact Fr.refl _ _|assumption|apply Fr.n|apply Fr.d|apply Fr.a|refine Fr.s ?_ (.inr (by simp;try omega)) _))).mono ?_
    rintro e w5 ⟨rfl,n5,rfl⟩
    rw [HYV.out,HXV.out]
    by_cases h1:Vb<Va
    ·have hr:r=-1:=by rw [Hc.out];unfold cmpN;rw [if_pos h1]
     rw [decide_eq_true h1]
     have Hr:=Lib.hid hr
     clear hr h1
     go_wp2
     go_ret
     exact⟨by rw [Hr.out];rfl,by have:=Hf.out;(repeat first|exact Fr.refl _ _|assumption|apply Fr.n|apply Fr.d|apply Fr.a|refine Fr.s ?_ (.inr (by simp;try omega)) _)⟩
    ·rw [decide_eq_false h1]
     have Hh1:=Lib.hid h1
     clear h1
     go_wp2_with fail
     refine (Hl2.out _ (by (repeat first|exact Fr.refl _ _|assumption|apply Fr.n|apply Fr.d|apply Fr.a|refine Fr.s ?_ (.inr (by simp;try omega)) _))).mono ?_
     rintro e w6 ⟨rfl,n6,rfl⟩
     rw [HYV.out,HXV.out]
     by_cases h2:Va<Vb
     ·have hr:r=1:=by rw [Hc.out];unfold cmpN;rw [if_neg Hh1.out,if_pos h2]
      rw [decide_eq_true h2]
      have Hr:=Lib.hid hr
      clear hr h2
      go_wp2
      go_ret
      exact⟨by rw [Hr.out];rfl,by have:=Hf.out;(repeat first|exact Fr.refl _ _|assumption|apply Fr.n|apply Fr.d|apply Fr.a|refine Fr.s ?_ (.inr (by simp;try omega)) _)⟩
     ·have hr:r=0:=by rw [Hc.out];unfold cmpN;rw [if_neg Hh1.out,if_neg h2]
      rw [decide_eq_false h2]
      have Hr:=Lib.hid hr
      clear hr h2
      go_wp2
      go_ret
      exact⟨by rw [Hr.out];rfl,by have:=Hf.out;(repeat first|exact Fr.refl _ _|assumption|apply Fr.n|apply Fr.d|apply Fr.a|refine Fr.s ?_ (.inr (by simp;try omega)) _)⟩
end Go.Proofs.Ytppmnmheodimoaa
end
section
namespace Go.Proofs.Ytppmnmheodimoaa
open Go Go.RowKit Rg Hp Bn
set_option maxHeartbeats 4000000 in
set_option maxRecDepth 100000 in
theorem RNeg_calls {w:World} {na:Bool} {da:List Nat} {va:Value} (ha:Reads w va da.length 1 (u32s da)) (hDa:Dig 4294967296 da) (hla:da.length≤10000) :
  Calls Try.prog 75 #[.agg #[.bool na,va]] w (BigPost1 w (w.heap.size≤·) (negS na da)):=by
 have hra:=fun w1 (hf:Fr [] w w1)=>RRight_calls (neg:=na) (ha.fr hf) (by omega)
 have hcl:=fun w1 (hf:Fr [] w w1)=>bytes_calls (neg:=na) (ha.fr hf) hDa (by omega)
 obtain⟨_,a,ac,rfl,_⟩:=ha
 obtain⟨V,hV⟩:∃ V,val 4294967296 da=V:=⟨_,rfl⟩
 obtain⟨X,hX⟩:∃ X,dg 256 V=X:=⟨_,rfl⟩
 have hXV:val 256 X=V:=by rw [← hX];exact val_dg (by omega) V
 have hXD:Dig 256 X:=by rw [← hX];exact dg_dig (by omega) V
 have hXl:X.length≤40000:=by
  have h:=dg_len256 (k:=10000) hla (val_lt hDa)
  rw [hV,hX] at h
  omega
 rw [hV,hX] at hcl
 have Hcl:=Lib.hid hcl
 obtain⟨r,hS⟩:∃ r,r=negS na da:=⟨_,rfl⟩
 rw [← hS]
 unfold negS at hS
 rw [hV] at hS
 clear hDa hcl hV hX
 cases hR1:RightB na da with
 | false =>
  rw [hR1] at hra hS
  rw [if_pos rfl] at hS
  subst hS
  have Hra:=Lib.hid hra
  clear hR1 hra
  go_enter Try.func75,Try.ntmps75
  go_wp2_with fail
  refine (Hra.out _ (by (repeat first|exact Fr.refl _ _|assumption|apply Fr.n|apply Fr.d|apply Fr.a|refine Fr.s ?_ (.inr (by simp;try omega)) _))).mono ?_
  rintro e w1 ⟨rfl,hf⟩
  have hc_:=(hf.block (w.heap.size+1) (by first|(simp;done)|(simp;omega)) (by simp)).trans (show _=some (.cells #[.bool false,.slice none 0 0] 114 (0,0)) by (repeat first|rw [if_pos (by omega)]|rw [if_neg (by omega)]|rw [hDR]|rw [hDN]|rw [hAz]|rw [hSz]|rw [hAC]|rw [hSC]|rw [oMS]|rw [uPC]|rw [lSZ]|rw [lSS]|rfl))
  have c0:=hEC hc_ 0
  have c0z:=hEF hc_ 0
  have c1:=hEC hc_ 1
  have c1z:=hEF hc_ 1
  have cl:=lBk hc_
  have Hc:=Lib.hid hc_
  clear hc_
  have Hf:=Lib.hid (Fr.trans0 (by (repeat first|exact Fr.refl _ _|assumption|apply Fr.n|apply Fr.d|apply Fr.a|refine Fr.s ?_ (.inr (by simp;try omega)) _):Fr [] w _) hf)
  clear hf
  go_wp2
  (try simp only [Exit.inBlock,Exit.then])
  refine bodyPost_ret (big_result1 rfl (b:=w.heap.size+1) (x:=.bool false) (y:=.slice none 0 0) rfl ?_) rfl ⟨_,_,⟨Nat.le_refl _,fun g hg=>(by cases hg)⟩,rfl,reads_nil _,?_⟩
  ·have h:=Hc.out
   (repeat first|rw [if_pos (by omega)]|rw [if_neg (by omega)]|rw [hDR]|rw [hDN]|rw [hAz]|rw [hSz]|rw [hAC]|rw [hSC]|rw [oMS]|rw [uPC]|rw [lSZ]|rw [lSS]|rfl)
   rw [h]
   (repeat first|rw [if_pos (by omega)]|rw [if_neg (by omega)]|rw [hDR]|rw [hDN]|rw [hAz]|rw [hSz]|rw [hAC]|rw [hSC]|rw [oMS]|rw [uPC]|rw [lSZ]|rw [lSS]|rfl)
  ·exact (Hf.out.setCell (.inr (by simp;try omega)) _).setCell (.inr (by simp;try omega)) _
 | true =>
  rw [hR1] at hra hS
  rw [if_neg (by decide)] at hS
  rw [← hXV] at hS
  have Hmd:=Lib.hid (fun (w1:World) (a:Option Addr) (c:Nat) (hv:Reads w1 (.slice a X.length c) X.length 1 (i64s X)) (hc:X.length≤c)=>hS▸big_calls (neg:=!na) hv hXD (by omega) hc)
  have Hra:=Lib.hid hra
  clear hR1 hra hS hXV hXD
  go_enter Try.func75,Try.ntmps75
  go_wp2_with fail
  refine (Hra.out _ (by (repeat first|exact Fr.refl _ _|assumption|apply Fr.n|apply Fr.d|apply Fr.a|refine Fr.s ?_ (.inr (by simp;try omega)) _))).mono ?_
  rintro e w1 ⟨rfl,hf⟩
  have ha1:=(hf.block w.heap.size (by simp;omega) (by simp)).trans (show _=some (.cells #[.bool na,.slice a da.length ac] 114 (0,0)) by (repeat first|rw [if_pos (by omega)]|rw [if_neg (by omega)]|rw [hDR]|rw [hDN]|rw [hAz]|rw [hSz]|rw [hAC]|rw [hSC]|rw [oMS]|rw [uPC]|rw [lSZ]|rw [lSS]|rfl))
  have a0:=hEC ha1 0
  have a1:=hEC ha1 1
  have al:=lBk ha1
  have Ha1:=Lib.hid ha1
  have Hc1:=Lib.hid ((hf.block (w.heap.size+1) (by simp) (by simp)).trans (show _=some (.cells #[.bool false,.slice none 0 0] 114 (0,0)) by (repeat first|rw [if_pos (by omega)]|rw [if_neg (by omega)]|rw [hDR]|rw [hDN]|rw [hAz]|rw [hSz]|rw [hAC]|rw [hSC]|rw [oMS]|rw [uPC]|rw [lSZ]|rw [lSS]|rfl)))
  have Hf1:=Lib.hid (Fr.trans0 (by (repeat first|exact Fr.refl _ _|assumption|apply Fr.n|apply Fr.d|apply Fr.a|refine Fr.s ?_ (.inr (by simp;try omega)) _):Fr [] w _) hf)
  clear hf ha1
  go_wp2
  have n10:=World.new_ne w1 _ a0
  have n11:=World.new_ne w1 _ a1
  go_region_held3 (fun w'=>w'.cell? ⟨w.heap.size,0,none⟩=some (.bool na)∧w'.cell? ⟨w.heap.size,1,none⟩=some (.slice a da.length ac)) (first|go_keep|exact⟨k20,k21⟩|exact⟨k30,k31⟩)
   (first|(go_at_call 88;refine (Hcl.out _ ?_).mono ?_;(· refine Hf1.out.trans0 ?_;(repeat first|exact Fr.refl _ _|assumption|apply Fr.n|apply Fr.d|apply Fr.a|refine Fr.s ?_ (.inl (by simp)) _));rintro e w2 ⟨pa,pc,ho,rfl,hr2,hf0⟩;have h12:Fr [] w1 w2:=Fr.trans0 (by (repeat first|exact Fr.refl _ _|assumption|apply Fr.n|apply Fr.d|apply Fr.a|refine Fr.s ?_ (.inl (by simp)) _)) hf0;have k20:=(h12.cell (p:=⟨w.heap.size,0,none⟩) al (by simp)).trans a0;have k21:=(h12.cell (p:=⟨w.heap.size,1,none⟩) al (by simp)).trans a1;have n20:=World.new_ne w2 _ k20;have n21:=World.new_ne w2 _ k21;obtain⟨c2,z2⟩:=frcell hf0;(try (have s2:w1.heap.size<w2.heap.size:=by have h:=hf0.size;simp at h;omega)))|(go_at_call 89;refine (Hmd.out _ _ _ (hr2.fr ?_) ho.1).mono ?_;(· (repeat first|exact Fr.refl _ _|assumption|apply Fr.n|apply Fr.d|apply Fr.a|refine Fr.s ?_ (.inl (by simp)) _));rintro e w3 ⟨ra,rc,hlo,rfl,hr,hf⟩;have h13:Fr [] w1 w3:=Fr.trans0 (Fr.trans0 h12 (by (repeat first|exact Fr.refl _ _|assumption|apply Fr.n|apply Fr.d|apply Fr.a|refine Fr.s ?_ (.inl (by simp)) _):Fr [] w2 _)) hf;have k30:=(h13.cell (p:=⟨w.heap.size,0,none⟩) al (by simp)).trans a0;have k31:=(h13.cell (p:=⟨w.heap.size,1,none⟩) al (by simp)).trans a1;have n30:=World.new_ne w3 _ k30;have n31:=World.new_ne w3 _ k31;obtain⟨c3,z3⟩:=frcell hf;(try (have s3:w2.heap.size<w3.heap.size:=by have h:=hf.size;simp at h;omega));(try (have s4:w1.heap.size<w3.heap.size:=by have h:=hf.size;simp at h;omega))))
  all_goals
   have hgo:=hlo.2
   have Hlo1:=Lib.hid hlo.1
   have hc4:=(h13.block _ (lBk Hc1.out) (by simp)).trans Hc1.out
   have cl0:w.heap.size+1<w1.heap.size:=lBk Hc1.out
   have hs12:=h12.size
   have hs13:=h13.size
   have hs23:=hf.size
   clear n10 n11 n20 n21 n30 n31 k20 k21 k30 k31 a0 a1
   have p0:=hEC Hc1.out 0
   have p1:=hEC Hc1.out 1
   have pz0:=hEF Hc1.out 0
   have pz1:=hEF Hc1.out 1
   have q0:=hEC hc4 0
   have q1:=hEC hc4 1
   have z0:=hEF hc4 0
   have z1:=hEF hc4 1
   have cl:=lBk hc4
   have Hc:=Lib.hid hc4
   have Hgo:=Lib.hid hgo
   have Hr:=Lib.hid hr
   have Hf:=Lib.hid (Hf1.out.trans0 h13)
   clear hlo hr hf h12 h13 hf0 hc4 hgo ho hr2
   obtain⟨r1,r2,r3⟩:=r
   go_wp2
   (try simp only [Exit.inBlock,Exit.then])
   refine bodyPost_ret (big_result1 rfl (b:=w.heap.size+1) (x:=.bool r1) (y:=.slice ra r2.length rc) rfl ?_) rfl ⟨_,_,⟨Hlo1.out,fun g hg=>(by have h:=Hgo.out g hg;(try simp at h);omega)⟩,rfl,?_,?_⟩
   ·have h:=Hc.out
    (repeat first|rw [if_pos (by omega)]|rw [if_neg (by omega)]|rw [hDR]|rw [hDN]|rw [hAz]|rw [hSz]|rw [hAC]|rw [hSC]|rw [oMS]|rw [uPC]|rw [lSZ]|rw [lSS]|rfl)
    first|exact h|(rw [h];(repeat first|rw [if_pos (by omega)]|rw [if_neg (by omega)]|rw [hDR]|rw [hDN]|rw [hAz]|rw [hSz]|rw [hAC]|rw [hSC]|rw [oMS]|rw [uPC]|rw [lSZ]|rw [lSS]|rfl))
   ·refine Hr.out.keep fun x hx hl=>?_
    have h1:=Hgo.out x hx
    (try simp at h1);(try simp at hs23)
    repeat (first|rw [sCE _ _ _ (by simp;omega)]|rw [hAE _ _ _ (by simp;omega)])
   ·repeat (first|exact Hf.out|refine Fr.alloc ?_ _|refine Fr.setCell ?_ (.inr (by first|(simp;done)|(simp;omega))) _)
end Go.Proofs.Ytppmnmheodimoaa
end
section
namespace Go.Proofs.Ytppmnmheodimoaa
open Go Go.RowKit Rg Hp Bn
set_option maxHeartbeats 4000000 in
set_option maxRecDepth 100000 in
theorem RFrom_calls {w:World} {n:Int} (h1:-9223372036854775808≤n) (h2:n<9223372036854775808) :
  Calls Try.prog 74 #[.int .i64 n] w (BigPost1 w (w.heap.size≤·) (fromS n)):=by
 unfold fromS
 obtain⟨v,hv⟩:∃ v,v=n.natAbs:=⟨_,rfl⟩
 rw [← hv]
 have hv64':v<256 ^ 8:=by omega
 have HV64:=Lib.hid hv64'
 clear hv64'
 by_cases hn:n<0
 ·have hd:decide (n<0)=true:=by simpa using hn
  rw [hd]
  obtain⟨r,hrr⟩:∃ r,mkN true v=r:=⟨_,rfl⟩
  rw [hrr]
  have HRR:=Lib.hid hrr
  clear hrr
  have Ev:IntKind.u64.wrap (-IntKind.u64.wrap n)=(v:Nat):=by rw [wrap_u64,wrap_u64];omega
  go_enter Try.func74,Try.ntmps74
  go_wp2_with fail
  go_loopw [3,4] (fun x3 x4 wl=>∃ (u:Nat) (L:List Nat),x3=.int .u64 u∧Dig 256 L∧L.length≤8∧u<256 ^ (8 - L.length)∧val 256 L+256 ^ L.length*u=v∧wl.ownsRow (w.heap.size+1) 3 1 x4 L.length (i64s L)∧Fr [] w wl ∧
   wl.heap[w.heap.size]?=some (.cells #[.bool false,.slice none 0 0] 114 (0,0))) (fun x3 _ _=>(intOf x3).toNat)
  case atStart=>exact⟨v,[],by first|rfl|(simp;omega)|(go_num),Dig.nil,by simp,HV64.out,by simp [val],World.ownsRow_nil _ _ _ _,by (repeat first|exact Fr.refl _ _|assumption|apply Fr.n|apply Fr.d|apply Fr.a|refine Fr.s ?_ (.inr (by simp;try omega)) _),by (repeat first|rw [if_pos (by omega)]|rw [if_neg (by omega)]|rw [hDR]|rw [hDN]|rw [hAz]|rw [hSz]|rw [hAC]|rw [hSC]|rw [oMS]|rw [uPC]|rw [lSZ]|rw [lSS]|rfl)⟩
  case round =>
   obtain⟨u,L,rfl,hD,hL,hu,hval,ho,hf,hb⟩:=hrel
   obtain⟨oa,oc,rfl,hoa,hon⟩:=oFM ho
   have HD:=Lib.hid hD
   have Hval:=Lib.hid hval
   have Ho:=Lib.hid ho
   have Hf:=Lib.hid hf
   have Hb:=Lib.hid hb
   have Hu:=Lib.hid hu
   have hub:u<18446744073709551616:=Nat.lt_of_lt_of_le hu (Nat.pow_le_pow_right (show 0<256 by omega) (show 8 - L.length≤8 by omega))
   clear hoa hon hD hval ho hf hb hu
   rcases Nat.eq_zero_or_pos u with h0|hp
   ·subst h0
    have hv:=Hval.out
    rw [Nat.mul_zero,Nat.add_zero] at hv
    have hbg:=big_calls (neg:=true) (Reads.of_owns Ho.out) HD.out (by omega) (owns_cap Ho.out)
    rw [hv,HRR.out] at hbg
    have Hbg:=Lib.hid hbg
    clear hv hbg
    go_wp2_with fail
    refine Hbg.out.mono ?_
    rintro e w2 ⟨ra,rc,hlo,rfl,hr,hf⟩
    have Hc:=Hb
    (try clear c0)
    (try clear c1)
    (try clear c0z)
    (try clear c1z)
    (try clear cl)
    have hc_:=(hf.block _ (lBk Hc.out) (by simp)).trans Hc.out
    clear Hc
    have c0:=hEC hc_ 0
    have c0z:=hEF hc_ 0
    have c1:=hEC hc_ 1
    have c1z:=hEF hc_ 1
    have cl:=lBk hc_
    have Hc:=Lib.hid hc_
    clear hc_
    have Hlo:=Lib.hid hlo
    have Hr:=Lib.hid hr
    have Hs:=Lib.hid Hf.out.size
    have Hf:=Lib.hid (Hf.out.trans0 hf)
    clear hlo hr hf
    obtain⟨r1,r2,r3⟩:=r
    go_wp2
    (try simp only [Exit.inBlock,Exit.then])
    refine bodyPost_ret (big_result1 rfl (b:=w.heap.size) (x:=.bool r1) (y:=.slice ra r2.length rc) rfl ?_) rfl ⟨_,_,⟨Hlo.out.1,fun g hg=>(by have h:=Hlo.out.2 g hg;have:=Hs.out;omega)⟩,rfl,?_,?_⟩
    ·have h:=Hc.out
     (repeat first|rw [if_pos (by omega)]|rw [if_neg (by omega)]|rw [hDR]|rw [hDN]|rw [hAz]|rw [hSz]|rw [hAC]|rw [hSC]|rw [oMS]|rw [uPC]|rw [lSZ]|rw [lSS]|rfl)
     first|exact h|(rw [h];(repeat first|rw [if_pos (by omega)]|rw [if_neg (by omega)]|rw [hDR]|rw [hDN]|rw [hAz]|rw [hSz]|rw [hAC]|rw [hSC]|rw [oMS]|rw [uPC]|rw [lSZ]|rw [lSS]|rfl))
    ·refine Hr.out.keep fun x hx hl=>?_
     have h1:=Hlo.out.2 x hx
     have:=lBk Hb.out
     rw [hAE _ _ _ (by simp only [hSz];exact hl),sCE _ _ _ (by simp;omega),sCE _ _ _ (by simp;omega)]
    ·repeat (first|exact Hf.out|refine Fr.alloc ?_ _|refine Fr.setCell ?_ (.inr (by first|(simp;done)|(simp;omega))) _)
   ·obtain⟨d,hd⟩:∃ d,u % 256=d:=⟨_,rfl⟩
    have Ed:((u:Int) % 256)=(d:Nat):=by omega
    have hd256:d<256:=by omega
    have Hd:=Lib.hid hd
    clear hd
    have hL8:L.length<8:=by
     rcases Nat.lt_or_ge L.length 8 with h|h
     ·exact h
     ·have h2:=Hu.out
      rw [show 8 - L.length=0 by omega] at h2
      omega
    have Hf1:=Lib.hid (show Fr [] w _ from Hf.out)
    have hbl:=lBk Hb.out
    go_wp2_with (at_builtin;refine append_i64 (n:=L.length) (base:=(w.heap.size+1)) (xs:=(i64s L)) (y:=(d:Int)) rfl rfl rfl ?e1 rfl ?e2 ?e3 ?e4 ?_)
    case e1=>exact oOB Ho.out fun y hy=>hAE _ _ _ (oLT Ho.out hy)
    case e2=>first|(first|(rw [hAC,if_pos rfl];done)|exact (Array.getElem?_eq_some_iff.1 ((hAC _ _ _).trans (if_pos rfl))).2|(simp only [hDR,hDN];rw [hAC,if_pos rfl];done))|(repeat first|rw [if_pos (by omega)]|rw [if_neg (by omega)]|rw [hDR]|rw [hDN]|rw [hAz]|rw [hSz]|rw [hAC]|rw [hSC]|rw [oMS]|rw [uPC]|rw [lSZ]|rw [lSS]|rfl)
    case e3=>omega
    case e4=>have:=Hf1.out.size;have:=lBk Hb.out;(first|omega|(simp only [hDR,hDN,hAz];omega)|(simp;omega))
    intro g2 cap w9 hown1 hW1 hF1 hloc1 hg1
    rw [i64s_snoc] at hown1
    have Hb9:=Lib.hid ((hW1 w.heap.size (by have:=lBk Hb.out;(first|omega|(simp only [hDR,hDN,hAz];omega)|(simp;omega))) (fun e=>by have h:=owns_ge Ho.out e;omega)).trans ((hAE _ _ _ (lBk Hb.out)).trans Hb.out))
    have Hown1:=Lib.hid hown1
    have Hf9:=Lib.hid (fr_append Hf1.out (owns_base Ho.out (Nat.le_succ _)) hF1)
    clear hown1 hW1 hF1 hloc1
    go_wp2
    go_roundw
    case rel =>
     refine⟨u / 256,L++[d],by go_num,HD.out.append (fun z hz=>by rw [List.mem_singleton] at hz;omega),by rw [List.length_append];simp;omega,?_,?_,by rw [List.length_append];exact Hown1.out,Hf9.out,Hb9.out⟩
     ·have h:=Hu.out
      rw [List.length_append,List.length_singleton,Nat.div_lt_iff_lt_mul (by omega),← Nat.pow_succ,show (8 - (L.length+1)).succ=8 - L.length by omega]
      exact h
     ·rw [val_snoc,List.length_append,List.length_singleton,Nat.pow_succ,← Hd.out,Nat.add_assoc,low_high]
      exact Hval.out
    case measure=>simp [intOf];omega
 ·have hd:decide (n<0)=false:=by simpa using hn
  rw [hd]
  obtain⟨r,hrr⟩:∃ r,mkN false v=r:=⟨_,rfl⟩
  rw [hrr]
  have HRR:=Lib.hid hrr
  clear hrr
  obtain rfl:n=(v:Int):=by omega
  have Ev2:IntKind.u64.wrap ((v:Nat):Int)=(v:Nat):=by rw [wrap_u64];omega
  have hd2:decide ((v:Int)<0)=false:=hd
  clear hd hn hv h1 h2
  go_enter Try.func74,Try.ntmps74
  go_wp2_with fail
  go_loopw [3,4] (fun x3 x4 wl=>∃ (u:Nat) (L:List Nat),x3=.int .u64 u∧Dig 256 L∧L.length≤8∧u<256 ^ (8 - L.length)∧val 256 L+256 ^ L.length*u=v∧wl.ownsRow (w.heap.size+1) 3 1 x4 L.length (i64s L)∧Fr [] w wl ∧
   wl.heap[w.heap.size]?=some (.cells #[.bool false,.slice none 0 0] 114 (0,0))) (fun x3 _ _=>(intOf x3).toNat)
  case atStart=>exact⟨v,[],by first|rfl|(simp;omega)|(go_num),Dig.nil,by simp,HV64.out,by simp [val],World.ownsRow_nil _ _ _ _,by (repeat first|exact Fr.refl _ _|assumption|apply Fr.n|apply Fr.d|apply Fr.a|refine Fr.s ?_ (.inr (by simp;try omega)) _),by (repeat first|rw [if_pos (by omega)]|rw [if_neg (by omega)]|rw [hDR]|rw [hDN]|rw [hAz]|rw [hSz]|rw [hAC]|rw [hSC]|rw [oMS]|rw [uPC]|rw [lSZ]|rw [lSS]|rfl)⟩
  case round =>
   obtain⟨u,L,rfl,hD,hL,hu,hval,ho,hf,hb⟩:=hrel
   obtain⟨oa,oc,rfl,hoa,hon⟩:=oFM ho
   have HD:=Lib.hid hD
   have Hval:=Lib.hid hval
   have Ho:=Lib.hid ho
   have Hf:=Lib.hid hf
   have Hb:=Lib.hid hb
   have Hu:=Lib.hid hu
   have hub:u<18446744073709551616:=Nat.lt_of_lt_of_le hu (Nat.pow_le_pow_right (show 0<256 by omega) (show 8 - L.length≤8 by omega))
   clear hoa hon hD hval ho hf hb hu
   rcases Nat.eq_zero_or_pos u with h0|hp
   ·subst h0
    have hv:=Hval.out
    rw [Nat.mul_zero,Nat.add_zero] at hv
    have hbg:=big_calls (neg:=false) (Reads.of_owns Ho.out) HD.out (by omega) (owns_cap Ho.out)
    rw [hv,HRR.out] at hbg
    have Hbg:=Lib.hid hbg
    clear hv hbg
    go_wp2_with fail
    refine Hbg.out.mono ?_
    rintro e w2 ⟨ra,rc,hlo,rfl,hr,hf⟩
    have Hc:=Hb
    (try clear c0)
    (try clear c1)
    (try clear c0z)
    (try clear c1z)
    (try clear cl)
    have hc_:=(hf.block _ (lBk Hc.out) (by simp)).trans Hc.out
    clear Hc
    have c0:=hEC hc_ 0
    have c0z:=hEF hc_ 0
    have c1:=hEC hc_ 1
    have c1z:=hEF hc_ 1
    have cl:=lBk hc_
    have Hc:=Lib.hid hc_
    clear hc_
    have Hlo:=Lib.hid hlo
    have Hr:=Lib.hid hr
    have Hs:=Lib.hid Hf.out.size
    have Hf:=Lib.hid (Hf.out.trans0 hf)
    clear hlo hr hf
    obtain⟨r1,r2,r3⟩:=r
    go_wp2
    (try simp only [Exit.inBlock,Exit.then])
    refine bodyPost_ret (big_result1 rfl (b:=w.heap.size) (x:=.bool r1) (y:=.slice ra r2.length rc) rfl ?_) rfl ⟨_,_,⟨Hlo.out.1,fun g hg=>(by have h:=Hlo.out.2 g hg;have:=Hs.out;omega)⟩,rfl,?_,?_⟩
    ·have h:=Hc.out
     (repeat first|rw [if_pos (by omega)]|rw [if_neg (by omega)]|rw [hDR]|rw [hDN]|rw [hAz]|rw [hSz]|rw [hAC]|rw [hSC]|rw [oMS]|rw [uPC]|rw [lSZ]|rw [lSS]|rfl)
     first|exact h|(rw [h];(repeat first|rw [if_pos (by omega)]|rw [if_neg (by omega)]|rw [hDR]|rw [hDN]|rw [hAz]|rw [hSz]|rw [hAC]|rw [hSC]|rw [oMS]|rw [uPC]|rw [lSZ]|rw [lSS]|rfl))
    ·refine Hr.out.keep fun x hx hl=>?_
     have h1:=Hlo.out.2 x hx
     have:=lBk Hb.out
     rw [hAE _ _ _ (by simp only [hSz];exact hl),sCE _ _ _ (by simp;omega),sCE _ _ _ (by simp;omega)]
    ·repeat (first|exact Hf.out|refine Fr.alloc ?_ _|refine Fr.setCell ?_ (.inr (by first|(simp;done)|(simp;omega))) _)
   ·obtain⟨d,hd⟩:∃ d,u % 256=d:=⟨_,rfl⟩
    have Ed:((u:Int) % 256)=(d:Nat):=by omega
    have hd256:d<256:=by omega
    have Hd:=Lib.hid hd
    clear hd
    have hL8:L.length<8:=by
     rcases Nat.lt_or_ge L.length 8 with h|h
     ·exact h
     ·have h2:=Hu.out
      rw [show 8 - L.length=0 by omega] at h2
      omega
    have Hf1:=Lib.hid (show Fr [] w _ from Hf.out)
    have hbl:=lBk Hb.out
    go_wp2_with (at_builtin;refine append_i64 (n:=L.length) (base:=(w.heap.size+1)) (xs:=(i64s L)) (y:=(d:Int)) rfl rfl rfl ?e1 rfl ?e2 ?e3 ?e4 ?_)
    case e1=>exact oOB Ho.out fun y hy=>hAE _ _ _ (oLT Ho.out hy)
    case e2=>first|(first|(rw [hAC,if_pos rfl];done)|exact (Array.getElem?_eq_some_iff.1 ((hAC _ _ _).trans (if_pos rfl))).2|(simp only [hDR,hDN];rw [hAC,if_pos rfl];done))|(repeat first|rw [if_pos (by omega)]|rw [if_neg (by omega)]|rw [hDR]|rw [hDN]|rw [hAz]|rw [hSz]|rw [hAC]|rw [hSC]|rw [oMS]|rw [uPC]|rw [lSZ]|rw [lSS]|rfl)
    case e3=>omega
    case e4=>have:=Hf1.out.size;have:=lBk Hb.out;(first|omega|(simp only [hDR,hDN,hAz];omega)|(simp;omega))
    intro g2 cap w9 hown1 hW1 hF1 hloc1 hg1
    rw [i64s_snoc] at hown1
    have Hb9:=Lib.hid ((hW1 w.heap.size (by have:=lBk Hb.out;(first|omega|(simp only [hDR,hDN,hAz];omega)|(simp;omega))) (fun e=>by have h:=owns_ge Ho.out e;omega)).trans ((hAE _ _ _ (lBk Hb.out)).trans Hb.out))
    have Hown1:=Lib.hid hown1
    have Hf9:=Lib.hid (fr_append Hf1.out (owns_base Ho.out (Nat.le_succ _)) hF1)
    clear hown1 hW1 hF1 hloc1
    go_wp2
    go_roundw
    case rel =>
     refine⟨u / 256,L++[d],by go_num,HD.out.append (fun z hz=>by rw [List.mem_singleton] at hz;omega),by rw [List.length_append];simp;omega,?_,?_,by rw [List.length_append];exact Hown1.out,Hf9.out,Hb9.out⟩
     ·have h:=Hu.out
      rw [List.length_append,List.length_singleton,Nat.div_lt_iff_lt_mul (by omega),← Nat.pow_succ,show (8 - (L.length+1)).succ=8 - L.length by omega]
      exact h
     ·rw [val_snoc,List.length_append,List.length_singleton,Nat.pow_succ,← Hd.out,Nat.add_assoc,low_high]
      exact Hval.out
    case measure=>simp [intOf];omega
end Go.Proofs.Ytppmnmheodimoaa
end
section
namespace Go.Proofs.Ytppmnmheodimoaa
open Go Go.RowKit Rg Hp Bn
set_option maxHeartbeats 4000000 in
theorem bit_calls {w:World} {ds:List Nat} {v:Value} (hv:Reads w v ds.length 1 (i64s ds)) (hD:Dig 256 ds) (hl:ds.length≤100000) (k:Nat) (hk:k≤9223372036854775807) :
  Calls Try.prog 104 #[v,.int .i64 k] w fun e w'=>e=.returned (.int .i64 (val 256 ds / 2 ^ k % 2:Nat))∧w=w':=by
 have hdg:=rdigit_calls hv (by omega) (k / 8)
 have hx:ds.getD (k / 8) 0<256:=hD.getD (by omega) _
 have hb:=bit_val hD k
 obtain⟨_,a,c,rfl,_⟩:=hv
 obtain⟨j,hj⟩:∃ j,k / 8=j:=⟨_,rfl⟩
 obtain⟨m,hm⟩:∃ m,k % 8=m:=⟨_,rfl⟩
 have Ej:((k:Int) / 8)=(j:Nat):=by omega
 have Em:((k:Int) % 8)=(m:Nat):=by omega
 have hm8:m<8:=by omega
 rw [← hb]
 rw [hj] at hx hdg
 rw [hj,hm]
 clear hb hj hm
 have Hdg:=Lib.hid hdg
 clear hdg
 generalize ds.getD j 0=x at *
 go_enter Try.func104,Try.ntmps104
 go_wp2_with fail
 refine Hdg.out.mono ?_
 rintro e w1 ⟨rfl,rfl⟩
 go_wp2_with fail
 go_loop [5,6] (fun x5 x6=>∃ i:Nat,x5=.int .i64 (x / 2 ^ i:Nat)∧x6=.int .i64 i∧i≤m) (fun _ x6=>m - (intOf x6).toNat)
 case atStart=>exact⟨0,by simp,rfl,by omega⟩
 case round =>
  obtain⟨i,rfl,rfl,hi⟩:=hrel
  by_cases him:i<m
  ·have hle:x / 2 ^ i≤x:=Nat.div_le_self _ _
   have e2:((x / 2 ^ (i+1):Nat):Int)=((x / 2 ^ i:Nat):Int) / 2:=by rw [Nat.pow_succ,← Nat.div_div_eq_div_mul];omega
   have E2:=Lib.hid e2
   clear e2
   generalize x / 2 ^ i=y at *
   go_wp2
   go_round
   case rel=>exact⟨i+1,by rw [E2.out],by go_num,by omega⟩
   case measure=>simp [intOf];omega
  ·obtain rfl:i=m:=by omega
   have hle:x / 2 ^ i≤x:=Nat.div_le_self _ _
   obtain⟨y,hy⟩:∃ y,x / 2 ^ i=y:=⟨_,rfl⟩
   have E:=Lib.hid (show ((x:Int) / 2 ^ i % 2)=(y:Int) % 2 by rw [← hy];simp)
   rw [hy] at hle ⊢
   clear hy
   go_wp2
   go_ret
   exact⟨by rw [E.out];rfl,rfl⟩
set_option maxHeartbeats 4000000 in
set_option maxRecDepth 100000 in
theorem ofBits_calls {w:World} {ds:List Nat} {v:Value} (hv:Reads w v ds.length 1 (i64s ds)) (hD:Dig 2 ds) (hl:ds.length≤100000) :
  Calls Try.prog 105 #[v] w (ListPost w (w.heap.size≤·) (dg 256 (val 2 ds))):=by
 have hdg:=fun w1 (hf:Fr [] w w1) i=>rdigit_calls (hv.fr hf) (by omega) i
 have Hdg:=Lib.hid hdg
 have HD:=Lib.hid hD
 obtain⟨_,a,c,rfl,_⟩:=hv
 obtain⟨n,hn⟩:∃ n,ds.length=n:=⟨_,rfl⟩
 have Hn:=Lib.hid hn
 rw [hn] at hl Hdg ⊢
 clear hdg hD hn
 go_enter Try.func105,Try.ntmps105
 go_wp2_with fail
 go_loopw [3,4] (fun x3 x4 wl=>∃ (j:Nat) (L:List Nat),x4=.int .i64 (8*(j:Int))∧8*j<n+8∧Dig 256 L∧L.length=j∧val 256 L=val 2 (ds.take (8*j))∧wl.ownsRow w.heap.size 3 1 x3 L.length (i64s L)∧Fr [] w wl) (fun _ x4 _=>n+8 - (intOf x4).toNat)
 case atStart=>exact⟨0,[],rfl,by omega,Dig.nil,rfl,rfl,World.ownsRow_nil _ _ _ _,Fr.refl _ _⟩
 case round =>
  obtain⟨j,L,rfl,hj,hDL,hL,hv,ho,hf⟩:=hrel
  obtain⟨oa,oc,rfl,hoa,hon⟩:=oFM ho
  have HDL:=Lib.hid hDL
  have HL:=Lib.hid hL
  have Hv:=Lib.hid hv
  have Ho:=Lib.hid ho
  have Hf:=Lib.hid hf
  clear hoa hon hDL hL hv ho hf
  by_cases hjn:8*j<n
  ·have hjd:decide ((8:Int)*j<n)=true:=by rw [decide_eq_true_eq];omega
   go_wp2_with fail
   go_loopw [5,6] (fun x5 x6 wl=>∃ (k b:Nat) (z:Int),x5=.int .i64 b∧x6=.int .i64 z∧z=(k:Int) - 1∧k≤8∧b<2 ^ (8 - k)∧b=val 2 ((ds.drop (8*j+k)).take (8 - k))∧wl=wr) (fun _ x6 _=>(intOf x6+1).toNat)
   case atStart=>exact⟨8,0,7,rfl,rfl,rfl,by omega,by omega,by simp [val],rfl⟩
   case round =>
    obtain⟨k,b,z,rfl,rfl,hz,hk,hb2,hbv,rfl⟩:=hrel
    have Hb2:=Lib.hid hb2
    have Hbv:=Lib.hid hbv
    have hb256:b<256:=Nat.lt_of_lt_of_le hb2 (Nat.pow_le_pow_right (show 0<2 by omega) (show 8 - k≤8 by omega))
    clear hb2 hbv
    cases k with
    | zero =>
     obtain rfl:z=-1:=by omega
     have hbv:=Hbv.out
     rw [Nat.add_zero,Nat.sub_zero] at hbv
     have hv9:val 256 (L++[b])=val 2 (ds.take (8*(j+1))):=by
      rw [val_snoc,Hv.out,HL.out,show 8*(j+1)=8*j+8 by omega,val_takeN 2 8 ds (8*j) (by have:=Hn.out;omega),show 2 ^ (8*j)=256 ^ j by rw [Nat.pow_mul],← hbv]
     have Hv9:=Lib.hid hv9
     clear hz hbv hv9
     go_wp2_with (at_builtin;refine append_i64 (n:=L.length) (base:=w.heap.size) (xs:=(i64s L)) (y:=(b:Int)) rfl rfl rfl ?e1 rfl ?e2 ?e3 ?e4 ?_)
     case e1=>exact oOB Ho.out fun y hy=>hAE _ _ _ (oLT Ho.out hy)
     case e2=>first|(first|(rw [hAC,if_pos rfl];done)|exact (Array.getElem?_eq_some_iff.1 ((hAC _ _ _).trans (if_pos rfl))).2|(simp only [hDR,hDN];rw [hAC,if_pos rfl];done))|(repeat first|rw [if_pos (by omega)]|rw [if_neg (by omega)]|rw [hDR]|rw [hDN]|rw [hAz]|rw [hSz]|rw [hAC]|rw [hSC]|rw [oMS]|rw [uPC]|rw [lSZ]|rw [lSS]|rfl)
     case e3=>(have:=HL.out;omega)
     case e4=>have:=Hf.out.size;(first|omega|(simp only [hDR,hDN,hAz];omega)|(simp;omega))
     intro g2 cap w9 hown1 hW1 hF1 hloc1 hg1
     rw [i64s_snoc] at hown1
     have Hown1:=Lib.hid hown1
     have Hf9:=Lib.hid (fr_append Hf.out Ho.out hF1)
     clear hown1 hW1 hF1 hloc1
     go_wp2
     go_roundw
     case rel=>exact⟨j+1,L++[b],by go_num,by omega,HDL.out.append (fun z hz=>by rw [List.mem_singleton] at hz;omega),by rw [List.length_append,HL.out];rfl,Hv9.out,by rw [List.length_append];exact Hown1.out,Hf9.out⟩
     case measure=>simp [intOf];omega
    | succ k =>
     obtain rfl:z=(k:Int):=by omega
     have hx:ds.getD (8*j+k) 0<2:=HD.out.getD (by omega) _
     have hq:=val_chunk 2 8 ds (8*j) k (by omega)
     rw [← Hbv.out] at hq
     have hp2:ds.getD (8*j+k) 0+2*b<2 ^ (8 - k):=by
      have h:=Hb2.out
      rw [show 8 - k=(8 - (k+1))+1 by omega,Nat.pow_succ]
      omega
     have Hq:=Lib.hid hq
     have Hp2:=Lib.hid hp2
     have Hdg2:=Lib.hid (fun w1 hf=>Hdg.out w1 hf (8*j+k))
     have Ei:((8:Int)*j+k)=((8*j+k:Nat):Int):=by omega
     clear hz hq hp2
     generalize ds.getD (8*j+k) 0=x at *
     obtain⟨i,hi⟩:∃ i,8*j+k=i:=⟨_,rfl⟩
     rw [hi] at Hdg2 Ei
     go_wp2_with fail
     refine (Hdg2.out _ Hf.out).mono ?_
     rintro e w3 ⟨rfl,rfl⟩
     clear hi
     go_wp2
     go_roundw
     case rel=>exact⟨k,x+2*b,(k:Int) - 1,by go_num,by go_num,rfl,by omega,Hp2.out,Hq.out.symm,trivial⟩
     case measure=>simp [intOf]
  ·have hjd:decide ((8:Int)*j<n)=false:=by rw [decide_eq_false_iff_not];omega
   have hv:=Hv.out
   rw [List.take_of_length_le (by have:=Hn.out;omega)] at hv
   have ht:=trim_calls (Reads.of_owns Ho.out) HDL.out (by have:=HL.out;omega) (owns_cap Ho.out) (A:=fun g=>w.heap.size≤g) (fun g hg=>owns_ge Ho.out hg)
   rw [hv] at ht
   have Ht:=Lib.hid ht
   clear ht hv
   go_wp2_with fail
   refine Ht.out.mono ?_
   rintro e w4 ⟨ra,rc,hlo,rfl,hr,hf⟩
   have Hf5:=Lib.hid (Hf.out.trans0 hf)
   have Hr:=Lib.hid hr
   have Hlo:=Lib.hid hlo
   clear hf hr hlo
   go_wp2
   go_ret
   exact⟨ra,rc,Hlo.out,rfl,Hr.out,Hf5.out⟩
end Go.Proofs.Ytppmnmheodimoaa
end
