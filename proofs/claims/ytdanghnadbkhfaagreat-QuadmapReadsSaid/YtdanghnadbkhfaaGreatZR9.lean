/- Own texts of this claim, part 10: no condition. -/
import Derived.Test.YtdanghnadbkhfaaGreatZR8
import Derived.Test.YtdanghnadbkhfaaGreatZR6
set_option linter.unusedVariables false
set_option linter.unusedSimpArgs false
section
namespace Go.Proofs.YtdanghnadbkhfaaGreat
open Go Go.RowKit Rg Hp Bn
set_option maxHeartbeats 8000000 in
set_option maxRecDepth 100000 in
theorem Shift_calls {w:World} {neg:Bool} {ds:List Nat} {k:Int} {a:Option Addr} {c:Nat} (hv:Reads w (.slice a ds.length c) ds.length 1 (u32s ds)) (hD:Dig 4294967296 ds) (hl:ds.length≤10000) (hc:ds.length≤c) (hk1:-9223372036854775808≤k) (hk2:k<9223372036854775808) :
  Calls Tryz.prog 85 #[.agg #[.bool neg,.slice a ds.length c],.int .i64 k] w (BigPost w (w.heap.size≤·) (shiftS neg ds k)):=by
 have hra:=fun w1 (hf:Fr [] w w1)=>Right_calls (neg:=neg) (hv.fr hf) (by omega)
 have Hk:=Lib.hid (And.intro hk1 hk2)
 clear hk1 hk2
 obtain⟨r,hS⟩:∃ r,r=shiftS neg ds k:=⟨_,rfl⟩
 rw [← hS]
 unfold shiftS at hS
 have Hv:=Lib.hid hv
 have HDd:=Lib.hid hD
 clear hv hD
 cases hR1:RightB neg ds with
 | false =>
  rw [hR1] at hS hra
  simp only [if_true] at hS
  subst hS
  have Hra:=Lib.hid hra
  clear hR1 hra
  go_enter Tryz.func85,Tryz.ntmps85
  go_wp2_with fail
  refine (Hra.out _ (by (repeat first|exact Fr.refl _ _|assumption|apply Fr.n|apply Fr.d|apply Fr.a|refine Fr.s ?_ (.inr (by simp;try omega)) _))).mono ?_
  rintro e w1 ⟨rfl,hf⟩
  have hc:=(hf.block (w.heap.size+1) (by simp) (by simp)).trans (show _=some (.cells #[.bool false,.slice none 0 0] 27 (0,0)) by (repeat first|rw [if_pos (by omega)]|rw [if_neg (by omega)]|rw [hDR]|rw [hDN]|rw [hAz]|rw [hSz]|rw [hAC]|rw [hSC]|rw [oMS]|rw [uPC]|rw [lSZ]|rw [lSS]|rfl))
  have c0:=hEC hc 0
  have c1:=hEC hc 1
  have z0:=hEF hc 0
  have z1:=hEF hc 1
  have cl:=lBk hc
  have Hc:=Lib.hid hc
  have Hf:=Lib.hid (Fr.trans0 (by (repeat first|exact Fr.refl _ _|assumption|apply Fr.n|apply Fr.d|apply Fr.a|refine Fr.s ?_ (.inr (by simp;try omega)) _):Fr [] w _) hf)
  clear hf hc
  go_wp2
  (try simp only [Exit.inBlock,Exit.then])
  refine bodyPost_ret (bRS rfl (b:=w.heap.size+1) (x:=.bool false) (y:=.slice none 0 0) rfl ?_ rfl) rfl ⟨_,_,⟨Nat.le_refl _,fun g hg=>(by cases hg)⟩,rfl,reads_nil _,?_⟩
  ·have h:=Hc.out
   (repeat first|rw [if_pos (by omega)]|rw [if_neg (by omega)]|rw [hDR]|rw [hDN]|rw [hAz]|rw [hSz]|rw [hAC]|rw [hSC]|rw [oMS]|rw [uPC]|rw [lSZ]|rw [lSS]|rfl)
   rw [h]
   (repeat first|rw [if_pos (by omega)]|rw [if_neg (by omega)]|rw [hDR]|rw [hDN]|rw [hAz]|rw [hSz]|rw [hAC]|rw [hSC]|rw [oMS]|rw [uPC]|rw [lSZ]|rw [lSS]|rfl)
  ·exact (Hf.out.setCell (.inr (by simp;try omega)) _).setCell (.inr (by simp;try omega)) _
 | true =>
  obtain⟨cA,lA,_⟩:=right_canon hR1
  rw [hR1] at hS hra
  simp only [Bool.true_eq_false,if_false] at hS
  have Hra:=Lib.hid hra
  have HcA:=Lib.hid cA
  clear hR1 hra cA
  by_cases h0:ds.length=0
  ·rw [if_pos h0] at hS
   subst hS
   rw [h0] at Hra ⊢
   clear h0
   go_enter Tryz.func85,Tryz.ntmps85
   go_wp2_with fail
   refine (Hra.out _ (by (repeat first|exact Fr.refl _ _|assumption|apply Fr.n|apply Fr.d|apply Fr.a|refine Fr.s ?_ (.inr (by simp;try omega)) _))).mono ?_
   rintro e w1 ⟨rfl,hf⟩
   have hb:=(hf.block w.heap.size (by simp;omega) (by simp)).trans (show _=some (.cells #[.bool neg,.slice a 0 c] 27 (0,0)) by (repeat first|rw [if_pos (by omega)]|rw [if_neg (by omega)]|rw [hDR]|rw [hDN]|rw [hAz]|rw [hSz]|rw [hAC]|rw [hSC]|rw [oMS]|rw [uPC]|rw [lSZ]|rw [lSS]|rfl))
   have b0:=hEC hb 0
   have b1:=hEC hb 1
   have bl:=lBk hb
   have hc:=(hf.block (w.heap.size+1) (by simp) (by simp)).trans (show _=some (.cells #[.bool false,.slice none 0 0] 27 (0,0)) by (repeat first|rw [if_pos (by omega)]|rw [if_neg (by omega)]|rw [hDR]|rw [hDN]|rw [hAz]|rw [hSz]|rw [hAC]|rw [hSC]|rw [oMS]|rw [uPC]|rw [lSZ]|rw [lSS]|rfl))
   have c0:=hEC hc 0
   have c1:=hEC hc 1
   have z0:=hEF hc 0
   have z1:=hEF hc 1
   have cl:=lBk hc
   have Hc:=Lib.hid hc
   have Hf:=Lib.hid (Fr.trans0 (by (repeat first|exact Fr.refl _ _|assumption|apply Fr.n|apply Fr.d|apply Fr.a|refine Fr.s ?_ (.inr (by simp;try omega)) _):Fr [] w _) hf)
   clear hf hc hb
   go_wp2
   (try simp only [Exit.inBlock,Exit.then])
   refine bodyPost_ret (bRS rfl (b:=w.heap.size+1) (x:=.bool false) (y:=.slice none 0 0) rfl ?_ rfl) rfl ⟨_,_,⟨Nat.le_refl _,fun g hg=>(by cases hg)⟩,rfl,reads_nil _,?_⟩
   ·have h:=Hc.out
    (repeat first|rw [if_pos (by omega)]|rw [if_neg (by omega)]|rw [hDR]|rw [hDN]|rw [hAz]|rw [hSz]|rw [hAC]|rw [hSC]|rw [oMS]|rw [uPC]|rw [lSZ]|rw [lSS]|rfl)
    rw [h]
    (repeat first|rw [if_pos (by omega)]|rw [if_neg (by omega)]|rw [hDR]|rw [hDN]|rw [hAz]|rw [hSz]|rw [hAC]|rw [hSC]|rw [oMS]|rw [uPC]|rw [lSZ]|rw [lSS]|rfl)
   ·exact (Hf.out.setCell (.inr (by simp;try omega)) _).setCell (.inr (by simp;try omega)) _
  rw [if_neg h0] at hS
  by_cases hk:k<0
  ·rw [if_pos hk] at hS
   unfold downN at hS
   have hd1:decide (k<0)=true:=by simp;omega
   have hle:¬ ds.length=0:=h0
   by_cases hbig:¬ k < -4096
   obtain⟨m,hm⟩:∃ m:Nat,-k=m:=⟨(-k).toNat,by omega⟩
   have hmt:(-k).toNat=m:=by omega
   rw [if_neg hbig,hmt] at hS
   have hdn:=fun w1 (hf:Fr [] w w1)=>down_calls (k:=m) (Hv.out.fr hf) HDd.out HcA.out (by omega) hc (by omega)
   obtain⟨X,hX⟩:∃ X,val 4294967296 ds / 2 ^ m=X:=⟨_,rfl⟩
   obtain⟨lost,hlost⟩:∃ lost,decide (val 4294967296 ds % 2 ^ m≠0)=lost:=⟨_,rfl⟩
   simp only [hX,hlost] at hdn
   rw [hX,hlost] at hS
   have HDN:=Lib.hid hdn
   have HS:=Lib.hid hS
   clear hdn hX hlost hS hmt h0
   rotate_left
   have hbig:=Decidable.not_not.1 hbig
   rw [if_pos hbig] at hS
   have hdn:=fun w1 (hf:Fr [] w w1)=>down_calls (k:=4096) (Hv.out.fr hf) HDd.out HcA.out (by omega) hc (by omega)
   obtain⟨X,hX⟩:∃ X,val 4294967296 ds / 2 ^ 4096=X:=⟨_,rfl⟩
   obtain⟨lost,hlost⟩:∃ lost,decide (val 4294967296 ds % 2 ^ 4096≠0)=lost:=⟨_,rfl⟩
   simp only [hX,hlost] at hdn
   rw [hX,hlost] at hS
   have HDN:=Lib.hid hdn
   have HS:=Lib.hid hS
   clear hdn hX hlost hS h0
   rotate_left
   all_goals
    go_enter Tryz.func85,Tryz.ntmps85
    go_wp2_with fail
    refine (Hra.out _ (by (repeat first|exact Fr.refl _ _|assumption|apply Fr.n|apply Fr.d|apply Fr.a|refine Fr.s ?_ (.inr (by simp;try omega)) _))).mono ?_
    rintro e w1 ⟨rfl,hf⟩
    have hb:=(hf.block w.heap.size (by simp;omega) (by simp)).trans (show _=some (.cells #[.bool neg,.slice a ds.length c] 27 (0,0)) by (repeat first|rw [if_pos (by omega)]|rw [if_neg (by omega)]|rw [hDR]|rw [hDN]|rw [hAz]|rw [hSz]|rw [hAC]|rw [hSC]|rw [oMS]|rw [uPC]|rw [lSZ]|rw [lSS]|rfl))
    have b0:=hEC hb 0
    have b1:=hEC hb 1
    have bl:=lBk hb
    have Hb:=Lib.hid hb
    have Hc:=Lib.hid ((hf.block (w.heap.size+1) (by simp) (by simp)).trans (show _=some (.cells #[.bool false,.slice none 0 0] 27 (0,0)) by (repeat first|rw [if_pos (by omega)]|rw [if_neg (by omega)]|rw [hDR]|rw [hDN]|rw [hAz]|rw [hSz]|rw [hAC]|rw [hSC]|rw [oMS]|rw [uPC]|rw [lSZ]|rw [lSS]|rfl)))
    have Hf:=Lib.hid (Fr.trans0 (by (repeat first|exact Fr.refl _ _|assumption|apply Fr.n|apply Fr.d|apply Fr.a|refine Fr.s ?_ (.inr (by simp;try omega)) _):Fr [] w _) hf)
    clear hf hb
    go_wp2_with fail
    refine (HDN.out _ Hf.out).mono ?_
    rintro e w2 ⟨pa,pc,os,rfl,hr,hlo,hDo,hvo,hll,hcap,hf⟩
    have hb2:=(hf.block _ bl (by simp)).trans Hb.out
    have b0':=hEC hb2 0
    have bl':=lBk hb2
    have Hb2:=Lib.hid hb2
    have hc2:=(hf.block _ (lBk Hc.out) (by simp)).trans Hc.out
    have Hc2:=Lib.hid hc2
    have Hf2:=Lib.hid (Hf.out.trans0 hf)
    have Hr:=Lib.hid hr
    have Hlo:=Lib.hid hlo
    have HDo:=Lib.hid hDo
    have Hvo:=Lib.hid hvo
    have Hll:=Lib.hid hll
    have Hcap:=Lib.hid hcap
    have h2w:w.heap.size+1<w1.heap.size:=lBk Hc.out
    have H2w:=Lib.hid (And.intro h2w hf.size)
    clear hf hb2 hc2 hr hlo hDo hvo hll hcap b0 b1 bl h2w
    cases neg<;>cases lost
    go_wp2_with fail
    rotate_left 3
    ·have hS:=HS.out
     simp only [Bool.and_self,if_true] at hS
     refine (plus_calls (Hr.out.fr (by (repeat first|exact Fr.refl _ _|assumption|apply Fr.n|apply Fr.d|apply Fr.a|refine Fr.s ?_ (.inr (by simp;try omega)) _))) (reads_blk (cs:=u32s [1]) (by (repeat first|rw [if_pos (by omega)]|rw [if_neg (by omega)]|rw [hDR]|rw [hDN]|rw [hAz]|rw [hSz]|rw [hAC]|rw [hSC]|rw [oMS]|rw [uPC]|rw [lSZ]|rw [lSS]|rfl)) rfl) HDo.out (db:=[1]) (fun x hx=>by simp at hx;omega) (by have:=Hll.out;omega) (by simp)).mono ?_
     rintro e w4 ⟨qa,qc,qs,rfl,ho,hD,hV,hl4,hlc,hf0⟩
     rw [Hvo.out,show val 4294967296 [1]=1 by rfl] at hV
     simp only [List.length_cons,List.length_nil] at hl4
     have hmd:=made_calls (neg:=true) (Reads.of_owns ho) hD (by have:=Hll.out;omega) hlc (A:=fun g=>w2.heap.size≤g) (fun g hg=>by have h:=owns_ge ho hg;simp at h;omega)
     rw [hV,← hS] at hmd
     have HMD:=Lib.hid (fun (A:Nat→Prop) (hA:∀ g,w2.heap.size≤g→A g)=>hmd.mono fun e w' h=>BigPost.mono h hA)
     have hf:Fr [] w2 w4:=Fr.trans0 (by (repeat first|exact Fr.refl _ _|assumption|apply Fr.n|apply Fr.d|apply Fr.a|refine Fr.s ?_ (.inr (by simp;try omega)) _)) hf0
     have b0'':=(hEC ((hf.block _ bl' (by simp)).trans Hb2.out) 0)
     have bl'':=lBk ((hf.block _ bl' (by simp)).trans Hb2.out)
     have Hc4:=Lib.hid ((hf.block _ (lBk Hc2.out) (by simp)).trans Hc2.out)
     have Hf4:=Lib.hid (Hf2.out.trans0 hf)
     clear ho hD hV hl4 hlc hf0 hf hmd hS
     go_wp2_with fail
     refine (HMD.out (fun g=>w1.heap.size≤g) (fun g hg=>by have:=H2w.out;omega)).mono ?_
     rintro e w5 ⟨ra,rc,hlo,rfl,hr,hf⟩
     have hc5:=(hf.block _ (lBk Hc4.out) (by simp)).trans Hc4.out
     have c0:=hEC hc5 0
     have c1:=hEC hc5 1
     have z0:=hEF hc5 0
     have z1:=hEF hc5 1
     have cl:=lBk hc5
     have Hc5:=Lib.hid hc5
     have Hlo5:=Lib.hid hlo
     have Hr5:=Lib.hid hr
     have Hf5:=Lib.hid (Hf4.out.trans0 hf)
     clear hlo hr hf hc5
     obtain⟨r1,r2,r3⟩:=r
     go_wp2
     (try simp only [Exit.inBlock,Exit.then])
     refine bodyPost_ret (bRS rfl (b:=w.heap.size+1) (x:=.bool r1) (y:=.slice ra r2.length rc) rfl ?_ rfl) rfl ⟨_,_,⟨Hlo5.out.1,fun g hg=>(by have:=Hlo5.out.2 g hg;have:=H2w.out;omega)⟩,rfl,?_,?_⟩
     ·have h:=Hc5.out
      (repeat first|rw [if_pos (by omega)]|rw [if_neg (by omega)]|rw [hDR]|rw [hDN]|rw [hAz]|rw [hSz]|rw [hAC]|rw [hSC]|rw [oMS]|rw [uPC]|rw [lSZ]|rw [lSS]|rfl)
      rw [h]
      (repeat first|rw [if_pos (by omega)]|rw [if_neg (by omega)]|rw [hDR]|rw [hDN]|rw [hAz]|rw [hSz]|rw [hAC]|rw [hSC]|rw [oMS]|rw [uPC]|rw [lSZ]|rw [lSS]|rfl)
     ·refine Hr5.out.keep fun x hx hl=>?_
      have:=Hlo5.out.2 x hx
      have hcl:=H2w.out
      rw [sCE _ _ _ (by simp;omega),sCE _ _ _ (by simp;omega)]
     ·exact (Hf5.out.setCell (.inr (by simp;try omega)) _).setCell (.inr (by simp;try omega)) _
    all_goals
     have hS:=HS.out
     simp only [Bool.and_self,Bool.false_and,Bool.and_false,Bool.false_eq_true,if_false,Nat.add_zero] at hS
     have HSS:=Lib.hid hS
     have hmd:=fun neg=>made_calls (neg:=neg) Hr.out HDo.out (by have:=Hll.out;omega) Hcap.out (A:=fun g=>w1.heap.size≤g) Hlo.out
     simp only [Hvo.out] at hmd
     have HMD:=Lib.hid hmd
     have Hc4:=Lib.hid Hc2.out
     have Hf4:=Lib.hid Hf2.out
     clear hS hmd
     refine (HMD.out _).mono ?_
     rintro e w5 ⟨ra,rc,hlo,rfl,hr,hf⟩
     rw [← HSS.out] at hlo hr
     rw [← HSS.out]
     have hc5:=(hf.block _ (lBk Hc4.out) (by simp)).trans Hc4.out
     have c0:=hEC hc5 0
     have c1:=hEC hc5 1
     have z0:=hEF hc5 0
     have z1:=hEF hc5 1
     have cl:=lBk hc5
     have Hc5:=Lib.hid hc5
     have Hlo5:=Lib.hid hlo
     have Hr5:=Lib.hid hr
     have Hf5:=Lib.hid (Hf4.out.trans0 hf)
     clear hlo hr hf hc5
     obtain⟨r1,r2,r3⟩:=r
     go_wp2
     (try simp only [Exit.inBlock,Exit.then])
     refine bodyPost_ret (bRS rfl (b:=w.heap.size+1) (x:=.bool r1) (y:=.slice ra r2.length rc) rfl ?_ rfl) rfl ⟨_,_,⟨Hlo5.out.1,fun g hg=>(by have:=Hlo5.out.2 g hg;have:=H2w.out;omega)⟩,rfl,?_,?_⟩
     ·have h:=Hc5.out
      (repeat first|rw [if_pos (by omega)]|rw [if_neg (by omega)]|rw [hDR]|rw [hDN]|rw [hAz]|rw [hSz]|rw [hAC]|rw [hSC]|rw [oMS]|rw [uPC]|rw [lSZ]|rw [lSS]|rfl)
      rw [h]
      (repeat first|rw [if_pos (by omega)]|rw [if_neg (by omega)]|rw [hDR]|rw [hDN]|rw [hAz]|rw [hSz]|rw [hAC]|rw [hSC]|rw [oMS]|rw [uPC]|rw [lSZ]|rw [lSS]|rfl)
     ·refine Hr5.out.keep fun x hx hl=>?_
      have:=Hlo5.out.2 x hx
      have hcl:=H2w.out
      rw [sCE _ _ _ (by simp;omega),sCE _ _ _ (by simp;omega)]
     ·exact (Hf5.out.setCell (.inr (by simp;try omega)) _).setCell (.inr (by simp;try omega)) _
  rw [if_neg hk] at hS
  by_cases hk2:2048<k
  ·rw [if_pos hk2] at hS
   subst hS
   have hle:¬ ds.length=0:=h0
   have hd1:decide (k<0)=false:=by simp;omega
   have hd2:decide (2048<k)=true:=by simp;omega
   clear hk hk2
   go_enter Tryz.func85,Tryz.ntmps85
   go_wp2_with fail
   refine (Hra.out _ (by (repeat first|exact Fr.refl _ _|assumption|apply Fr.n|apply Fr.d|apply Fr.a|refine Fr.s ?_ (.inr (by simp;try omega)) _))).mono ?_
   rintro e w1 ⟨rfl,hf⟩
   have hb:=(hf.block w.heap.size (by simp;omega) (by simp)).trans (show _=some (.cells #[.bool neg,.slice a ds.length c] 27 (0,0)) by (repeat first|rw [if_pos (by omega)]|rw [if_neg (by omega)]|rw [hDR]|rw [hDN]|rw [hAz]|rw [hSz]|rw [hAC]|rw [hSC]|rw [oMS]|rw [uPC]|rw [lSZ]|rw [lSS]|rfl))
   have b0:=hEC hb 0
   have b1:=hEC hb 1
   have bl:=lBk hb
   have hc:=(hf.block (w.heap.size+1) (by simp) (by simp)).trans (show _=some (.cells #[.bool false,.slice none 0 0] 27 (0,0)) by (repeat first|rw [if_pos (by omega)]|rw [if_neg (by omega)]|rw [hDR]|rw [hDN]|rw [hAz]|rw [hSz]|rw [hAC]|rw [hSC]|rw [oMS]|rw [uPC]|rw [lSZ]|rw [lSS]|rfl))
   have c0:=hEC hc 0
   have c1:=hEC hc 1
   have z0:=hEF hc 0
   have z1:=hEF hc 1
   have cl:=lBk hc
   have Hc:=Lib.hid hc
   have Hf:=Lib.hid (Fr.trans0 (by (repeat first|exact Fr.refl _ _|assumption|apply Fr.n|apply Fr.d|apply Fr.a|refine Fr.s ?_ (.inr (by simp;try omega)) _):Fr [] w _) hf)
   clear hf hc hb
   go_wp2
   (try simp only [Exit.inBlock,Exit.then])
   refine bodyPost_ret (bRS rfl (b:=w.heap.size+1) (x:=.bool false) (y:=.slice none 0 0) rfl ?_ rfl) rfl ⟨_,_,⟨Nat.le_refl _,fun g hg=>(by cases hg)⟩,rfl,reads_nil _,?_⟩
   ·have h:=Hc.out
    (repeat first|rw [if_pos (by omega)]|rw [if_neg (by omega)]|rw [hDR]|rw [hDN]|rw [hAz]|rw [hSz]|rw [hAC]|rw [hSC]|rw [oMS]|rw [uPC]|rw [lSZ]|rw [lSS]|rfl)
    rw [h]
    (repeat first|rw [if_pos (by omega)]|rw [if_neg (by omega)]|rw [hDR]|rw [hDN]|rw [hAz]|rw [hSz]|rw [hAC]|rw [hSC]|rw [oMS]|rw [uPC]|rw [lSZ]|rw [lSS]|rfl)
   ·exact (Hf.out.setCell (.inr (by simp;try omega)) _).setCell (.inr (by simp;try omega)) _
  rw [if_neg hk2] at hS
  obtain⟨m,rfl⟩:∃ m:Nat,k=m:=⟨k.toNat,by omega⟩
  rw [Int.toNat_natCast] at hS
  obtain⟨wd,hwd⟩:∃ wd,m / 32=wd:=⟨_,rfl⟩
  obtain⟨rs,hrs⟩:∃ rs,m % 32=rs:=⟨_,rfl⟩
  have Ew:((m:Int) / 32)=wd:=by omega
  have Er:((m:Int) % 32)=rs:=by omega
  have hr32:rs<32:=by omega
  have hwb:wd≤64:=by omega
  have Htp:=Lib.hid (two_split (ds:=ds) hwd hrs).1
  have hd1:decide ((m:Int)<0)=false:=by simp
  have hd2:decide ((2048:Int)<m)=false:=by simp;omega
  have Hn:=Lib.hid (show ((wd:Int)+ds.length+1)=((wd+ds.length+1:Nat):Int) by omega)
  have HS:=Lib.hid hS
  clear hk hk2 hwd hrs hS
  go_enter Tryz.func85,Tryz.ntmps85
  go_wp2_with fail
  refine (Hra.out _ (by (repeat first|exact Fr.refl _ _|assumption|apply Fr.n|apply Fr.d|apply Fr.a|refine Fr.s ?_ (.inr (by simp;try omega)) _))).mono ?_
  rintro e w1 ⟨rfl,hf⟩
  have hb:=(hf.block w.heap.size (by simp;omega) (by simp)).trans (show _=some (.cells #[.bool neg,.slice a ds.length c] 27 (0,0)) by (repeat first|rw [if_pos (by omega)]|rw [if_neg (by omega)]|rw [hDR]|rw [hDN]|rw [hAz]|rw [hSz]|rw [hAC]|rw [hSC]|rw [oMS]|rw [uPC]|rw [lSZ]|rw [lSS]|rfl))
  have b0:=hEC hb 0
  have b1:=hEC hb 1
  have bl:=lBk hb
  have Hb:=Lib.hid hb
  have Hc:=Lib.hid ((hf.block (w.heap.size+1) (by simp) (by simp)).trans (show _=some (.cells #[.bool false,.slice none 0 0] 27 (0,0)) by (repeat first|rw [if_pos (by omega)]|rw [if_neg (by omega)]|rw [hDR]|rw [hDN]|rw [hAz]|rw [hSz]|rw [hAC]|rw [hSC]|rw [oMS]|rw [uPC]|rw [lSZ]|rw [lSS]|rfl)))
  have Hf:=Lib.hid (Fr.trans0 (by (repeat first|exact Fr.refl _ _|assumption|apply Fr.n|apply Fr.d|apply Fr.a|refine Fr.s ?_ (.inr (by simp;try omega)) _):Fr [] w _) hf)
  clear hf hb
  go_wp2_with (refine wpList_make1 rfl (t:=25) (e:=106) (n:=wd+ds.length+1) (z:=.int .u32 0) (bytes:=4) rfl (congrArg (Value.int .i64) Hn.out) (congrArg (Value.int .i64) Hn.out) Tryz.underlying25 info_u32 rfl (by omega) (by unfold maxLen;omega) ?_)
  intro w2 ho2 hf2 hsz2
  obtain⟨n,hn⟩:∃ n,wd+ds.length+1=n:=⟨_,rfl⟩
  have hni:((wd:Int)+ds.length+1)=n:=by omega
  rw [hn] at ho2
  rw [hn,hni]
  have hb2:=(hf2.block _ bl (by simp)).trans Hb.out
  have Hc2:=Lib.hid ((hf2.block _ (lBk Hc.out) (by simp)).trans Hc.out)
  have b0':=hEC hb2 0
  have b1':=hEC hb2 1
  have bl':=lBk hb2
  have Hb2:=Lib.hid hb2
  obtain⟨q,hq⟩:∃ q,w1.heap.size=q:=⟨_,rfl⟩
  have hqw:w.heap.size+1<q:=by rw [← hq];exact lBk Hc.out
  rw [hq] at ho2
  rw [hq]
  have Ho2:=Lib.hid ho2
  have Hf2:=Lib.hid (Hf.out.trans0 hf2)
  have Hnn:=Lib.hid hn
  have Haa:=Lib.hid (Hv.out.2)
  clear ho2 hf2 hsz2 hn hni hb2 b0 b1 bl hq
  go_wp2_with fail
  go_loopw [70] (fun xk wl=>∃ (i:Nat) (l:List Nat),xk=.int .i64 i∧i≤ds.length∧l.length=n∧Dig 4294967296 l∧(∀ j,wd+i<j→l.getD j 0=0)∧l.getD (wd+i) 0<2 ^ rs∧val 4294967296 l=val 4294967296 (ds.take i)*(4294967296 ^ wd*2 ^ rs) ∧
   wl.ownsRow q 106 1 (.slice (some ⟨q,0,none⟩) n n) n (u32s l)∧Fr [] w wl∧wl.heap[w.heap.size]?=some (.cells #[.bool neg,.slice a ds.length c] 27 (0,0)) ∧
   wl.heap[w.heap.size+1]?=some (.cells #[.bool false,.slice none 0 0] 27 (0,0))) (fun xk _=>ds.length - (intOf xk).toNat)
  case atStart=>exact⟨0,List.replicate n 0,rfl,by omega,List.length_replicate,Dig.replicate (by omega) n,fun j _=>by simp [List.getD_eq_getElem?_getD,List.getElem?_replicate];split<;>rfl,by simp [List.getD_eq_getElem?_getD,List.getElem?_replicate];split<;>simp [Nat.pow_pos],by simp [val,val_replicate],by rw [u32s_zero];exact Ho2.out,Hf2.out,Hb2.out,Hc2.out⟩
  case round =>
   obtain⟨i,l,rfl,hi,hl,hD,hz,hlow,hv,ho,hf,hb,hcc⟩:=hrel
   have hol:=oLT ho rfl
   by_cases hin:i<ds.length
   ·obtain⟨_,_,e0,hga⟩:=Haa.out
    simp only [Value.slice.injEq,true_and] at e0
    obtain⟨rfl,rfl⟩:=e0
    obtain⟨g1,o1,rfl,hg1,hc1⟩:=hga (by omega)
    have e1:=(hf.cell (p:=⟨g1,o1+i,none⟩) hg1 (by simp)).trans (hc1 i _ (u32s_get hin))
    have hgr:g1<wr.heap.size:=by have:=hf.size;omega
    have hwi:wd+i<n:=by have:=Hnn.out;omega
    have hwi2:wd+i+1<n:=by have:=Hnn.out;omega
    have e3:=owns_cell ho rfl (u32s_get (l:=l) (i:=wd+i) (by omega))
    have hfz:=owns_frozen ho rfl (wd+i)
    have hfz2:=owns_frozen ho rfl (wd+i+1)
    have hx:ds.getD i 0<4294967296:=HDd.out.getD (by omega) i
    have e4:=owns_cell ho rfl (u32s_get (l:=l) (i:=wd+i+1) (by omega))
    have Hset:=Lib.hid (fun d d2=>owns_set (owns_set ho rfl (j:=wd+i) (by rw [u32s_length];omega) (.int .u32 d)) rfl (j:=wd+i+1) (by rw [List.length_set,u32s_length];omega) (.int .u32 d2))
    have Hvt:=Lib.hid (val_take_succ 4294967296 ds i)
    have Hf3:=Lib.hid hf
    have HDl:=Lib.hid hD
    have Hz:=Lib.hid hz
    have Hv3:=Lib.hid hv
    have Hl:=Lib.hid hl
    have Hlow:=Lib.hid hlow
    have Hb3:=Lib.hid hb
    have Hc3:=Lib.hid hcc
    have Hxl:=Lib.hid hx
    have Ex:IntKind.u64.wrap ((ds.getD i 0:Nat):Int)=(ds.getD i 0:Nat):=IntWalk.u64_in _ (by omega)
    clear ho hf hD hz hv hl hlow hb hcc hc1 hga hx b0' b1' bl'
    have Hs1:=Lib.hid (fun d=>val_set (B:=4294967296) d (show wd+i<l.length by have:=Hl.out;omega))
    have Hs2:=Lib.hid (fun d d2=>val_set (B:=4294967296) (l:=l.set (wd+i) d) d2 (show wd+i+1<(l.set (wd+i) d).length by rw [List.length_set];have:=Hl.out;omega))
    generalize ds.getD i 0=x at *
    generalize l.getD (wd+i) 0=o at *
    generalize l.getD (wd+i+1) 0=o2 at *
    obtain⟨v,Es,hvb,Ey,hst⟩:=shl_facts Hxl.out hr32 Hlow.out
    have Hvb:=Lib.hid hvb
    have Hst:=Lib.hid hst
    clear hvb hst
    go_wp2
    go_roundw
    case rel =>
     obtain⟨hv2,hlt⟩:=Hst.out
     have e1:((o+v % 4294967296:Nat):Int)=(o:Int)+(v:Int) % 4294967296:=by omega
     have e2:((v / 4294967296 % 4294967296:Nat):Int)=(v:Int) / 4294967296 % 4294967296:=by omega
     have h31:2 ^ rs≤2 ^ 31:=Nat.pow_le_pow_right (by omega) (by omega)
     have hvb:=Hvb.out
     have e3:v / 4294967296 % 4294967296=v / 4294967296:=Nat.mod_eq_of_lt (by omega)
     refine⟨i+1,(l.set (wd+i) (o+v % 4294967296)).set (wd+i+1) (v / 4294967296 % 4294967296),by go_num,by omega,by rw [List.length_set,List.length_set];exact Hl.out,(HDl.out.set hlt).set (Nat.mod_lt _ (by omega)),?_,?_,?_,?_,?_,?_,?_⟩
     ·intro j hj
      rw [getD_set_ne (by omega),getD_set_ne (by omega)]
      exact Hz.out j (by omega)
     ·rw [List.getD_eq_getElem?_getD,show wd+(i+1)=wd+i+1 by omega,List.getElem?_set_self (by rw [List.length_set];have:=Hl.out;omega),e3]
      exact hvb
     ·have h1:=Hs1.out (o+v % 4294967296)
      have h2:=Hs2.out (o+v % 4294967296) (v / 4294967296 % 4294967296)
      rw [getD_set_ne (by omega),Hz.out _ (by omega),Nat.mul_zero,Nat.add_zero] at h2
      rw [h2,Hvt.out,Nat.add_mul,← Hv3.out,e3]
      have h3:4294967296 ^ (wd+i)*(o+v % 4294967296)=4294967296 ^ (wd+i)*o+4294967296 ^ (wd+i)*(v % 4294967296):=Nat.mul_add _ _ _
      have h4:4294967296 ^ i*x*(4294967296 ^ wd*2 ^ rs)=4294967296 ^ (wd+i)*(v % 4294967296)+4294967296 ^ (wd+i+1)*(v / 4294967296):=by
       rw [Nat.pow_succ,Nat.mul_assoc (4294967296 ^ (wd+i)),← Nat.mul_add,Nat.mod_add_div,hv2,Nat.pow_add]
       simp only [Nat.mul_assoc,Nat.mul_left_comm,Nat.mul_comm]
      rw [h4]
      generalize 4294967296 ^ (wd+i)*(o+v % 4294967296)=u1 at *
      generalize 4294967296 ^ (wd+i)*o=u2 at *
      omega
     ·rw [u32s_set,u32s_set,e1,e2]
      exact Hset.out _ _
     ·exact (Hf3.out.setCell (.inr (by simp;omega)) _).setCell (.inr (by simp;omega)) _
     ·(repeat first|rw [if_pos (by omega)]|rw [if_neg (by omega)]|rw [hDR]|rw [hDN]|rw [hAz]|rw [hSz]|rw [hAC]|rw [hSC]|rw [oMS]|rw [uPC]|rw [lSZ]|rw [lSS]|rfl)
      exact Hb3.out
     ·(repeat first|rw [if_pos (by omega)]|rw [if_neg (by omega)]|rw [hDR]|rw [hDN]|rw [hAz]|rw [hSz]|rw [hAC]|rw [hSC]|rw [oMS]|rw [uPC]|rw [lSZ]|rw [lSS]|rfl)
      exact Hc3.out
    case measure=>simp [intOf];omega
   ·obtain rfl:i=ds.length:=by omega
    rw [List.take_length,← Htp.out] at hv
    have b0'':=hEC hb 0
    have bl'':=lBk hb
    have Hvv:=Lib.hid hv
    have Ho:=Lib.hid ho
    have HDl:=Lib.hid hD
    have Hl:=Lib.hid hl
    have Hcc:=Lib.hid hcc
    have Hff:=Lib.hid hf
    clear hv ho hD hl hcc hf hb hz hlow b0' b1' bl'
    go_wp2_with fail
    have hln:=Hl.out
    have hmc:=made_calls (w:=wr) (neg:=neg) (ds:=l) (a:=some ⟨q,0,none⟩) (c:=n) (by have h:=Reads.of_owns Ho.out;rw [hln];exact h) HDl.out (by have:=Hnn.out;omega) (by omega) (A:=fun g=>q≤g) (fun g hg=>by
     have h:q=g:=by simpa [Value.ownBlock] using hg
     omega)
    rw [hln,Hvv.out,← HS.out] at hmc
    refine hmc.mono ?_
    rintro e w4 ⟨ra,rc,hlo,rfl,hr,hf⟩
    have hc4:=(hf.block _ (lBk Hcc.out) (by simp)).trans Hcc.out
    have c0:=hEC hc4 0
    have c1:=hEC hc4 1
    have z0:=hEF hc4 0
    have z1:=hEF hc4 1
    have cl:=lBk hc4
    have Hc4:=Lib.hid hc4
    have Hlo:=Lib.hid hlo
    have Hr:=Lib.hid hr
    have Hf5:=Lib.hid (Hff.out.trans0 hf)
    have Hqw:=Lib.hid hqw
    clear hlo hr hf hc4 hmc hln
    obtain⟨r1,r2,r3⟩:=r
    go_wp2
    (try simp only [Exit.inBlock,Exit.then])
    refine bodyPost_ret (bRS rfl (b:=w.heap.size+1) (x:=.bool r1) (y:=.slice ra r2.length rc) rfl ?_ rfl) rfl ⟨_,_,⟨Hlo.out.1,fun g hg=>(by have:=Hlo.out.2 g hg;have:=Hqw.out;omega)⟩,rfl,?_,?_⟩
    ·have h:=Hc4.out
     (repeat first|rw [if_pos (by omega)]|rw [if_neg (by omega)]|rw [hDR]|rw [hDN]|rw [hAz]|rw [hSz]|rw [hAC]|rw [hSC]|rw [oMS]|rw [uPC]|rw [lSZ]|rw [lSS]|rfl)
     rw [h]
     (repeat first|rw [if_pos (by omega)]|rw [if_neg (by omega)]|rw [hDR]|rw [hDN]|rw [hAz]|rw [hSz]|rw [hAC]|rw [hSC]|rw [oMS]|rw [uPC]|rw [lSZ]|rw [lSS]|rfl)
    ·refine Hr.out.keep fun x hx hl=>?_
     have:=Hlo.out.2 x hx
     have hcl:=Hqw.out
     rw [sCE _ _ _ (by simp;omega),sCE _ _ _ (by simp;omega)]
    ·exact (Hf5.out.setCell (.inr (by simp;try omega)) _).setCell (.inr (by simp;try omega)) _
end Go.Proofs.YtdanghnadbkhfaaGreat
end
section
namespace Go.Proofs.YtdanghnadbkhfaaGreat
open Go Go.RowKit Rg Hp Bn
set_option maxHeartbeats 4000000 in
set_option maxRecDepth 100000 in
theorem Bit_calls {w:World} {neg:Bool} {ds:List Nat} {k:Int} {a:Option Addr} {c:Nat} (hv:Reads w (.slice a ds.length c) ds.length 1 (u32s ds)) (hD:Dig 4294967296 ds) (hl:ds.length≤10000) (hc:ds.length≤c) (hk1:-9223372036854775808≤k) (hk2:k<9223372036854775808) :
  Calls Tryz.prog 41 #[.agg #[.bool neg,.slice a ds.length c],.int .i64 k] w fun e w'=>e=.returned (.int .i64 (bitS neg ds k:Nat))∧Fr [] w w':=by
 have hra:=fun w1 (hf:Fr [] w w1)=>Right_calls (neg:=neg) (hv.fr hf) (by omega)
 obtain⟨r,hS⟩:∃ r,r=bitS neg ds k:=⟨_,rfl⟩
 rw [← hS]
 unfold bitS at hS
 have Hv:=Lib.hid hv
 have HDd:=Lib.hid hD
 clear hv hD
 cases hR1:RightB neg ds with
 | false =>
  rw [hR1] at hS hra
  simp only [true_or,if_true] at hS
  subst hS
  have Hra:=Lib.hid hra
  clear hra hR1
  go_enter Tryz.func41,Tryz.ntmps41
  go_wp2_with fail
  refine (Hra.out _ (by (repeat first|exact Fr.refl _ _|assumption|apply Fr.n|apply Fr.d|apply Fr.a|refine Fr.s ?_ (.inr (by simp;try omega)) _))).mono ?_
  rintro e w1 ⟨rfl,hf⟩
  have hb_:=(hf.block (w.heap.size) (by first|(simp;done)|(simp;omega)) (by simp)).trans (show _=some (.cells #[.bool neg,.slice a ds.length c] 27 (0,0)) by (repeat first|rw [if_pos (by omega)]|rw [if_neg (by omega)]|rw [hDR]|rw [hDN]|rw [hAz]|rw [hSz]|rw [hAC]|rw [hSC]|rw [oMS]|rw [uPC]|rw [lSZ]|rw [lSS]|rfl))
  have b0:=hEC hb_ 0
  have b1:=hEC hb_ 1
  have bl:=lBk hb_
  have Hb:=Lib.hid hb_
  clear hb_
  have Hf:=Lib.hid (Fr.trans0 (by (repeat first|exact Fr.refl _ _|assumption|apply Fr.n|apply Fr.d|apply Fr.a|refine Fr.s ?_ (.inr (by simp;try omega)) _):Fr [] w _) hf)
  clear hf
  go_wp2
  go_ret
  exact⟨rfl,Hf.out⟩
 | true =>
  rw [hR1] at hS hra
  simp only [Bool.true_eq_false,false_or] at hS
  have Hra:=Lib.hid hra
  clear hra hR1
  by_cases hk0:k<0
  ·rw [if_pos hk0] at hS
   subst hS
   have hd:decide (k<0)=true:=by simpa using hk0
   go_enter Tryz.func41,Tryz.ntmps41
   go_wp2_with fail
   refine (Hra.out _ (by (repeat first|exact Fr.refl _ _|assumption|apply Fr.n|apply Fr.d|apply Fr.a|refine Fr.s ?_ (.inr (by simp;try omega)) _))).mono ?_
   rintro e w1 ⟨rfl,hf⟩
   have hb_:=(hf.block (w.heap.size) (by first|(simp;done)|(simp;omega)) (by simp)).trans (show _=some (.cells #[.bool neg,.slice a ds.length c] 27 (0,0)) by (repeat first|rw [if_pos (by omega)]|rw [if_neg (by omega)]|rw [hDR]|rw [hDN]|rw [hAz]|rw [hSz]|rw [hAC]|rw [hSC]|rw [oMS]|rw [uPC]|rw [lSZ]|rw [lSS]|rfl))
   have b0:=hEC hb_ 0
   have b1:=hEC hb_ 1
   have bl:=lBk hb_
   have Hb:=Lib.hid hb_
   clear hb_
   have Hf:=Lib.hid (Fr.trans0 (by (repeat first|exact Fr.refl _ _|assumption|apply Fr.n|apply Fr.d|apply Fr.a|refine Fr.s ?_ (.inr (by simp;try omega)) _):Fr [] w _) hf)
   clear hf
   go_wp2
   go_ret
   exact⟨rfl,Hf.out⟩
  ·rw [if_neg hk0] at hS
   have hd:decide (k<0)=false:=by simpa using hk0
   by_cases hk3:2048≤k
   ·rw [if_pos hk3] at hS
    subst hS
    have hd2:decide (2048≤k)=true:=by simpa using hk3
    cases neg
    ·
     go_enter Tryz.func41,Tryz.ntmps41
     go_wp2_with fail
     refine (Hra.out _ (by (repeat first|exact Fr.refl _ _|assumption|apply Fr.n|apply Fr.d|apply Fr.a|refine Fr.s ?_ (.inr (by simp;try omega)) _))).mono ?_
     rintro e w1 ⟨rfl,hf⟩
     have hb_:=(hf.block (w.heap.size) (by first|(simp;done)|(simp;omega)) (by simp)).trans (show _=some (.cells #[.bool false,.slice a ds.length c] 27 (0,0)) by (repeat first|rw [if_pos (by omega)]|rw [if_neg (by omega)]|rw [hDR]|rw [hDN]|rw [hAz]|rw [hSz]|rw [hAC]|rw [hSC]|rw [oMS]|rw [uPC]|rw [lSZ]|rw [lSS]|rfl))
     have b0:=hEC hb_ 0
     have b1:=hEC hb_ 1
     have bl:=lBk hb_
     have Hb:=Lib.hid hb_
     clear hb_
     have Hf:=Lib.hid (Fr.trans0 (by (repeat first|exact Fr.refl _ _|assumption|apply Fr.n|apply Fr.d|apply Fr.a|refine Fr.s ?_ (.inr (by simp;try omega)) _):Fr [] w _) hf)
     clear hf
     go_wp2
     go_ret
     exact⟨rfl,Hf.out⟩
    ·
     go_enter Tryz.func41,Tryz.ntmps41
     go_wp2_with fail
     refine (Hra.out _ (by (repeat first|exact Fr.refl _ _|assumption|apply Fr.n|apply Fr.d|apply Fr.a|refine Fr.s ?_ (.inr (by simp;try omega)) _))).mono ?_
     rintro e w1 ⟨rfl,hf⟩
     have hb_:=(hf.block (w.heap.size) (by first|(simp;done)|(simp;omega)) (by simp)).trans (show _=some (.cells #[.bool true,.slice a ds.length c] 27 (0,0)) by (repeat first|rw [if_pos (by omega)]|rw [if_neg (by omega)]|rw [hDR]|rw [hDN]|rw [hAz]|rw [hSz]|rw [hAC]|rw [hSC]|rw [oMS]|rw [uPC]|rw [lSZ]|rw [lSS]|rfl))
     have b0:=hEC hb_ 0
     have b1:=hEC hb_ 1
     have bl:=lBk hb_
     have Hb:=Lib.hid hb_
     clear hb_
     have Hf:=Lib.hid (Fr.trans0 (by (repeat first|exact Fr.refl _ _|assumption|apply Fr.n|apply Fr.d|apply Fr.a|refine Fr.s ?_ (.inr (by simp;try omega)) _):Fr [] w _) hf)
     clear hf
     go_wp2
     go_ret
     exact⟨rfl,Hf.out⟩
   ·rw [if_neg hk3] at hS
    have hd2:decide (2048≤k)=false:=by simp;omega
    have hsh:=fun w1 (hf:Fr [] w w1)=>Shift_calls (neg:=neg) (k:=-k) (Hv.out.fr hf) HDd.out hl hc (by omega) (by omega)
    obtain⟨sD,sL⟩:=shiftS_dig (neg:=neg) (ds:=ds) (k:=-k)
    generalize shiftS neg ds (-k)=s at *
    have Hsh:=Lib.hid hsh
    have HsD:=Lib.hid sD
    have HsL:=Lib.hid sL
    have HS:=Lib.hid hS
    clear hsh sD sL hS
    go_enter Tryz.func41,Tryz.ntmps41
    go_wp2_with fail
    refine (Hra.out _ (by (repeat first|exact Fr.refl _ _|assumption|apply Fr.n|apply Fr.d|apply Fr.a|refine Fr.s ?_ (.inr (by simp;try omega)) _))).mono ?_
    rintro e w1 ⟨rfl,hf⟩
    have hb_:=(hf.block (w.heap.size) (by first|(simp;done)|(simp;omega)) (by simp)).trans (show _=some (.cells #[.bool neg,.slice a ds.length c] 27 (0,0)) by (repeat first|rw [if_pos (by omega)]|rw [if_neg (by omega)]|rw [hDR]|rw [hDN]|rw [hAz]|rw [hSz]|rw [hAC]|rw [hSC]|rw [oMS]|rw [uPC]|rw [lSZ]|rw [lSS]|rfl))
    have b0:=hEC hb_ 0
    have b1:=hEC hb_ 1
    have bl:=lBk hb_
    have Hb:=Lib.hid hb_
    clear hb_
    have Hf:=Lib.hid (Fr.trans0 (by (repeat first|exact Fr.refl _ _|assumption|apply Fr.n|apply Fr.d|apply Fr.a|refine Fr.s ?_ (.inr (by simp;try omega)) _):Fr [] w _) hf)
    clear hf
    go_wp2_with fail
    refine (Hsh.out _ Hf.out).mono ?_
    rintro e w2 ⟨ra,rc,hlo,rfl,hr,hf⟩
    have Hf:=Lib.hid (Hf.out.trans0 hf)
    have Hr:=Lib.hid hr
    have hdg:=fun w (hf:Fr [] w2 w)=>digit_calls (hr.fr hf) (by have:=HsL.out;omega) 0
    have hx:s.2.1.getD 0 0<4294967296:=HsD.out.getD (by omega) 0
    have Hdg:=Lib.hid hdg
    clear hlo hr hf hdg
    obtain⟨s1,s2,s3⟩:=s
    have Ea:=and_one hx
    have HS2:=HS.out
    simp only at HS2 Ea hx Hdg
    generalize s2.getD 0 0=x at *
    have hx2:x % 2<2:=by omega
    subst HS2
    clear HS HsD HsL
    go_wp2_with fail
    refine (Hdg.out _ (by (repeat first|exact Fr.refl _ _|assumption|apply Fr.n|apply Fr.d|apply Fr.a|refine Fr.s ?_ (.inr (by simp;try omega)) _))).mono ?_
    rintro e w4 ⟨rfl,rfl⟩
    go_wp2
    go_ret
    exact⟨rfl,by have:=Hf.out;(repeat first|exact Fr.refl _ _|assumption|apply Fr.n|apply Fr.d|apply Fr.a|refine Fr.s ?_ (.inr (by simp;try omega)) _)⟩
end Go.Proofs.YtdanghnadbkhfaaGreat
end
section
namespace Go.Proofs.YtdanghnadbkhfaaGreat
open Go Go.RowKit Rg Hp Bn
def BigCall (w:World) (z:Int) (e:Ending) (w':World):Prop:=∃ v,e=.returned (.tuple #[v,.int .i64 0])∧BigZ w' (w.heap.size≤·) v z∧Fr [] w w'
def BigCall1 (w:World) (z:Int) (e:Ending) (w':World):Prop:=∃ v,e=.returned v∧BigZ w' (w.heap.size≤·) v z∧Fr [] w w'
section
variable {w:World} {A B:Nat→Prop} {va vb:Value} {x y:Int}
theorem Add_z (ha:BigZ w A va x) (hb:BigZ w B vb y) (hx:Zok x) (hy:Zok y) (hs:Zok (x+y)):Calls Tryz.prog 88 #[va,vb] w (BigCall w (x+y)):=by
 obtain⟨a,c,rfl,_,_,h3⟩:=ha
 obtain⟨a',c',rfl,_,_,k3⟩:=hb
 refine (Add_calls h3 k3 (zd_dig x) (zd_dig y) (by have:=zd_len hx;omega) (by have:=zd_len hy;omega)).mono ?_
 rw [addS_z hx hy hs]
 rintro e w' ⟨a,c,⟨h1,h2⟩,rfl,h3,hf⟩
 exact⟨_,rfl,⟨a,c,rfl,h1,h2,h3⟩,hf⟩
theorem Compare_z (ha:BigZ w A va x) (hb:BigZ w B vb y) (hx:Zok x) (hy:Zok y):Calls Tryz.prog 53 #[va,vb] w fun e w'=>e=.returned (.int .i64 (cmpI x y))∧Fr [] w w':=by
 obtain⟨a,c,rfl,_,_,h3⟩:=ha
 obtain⟨a',c',rfl,_,_,k3⟩:=hb
 have:=Compare_calls (na:=decide (x<0)) (nb:=decide (y<0)) h3 k3 (zd_dig x) (zd_dig y) (by have:=zd_len hx;omega) (by have:=zd_len hy;omega)
 rwa [cmpS_z hx hy] at this
theorem From_z (h1:-9223372036854775808≤x) (h2:x<9223372036854775808):Calls Tryz.prog 54 #[.int .i64 x] w (BigCall1 w x):=by
 refine (From_calls h1 h2).mono ?_
 rw [fromS_z (zok_int h1 h2)]
 rintro e w' ⟨a,c,⟨h1,h2⟩,rfl,h3,hf⟩
 exact⟨_,rfl,⟨a,c,rfl,h1,h2,h3⟩,hf⟩
theorem Shift_z {n:Nat} (ha:BigZ w A va 1) (hn:n≤2047):Calls Tryz.prog 85 #[va,.int .i64 n] w (BigCall w ((2 ^ n:Nat):Int)):=by
 obtain⟨a,c,rfl,h0,_,h3⟩:=ha
 refine (Shift_calls (neg:=decide ((1:Int)<0)) h3 (zd_dig 1) (by have:=zd_len (z:=1) (zok_int (by omega) (by omega));omega) h0 (by omega) (by omega)).mono ?_
 rw [show decide ((1:Int)<0)=false from rfl,shift_one hn]
 rintro e w' ⟨a,c,⟨h1,h2⟩,rfl,h3,hf⟩
 refine⟨_,rfl,⟨a,c,?_,h1,h2,h3⟩,hf⟩
 rw [decide_eq_false (Int.not_lt.2 (Int.natCast_nonneg _))]
theorem Bit_z {k:Nat} (ha:BigZ w A va x) (hx:Zok x) (h0:0≤x) (hk:k<2048):Calls Tryz.prog 41 #[va,.int .i64 k] w fun e w'=>e=.returned (.int .i64 (x.toNat / 2 ^ k % 2:Nat))∧Fr [] w w':=by
 obtain⟨a,c,rfl,hc,_,h3⟩:=ha
 have:=Bit_calls (neg:=decide (x<0)) (k:=k) h3 (zd_dig x) (by have:=zd_len hx;omega) hc (by omega) (by omega)
 rwa [bitS_z hx h0 hk] at this
end
end Go.Proofs.YtdanghnadbkhfaaGreat
end
