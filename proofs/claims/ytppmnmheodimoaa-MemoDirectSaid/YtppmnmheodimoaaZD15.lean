/- Own texts of this claim, part 16: no condition. -/
import Derived.Lib.MinMax
import Derived.Test.YtppmnmheodimoaaZD14
import Derived.Test.YtppmnmheodimoaaZD13
section
namespace Go.Proofs.Ytppmnmheodimoaa
set_option linter.unusedVariables false
set_option linter.unusedSimpArgs false
open Go Go.RowKit Rg Hp Bn
set_option maxHeartbeats 8000000 in
set_option maxRecDepth 100000 in
theorem RShift_calls {w:World} {neg:Bool} {ds:List Nat} {k:Int} {a:Option Addr} {c:Nat} (hv:Reads w (.slice a ds.length c) ds.length 1 (u32s ds)) (hD:Dig 4294967296 ds) (hl:ds.length≤10000) (hk1:-9223372036854775808≤k) (hk2:k<9223372036854775808) :
  Calls Try.prog 93 #[.agg #[.bool neg,.slice a ds.length c],.int .i64 k] w (BigPost w (w.heap.size≤·) (shiftS neg ds k)):=by
 have hra:=fun w1 (hf:Fr [] w w1)=>RRight_calls (neg:=neg) (hv.fr hf) (by omega)
 have hby:=fun w1 (hf:Fr [] w w1)=>bytes_calls (neg:=neg) (hv.fr hf) hD (by omega)
 obtain⟨r,hS⟩:∃ r,r=shiftS neg ds k:=⟨_,rfl⟩
 rw [← hS]
 unfold shiftS at hS
 cases hR1:RightB neg ds with
 | false =>
  rw [hR1] at hS hra
  simp only [if_true] at hS
  subst hS
  have Hra:=Lib.hid hra
  clear hR1 hra hby hv
  go_enter Try.func93,Try.ntmps93
  go_wp2_with fail
  refine (Hra.out _ (by (repeat first|exact Fr.refl _ _|assumption|apply Fr.n|apply Fr.d|apply Fr.a|refine Fr.s ?_ (.inr (by simp;try omega)) _))).mono ?_
  rintro e w1 ⟨rfl,hf⟩
  have ha_:=(hf.block (w.heap.size) (by first|(simp;done)|(simp;omega)) (by simp)).trans (show _=some (.cells #[.bool neg,.slice a ds.length c] 114 (0,0)) by (repeat first|rw [if_pos (by omega)]|rw [if_neg (by omega)]|rw [hDR]|rw [hDN]|rw [hAz]|rw [hSz]|rw [hAC]|rw [hSC]|rw [oMS]|rw [uPC]|rw [lSZ]|rw [lSS]|rfl))
  have a0:=hEC ha_ 0
  have a1:=hEC ha_ 1
  have al:=lBk ha_
  have Ha:=Lib.hid ha_
  clear ha_
  have hc_:=(hf.block (w.heap.size+1) (by first|(simp;done)|(simp;omega)) (by simp)).trans (show _=some (.cells #[.bool false,.slice none 0 0] 114 (0,0)) by (repeat first|rw [if_pos (by omega)]|rw [if_neg (by omega)]|rw [hDR]|rw [hDN]|rw [hAz]|rw [hSz]|rw [hAC]|rw [hSC]|rw [oMS]|rw [uPC]|rw [lSZ]|rw [lSS]|rfl))
  have c0:=hEC hc_ 0
  have c0z:=hEF hc_ 0
  have c1:=hEC hc_ 1
  have c1z:=hEF hc_ 1
  have cl:=lBk hc_
  have Hc:=Lib.hid hc_
  clear hc_
  have Hf:=Lib.hid (Fr.trans0 (by (repeat first|exact Fr.refl _ _|assumption|apply Fr.n|apply Fr.d|apply Fr.a|refine Fr.s ?_ (.inr (by simp;try omega)) _):Fr [] w _) hf)
  clear hf
  go_wp2
  (try simp only [Exit.inBlock,Exit.then])
  refine bodyPost_ret (bRS rfl (b:=w.heap.size+1) (x:=.bool false) (y:=.slice none 0 0) rfl ?_ rfl) rfl ⟨_,_,⟨Nat.le_refl _,fun g hg=>(by cases hg)⟩,rfl,reads_nil _,?_⟩
  ·have h:=Hc.out
   (repeat first|rw [if_pos (by omega)]|rw [if_neg (by omega)]|rw [hDR]|rw [hDN]|rw [hAz]|rw [hSz]|rw [hAC]|rw [hSC]|rw [oMS]|rw [uPC]|rw [lSZ]|rw [lSS]|rfl)
   rw [h]
   (repeat first|rw [if_pos (by omega)]|rw [if_neg (by omega)]|rw [hDR]|rw [hDN]|rw [hAz]|rw [hSz]|rw [hAC]|rw [hSC]|rw [oMS]|rw [uPC]|rw [lSZ]|rw [lSS]|rfl)
  ·exact (Hf.out.setCell (.inr (by simp;try omega)) _).setCell (.inr (by simp;try omega)) _
 | true =>
  obtain⟨cA,lA,nA⟩:=right_canon hR1
  rw [hR1] at hS hra
  simp only [Bool.true_eq_false,if_false] at hS
  obtain⟨V,hV⟩:∃ V,val 4294967296 ds=V:=⟨_,rfl⟩
  have hV48:V<2 ^ 2048:=by
   rw [← hV]
   exact Nat.lt_of_lt_of_le (val_lt hD) (pow_two_le (n:=ds.length) (m:=2048) (by omega))
  have hVp:ds.length≠0→0<V:=fun h=>by rw [← hV];exact canon_pos (by omega) cA (fun e=>h (by rw [e];rfl))
  have hV0:ds.length=0→V=0∧neg=false:=fun h=>by
   have h2:=List.eq_nil_of_length_eq_zero h
   exact⟨by rw [← hV,h2];rfl,nA h2⟩
  have hVN':V<256 ^ (4*ds.length):=by rw [← hV,pow256];exact val_lt hD
  obtain⟨X,hX⟩:∃ X,dg 256 V=X:=⟨_,rfl⟩
  have hXV:val 256 X=V:=by rw [← hX];exact val_dg (by omega) V
  have hXD:Dig 256 X:=by rw [← hX];exact dg_dig (by omega) V
  have hXl:X.length≤256:=by rw [← hX,dg_length_le (by omega)];exact Nat.lt_of_lt_of_le hVN' (Nat.pow_le_pow_right (by omega) (by omega))
  have hVN:V<2 ^ (8*X.length):=by rw [Nat.pow_mul,← hXV];exact val_lt hXD
  obtain⟨N,hNe⟩:∃ N,8*X.length=N:=⟨_,rfl⟩
  have EN:((8:Int)*X.length)=(N:Nat):=by omega
  have hN:N≤2048:=by omega
  rw [hNe] at hVN
  rw [hV] at hS hby
  rw [hX] at hby
  have Hra:=Lib.hid hra
  have Hby:=Lib.hid hby
  have HXV:=Lib.hid hXV
  have HXD:=Lib.hid hXD
  have HVN:=Lib.hid hVN
  clear hra hby hXV hXD hVN hX hR1 cA nA hv hV hVN' hNe
  obtain⟨K,hK⟩:∃ K:Int,max (min k 2056) (-2056)=K:=⟨_,rfl⟩
  have hK1:-2056≤K:=by omega
  have hK2:K≤2056:=by omega
  by_cases h0:ds.length=0
  ·rw [if_pos h0] at hS
   have HS:Hid (r=mkN neg (shV neg V K.toNat (-K).toNat)):=Lib.hid (by rw [hS,(hV0 h0).1,(hV0 h0).2];unfold shV mkN;simp)
   have hdl:decide ((0:Int)<ds.length)=false:=by rw [decide_eq_false_iff_not];omega
   have hdl2:decide (0<ds.length)=false:=by rw [decide_eq_false_iff_not];omega
   by_cases hbig1:2056<k
   ·have hd3:decide ((2056:Int)<k)=true:=by simpa using hbig1
    clear hbig1
    clear hVp hV0 hV48 hS h0
    go_enter Try.func93,Try.ntmps93
    go_wp2_with fail
    refine (Hra.out _ (by (repeat first|exact Fr.refl _ _|assumption|apply Fr.n|apply Fr.d|apply Fr.a|refine Fr.s ?_ (.inr (by simp;try omega)) _))).mono ?_
    rintro e w1 ⟨rfl,hf⟩
    have ha_:=(hf.block (w.heap.size) (by first|(simp;done)|(simp;omega)) (by simp)).trans (show _=some (.cells #[.bool neg,.slice a ds.length c] 114 (0,0)) by (repeat first|rw [if_pos (by omega)]|rw [if_neg (by omega)]|rw [hDR]|rw [hDN]|rw [hAz]|rw [hSz]|rw [hAC]|rw [hSC]|rw [oMS]|rw [uPC]|rw [lSZ]|rw [lSS]|rfl))
    have a0:=hEC ha_ 0
    have a1:=hEC ha_ 1
    have al:=lBk ha_
    have Ha:=Lib.hid ha_
    clear ha_
    have hc_:=(hf.block (w.heap.size+1) (by first|(simp;done)|(simp;omega)) (by simp)).trans (show _=some (.cells #[.bool false,.slice none 0 0] 114 (0,0)) by (repeat first|rw [if_pos (by omega)]|rw [if_neg (by omega)]|rw [hDR]|rw [hDN]|rw [hAz]|rw [hSz]|rw [hAC]|rw [hSC]|rw [oMS]|rw [uPC]|rw [lSZ]|rw [lSS]|rfl))
    have c0:=hEC hc_ 0
    have c0z:=hEF hc_ 0
    have c1:=hEC hc_ 1
    have c1z:=hEF hc_ 1
    have cl:=lBk hc_
    have Hc:=Lib.hid hc_
    clear hc_
    have Hf:=Lib.hid (Fr.trans0 (by (repeat first|exact Fr.refl _ _|assumption|apply Fr.n|apply Fr.d|apply Fr.a|refine Fr.s ?_ (.inr (by simp;try omega)) _):Fr [] w _) hf)
    clear hf
    go_wp2_with fail
    refine (Hby.out _ Hf.out).mono ?_
    rintro e w3 ⟨xa,xc,hlo,rfl,hr,hf⟩
    (try clear a0)
    (try clear a1)
    (try clear al)
    have ha_:=(hf.block _ (lBk Ha.out) (by simp)).trans Ha.out
    clear Ha
    have a0:=hEC ha_ 0
    have a1:=hEC ha_ 1
    have al:=lBk ha_
    have Ha:=Lib.hid ha_
    clear ha_
    (try clear c0)
    (try clear c1)
    (try clear c0z)
    (try clear c1z)
    (try clear cl)
    have hc_:=(hf.block _ (lBk Hc.out) (by simp)).trans Hc.out
    clear Hc
    have c0:=hEC hc_ 0
    have c0z:=hEF hc_ 0
    have c1:=hEC hc_ 1
    have c1z:=hEF hc_ 1
    have cl:=lBk hc_
    have Hc:=Lib.hid hc_
    clear hc_
    have Hf:=Lib.hid (Hf.out.trans0 hf)
    have Hxc:=Lib.hid hlo.1
    have hw23:w.heap.size+1<w3.heap.size:=lBk Hc.out
    have Hw23:=Lib.hid hw23
    have Hbt:=Lib.hid (fun w1 (hf1:Fr [] w3 w1) i (hi:i≤100000000)=>HXV.out▸bit_calls (hr.fr hf1) HXD.out (by omega) i (by omega))
    clear hf hlo hr hw23 a0 a1 al c0 c1 c0z c1z cl
    obtain⟨p,hp⟩:∃ p,K.toNat=p:=⟨_,rfl⟩
    obtain⟨m,hm⟩:∃ m,(-K).toNat=m:=⟨_,rfl⟩
    rw [hp,hm] at HS
    have hp1:p≤2056:=by omega
    have hm1:m≤2056:=by omega
    have hcp:∀ i:Nat,decide ((i:Int)<K)=decide (i<p):=fun i=>by rw [decide_eq_decide];omega
    have hcm:∀ i:Nat,decide ((i:Int) < -K)=decide (i<m):=fun i=>by rw [decide_eq_decide];omega
    have Hcp:=Lib.hid hcp
    have Hcm:=Lib.hid hcm
    clear hp hm hcp hcm
    go_wp2_with fail
    go_loopw [7,8] (fun x7 x8 wl=>∃ i:Nat,x8=.int .i64 i∧i≤p∧wl.ownsRow w3.heap.size 3 1 x7 i (i64s (List.replicate i 0))∧Fr [] w3 wl) (fun _ x8 _=>p - (intOf x8).toNat)
    case atStart=>exact⟨0,rfl,by omega,World.ownsRow_nil _ _ _ _,Fr.refl _ _⟩
    case round =>
     obtain⟨i,rfl,hi,ho,hf⟩:=hrel
     obtain⟨oa,oc,rfl,hoa,hon⟩:=oFM ho
     have Ho:=Lib.hid ho
     have Hf3:=Lib.hid hf
     have hc1:=Hcp.out i
     clear hoa hon ho hf
     by_cases hip:i<p
     ·rw [decide_eq_true hip] at hc1
      go_wp2_with (at_builtin;refine append_i64 (n:=i) (base:=w3.heap.size) (xs:=(i64s (List.replicate i 0))) (y:=(0:Int)) rfl rfl rfl ?e1 rfl ?e2 ?e3 ?e4 ?_)
      case e1=>exact oOB Ho.out fun y hy=>hAE _ _ _ (oLT Ho.out hy)
      case e2=>first|(first|(rw [hAC,if_pos rfl];done)|exact (Array.getElem?_eq_some_iff.1 ((hAC _ _ _).trans (if_pos rfl))).2|(simp only [hDR,hDN];rw [hAC,if_pos rfl];done))|(repeat first|rw [if_pos (by omega)]|rw [if_neg (by omega)]|rw [hDR]|rw [hDN]|rw [hAz]|rw [hSz]|rw [hAC]|rw [hSC]|rw [oMS]|rw [uPC]|rw [lSZ]|rw [lSS]|rfl)
      case e3=>omega
      case e4=>have:=Hf3.out.size;(first|omega|(simp only [hDR,hDN,hAz];omega)|(simp;omega))
      intro g2 cap w9 hown1 hW1 hF1 hloc1 hg1
      rw [i64s_snoc0] at hown1
      have Hown1:=Lib.hid hown1
      have Hf9:=Lib.hid (fr_append Hf3.out Ho.out hF1)
      clear hown1 hW1 hF1 hloc1
      rw [← List.replicate_succ'] at Hown1
      go_wp2
      go_roundw
      case rel=>exact⟨i+1,by go_num,by omega,Hown1.out,Hf9.out⟩
      case measure=>simp [intOf];omega
     ·obtain rfl:i=p:=by omega
      rw [decide_eq_false hip] at hc1
      obtain⟨wo,rfl⟩:∃ wo:World,wo=wr:=⟨_,rfl⟩
      go_wp2_with fail
      clear hc1
      go_loopw [7,9,10] (fun x7 x9 x10 wl=>∃ (k:Nat) (lost:Bool) (l:List Nat),x9=.bool lost∧x10=.int .i64 k∧k≤N∧l.length=i+(k - m)∧Dig 2 l∧val 2 l=2 ^ i*(V % 2 ^ k / 2 ^ m)∧lost=decide (V % 2 ^ (min k m)≠0)∧wl.ownsRow w3.heap.size 3 1 x7 l.length (i64s l)∧Fr [] w3 wl) (fun _ _ x10 _=>N - (intOf x10).toNat)
      case atStart=>exact⟨0,false,List.replicate i 0,rfl,rfl,by omega,by simp,Dig.replicate (by omega) i,by rw [val_replicate];simp [Nat.mod_one],by simp [Nat.mod_one],by rw [List.length_replicate];exact Ho.out,Hf3.out⟩
      case round =>
       obtain⟨k,lost,l,rfl,rfl,hk,hll,hDl,hvl,hlost,ho,hf⟩:=hrel
       obtain⟨oa,oc,rfl,hoa,hon⟩:=oFM ho
       have Ho2:=Lib.hid ho
       have Hf2:=Lib.hid hf
       have Hll:=Lib.hid hll
       have HDl:=Lib.hid hDl
       have Hvl:=Lib.hid hvl
       have Hlost:=Lib.hid hlost
       clear hoa hon ho hf hll hDl hvl hlost
       by_cases hkN:k<N
       ·have hcm:=Hcm.out k
        obtain⟨b,hb⟩:∃ b,V / 2 ^ k % 2=b:=⟨_,rfl⟩
        have hb2:b<2:=by omega
        have Hbk:=Lib.hid (fun w1 hf=>hb▸Hbt.out w1 hf k (by omega))
        have Hb:=Lib.hid hb
        clear hb
        by_cases hkm:k<m
        ·rw [decide_eq_true hkm] at hcm
         have hz1:V % 2 ^ k / 2 ^ m=0:=Nat.div_eq_of_lt (Nat.lt_of_lt_of_le (Nat.mod_lt _ (Nat.pow_pos (by omega))) (Nat.pow_le_pow_right (by omega) (by omega)))
         have hz2:V % 2 ^ (k+1) / 2 ^ m=0:=Nat.div_eq_of_lt (Nat.lt_of_lt_of_le (Nat.mod_lt _ (Nat.pow_pos (by omega))) (Nat.pow_le_pow_right (by omega) (by omega)))
         have hvl2:val 2 l=2 ^ i*(V % 2 ^ (k+1) / 2 ^ m):=by rw [Hvl.out,hz1,hz2]
         have hl2:decide (V % 2 ^ (min (k+1) m)≠0)=(lost || decide (b=1)):=by
          rw [Hlost.out,show min (k+1) m=k+1 by omega,show min k m=k by omega,← Bool.decide_or,decide_eq_decide,lost_step,Hb.out]
         have Hvl2:=Lib.hid hvl2
         have Hl2:=Lib.hid hl2
         clear hz1 hz2 hvl2 hl2
         cases lost
         ·obtain⟨bb,hbb⟩:∃ bb,decide (b=1)=bb:=⟨_,rfl⟩
          have hb1:((b:Int) == 1)=bb:=by rw [← hbb,Bool.eq_iff_iff,beq_iff_eq,decide_eq_true_eq];omega
          have Hbb:=Lib.hid hbb
          clear hbb
          go_wp2_with fail
          refine (Hbk.out _ Hf2.out).mono ?_
          rintro e w5 ⟨rfl,rfl⟩
          go_wp2
          go_roundw
          case rel=>exact⟨k+1,bb,l,rfl,by go_num,by omega,by have:=Hll.out;omega,HDl.out,Hvl2.out,by have h:=Hl2.out;rw [Hbb.out,Bool.false_or] at h;exact h.symm,Ho2.out,Hf2.out⟩
          case measure=>simp [intOf];omega
         ·go_wp2_with fail
          go_roundw
          case rel=>exact⟨k+1,true,l,rfl,by go_num,by omega,by have:=Hll.out;omega,HDl.out,Hvl2.out,by have h:=Hl2.out;rw [Bool.true_or] at h;exact h.symm,Ho2.out,Hf2.out⟩
          case measure=>simp [intOf];omega
        ·rw [decide_eq_false hkm] at hcm
         go_wp2_with fail
         refine (Hbk.out _ Hf2.out).mono ?_
         rintro e w5 ⟨rfl,rfl⟩
         go_wp2_with (at_builtin;refine append_i64 (n:=l.length) (base:=w3.heap.size) (xs:=(i64s l)) (y:=(b:Int)) rfl rfl rfl ?e1 rfl ?e2 ?e3 ?e4 ?_)
         case e1=>exact oOB Ho2.out fun y hy=>hAE _ _ _ (oLT Ho2.out hy)
         case e2=>first|(first|(rw [hAC,if_pos rfl];done)|exact (Array.getElem?_eq_some_iff.1 ((hAC _ _ _).trans (if_pos rfl))).2|(simp only [hDR,hDN];rw [hAC,if_pos rfl];done))|(repeat first|rw [if_pos (by omega)]|rw [if_neg (by omega)]|rw [hDR]|rw [hDN]|rw [hAz]|rw [hSz]|rw [hAC]|rw [hSC]|rw [oMS]|rw [uPC]|rw [lSZ]|rw [lSS]|rfl)
         case e3=>(have:=Hll.out;omega)
         case e4=>have:=Hf2.out.size;(first|omega|(simp only [hDR,hDN,hAz];omega)|(simp;omega))
         intro g2 cap w9 hown1 hW1 hF1 hloc1 hg1
         rw [i64s_snoc] at hown1
         have Hown1:=Lib.hid hown1
         have Hf9:=Lib.hid (fr_append Hf2.out Ho2.out hF1)
         clear hown1 hW1 hF1 hloc1
         go_wp2
         go_roundw
         case rel =>
          refine⟨k+1,lost,l++[b],rfl,by go_num,by omega,by rw [List.length_append,Hll.out,List.length_singleton];omega,HDl.out.append (fun z hz=>by rw [List.mem_singleton] at hz;omega),?_,by rw [Hlost.out,show min (k+1) m=min k m by omega],by rw [List.length_append];exact Hown1.out,Hf9.out⟩
          rw [val_snoc,Hvl.out,Hll.out,drop_step (by omega),Hb.out,Nat.mul_add,Nat.pow_add,Nat.mul_assoc]
         case measure=>simp [intOf];omega
       ·obtain rfl:k=N:=by omega
        have hVk:V % 2 ^ k=V:=Nat.mod_eq_of_lt HVN.out
        have hlost2:decide (V % 2 ^ m≠0)=lost:=by
         rw [Hlost.out]
         rcases Nat.lt_or_ge m k with h|h
         ·rw [show min k m=m by omega]
         ·rw [show min k m=k by omega,hVk,Nat.mod_eq_of_lt (Nat.lt_of_lt_of_le HVN.out (Nat.pow_le_pow_right (by omega) h))]
        have hof:=ofBits_calls (Reads.of_owns Ho2.out) HDl.out (by have:=Hll.out;omega)
        rw [Hvl.out,hVk] at hof
        have hS:=HS.out
        unfold shV at hS
        rw [hlost2] at hS
        obtain⟨W,hW⟩:∃ W,2 ^ i*(V / 2 ^ m)=W:=⟨_,rfl⟩
        rw [hW] at hS hof
        obtain⟨O,hO⟩:∃ O,dg 256 W=O:=⟨_,rfl⟩
        have hOl:O.length≤1000:=by
         rw [← hO,dg_length_le (by omega),← hW]
         have h1:V / 2 ^ m≤V:=Nat.div_le_self _ _
         exact big_256 (i:=i) (k:=k) (x:=V / 2 ^ m) (a:=2056) (b:=2048) (c:=1000) (by omega) hN (Nat.lt_of_le_of_lt h1 HVN.out)
        have hOV:val 256 O=W:=by rw [← hO];exact val_dg (by omega) W
        have hOD:Dig 256 O:=by rw [← hO];exact dg_dig (by omega) W
        rw [hO] at hof
        have Hof:=Lib.hid hof
        have HS2:=Lib.hid hS
        have HOV:=Lib.hid hOV
        have HOD:=Lib.hid hOD
        have Hfw:=Lib.hid (Hf2.out)
        clear hVk hlost2 hof hS hW hO hOV hOD
        go_wp2_with fail
        refine Hof.out.mono ?_
        rintro e w6 ⟨ra,rc,hlo,rfl,hr,hf⟩
        have hf36:Fr [] w3 w6:=Hf2.out.trans0 hf
        (try clear a0)
        (try clear a1)
        (try clear al)
        have ha_:=(hf36.block _ (lBk Ha.out) (by simp)).trans Ha.out
        clear Ha
        have a0:=hEC ha_ 0
        have a1:=hEC ha_ 1
        have al:=lBk ha_
        have Ha:=Lib.hid ha_
        clear ha_
        (try clear c0)
        (try clear c1)
        (try clear c0z)
        (try clear c1z)
        (try clear cl)
        have hc_:=(hf36.block _ (lBk Hc.out) (by simp)).trans Hc.out
        clear Hc
        have c0:=hEC hc_ 0
        have c0z:=hEF hc_ 0
        have c1:=hEC hc_ 1
        have c1z:=hEF hc_ 1
        have cl:=lBk hc_
        have Hc:=Lib.hid hc_
        clear hc_
        have Hf:=Lib.hid (Hf.out.trans0 hf36)
        have Hr:=Lib.hid hr
        have Hrc:=Lib.hid hlo.1
        have Hw6:=Lib.hid (show w.heap.size+1<w6.heap.size by have:=Hw23.out;have:=hf36.size;omega)
        clear hf hf36 hr hlo
        cases neg<;>cases lost
        ·
         have hS:=HS2.out
         simp only [Bool.and_self,Bool.false_and,Bool.and_false,Bool.false_eq_true,if_false,Nat.add_zero] at hS
         have hbg:=big_calls (neg:=false) Hr.out HOD.out (by omega) Hrc.out
         rw [HOV.out,← hS] at hbg
         have Hbg:=Lib.hid hbg
         clear hS HS2 hbg
         go_wp2_with fail
         refine Hbg.out.mono ?_
         rintro e w8 ⟨ra,rc,hlo,rfl,hr,hf⟩
         (try clear c0)
         (try clear c1)
         (try clear c0z)
         (try clear c1z)
         (try clear cl)
         have hc_:=(hf.block _ (lBk Hc.out) (by simp)).trans Hc.out
         clear Hc
         have c0:=hEC hc_ 0
         have c0z:=hEF hc_ 0
         have c1:=hEC hc_ 1
         have c1z:=hEF hc_ 1
         have cl:=lBk hc_
         have Hc:=Lib.hid hc_
         clear hc_
         have Hf:=Lib.hid (Hf.out.trans0 hf)
         have Hlo:=Lib.hid hlo
         have Hr:=Lib.hid hr
         clear hlo hr hf
         (try clear a0 a1 al)
         obtain⟨r1,r2,r3⟩:=r
         go_wp2
         (try simp only [Exit.inBlock,Exit.then])
         refine bodyPost_ret (bRS rfl (b:=w.heap.size+1) (x:=.bool r1) (y:=.slice ra r2.length rc) rfl ?_ rfl) rfl ⟨_,_,⟨Hlo.out.1,fun g hg=>(by have:=Hlo.out.2 g hg;have:=Hw6.out;omega)⟩,rfl,?_,?_⟩
         ·have h:=Hc.out
          (repeat first|rw [if_pos (by omega)]|rw [if_neg (by omega)]|rw [hDR]|rw [hDN]|rw [hAz]|rw [hSz]|rw [hAC]|rw [hSC]|rw [oMS]|rw [uPC]|rw [lSZ]|rw [lSS]|rfl)
          rw [h]
          (repeat first|rw [if_pos (by omega)]|rw [if_neg (by omega)]|rw [hDR]|rw [hDN]|rw [hAz]|rw [hSz]|rw [hAC]|rw [hSC]|rw [oMS]|rw [uPC]|rw [lSZ]|rw [lSS]|rfl)
         ·refine Hr.out.keep fun x hx hl=>?_
          have:=Hlo.out.2 x hx
          have:=Hw6.out
          rw [sCE _ _ _ (by simp;omega),sCE _ _ _ (by simp;omega)]
         ·exact (Hf.out.setCell (.inr (by simp;try omega)) _).setCell (.inr (by simp;try omega)) _
        ·
         have hS:=HS2.out
         simp only [Bool.and_self,Bool.false_and,Bool.and_false,Bool.false_eq_true,if_false,Nat.add_zero] at hS
         have hbg:=big_calls (neg:=false) Hr.out HOD.out (by omega) Hrc.out
         rw [HOV.out,← hS] at hbg
         have Hbg:=Lib.hid hbg
         clear hS HS2 hbg
         go_wp2_with fail
         refine Hbg.out.mono ?_
         rintro e w8 ⟨ra,rc,hlo,rfl,hr,hf⟩
         (try clear c0)
         (try clear c1)
         (try clear c0z)
         (try clear c1z)
         (try clear cl)
         have hc_:=(hf.block _ (lBk Hc.out) (by simp)).trans Hc.out
         clear Hc
         have c0:=hEC hc_ 0
         have c0z:=hEF hc_ 0
         have c1:=hEC hc_ 1
         have c1z:=hEF hc_ 1
         have cl:=lBk hc_
         have Hc:=Lib.hid hc_
         clear hc_
         have Hf:=Lib.hid (Hf.out.trans0 hf)
         have Hlo:=Lib.hid hlo
         have Hr:=Lib.hid hr
         clear hlo hr hf
         (try clear a0 a1 al)
         obtain⟨r1,r2,r3⟩:=r
         go_wp2
         (try simp only [Exit.inBlock,Exit.then])
         refine bodyPost_ret (bRS rfl (b:=w.heap.size+1) (x:=.bool r1) (y:=.slice ra r2.length rc) rfl ?_ rfl) rfl ⟨_,_,⟨Hlo.out.1,fun g hg=>(by have:=Hlo.out.2 g hg;have:=Hw6.out;omega)⟩,rfl,?_,?_⟩
         ·have h:=Hc.out
          (repeat first|rw [if_pos (by omega)]|rw [if_neg (by omega)]|rw [hDR]|rw [hDN]|rw [hAz]|rw [hSz]|rw [hAC]|rw [hSC]|rw [oMS]|rw [uPC]|rw [lSZ]|rw [lSS]|rfl)
          rw [h]
          (repeat first|rw [if_pos (by omega)]|rw [if_neg (by omega)]|rw [hDR]|rw [hDN]|rw [hAz]|rw [hSz]|rw [hAC]|rw [hSC]|rw [oMS]|rw [uPC]|rw [lSZ]|rw [lSS]|rfl)
         ·refine Hr.out.keep fun x hx hl=>?_
          have:=Hlo.out.2 x hx
          have:=Hw6.out
          rw [sCE _ _ _ (by simp;omega),sCE _ _ _ (by simp;omega)]
         ·exact (Hf.out.setCell (.inr (by simp;try omega)) _).setCell (.inr (by simp;try omega)) _
        ·
         have hS:=HS2.out
         simp only [Bool.and_self,Bool.false_and,Bool.and_false,Bool.false_eq_true,if_false,Nat.add_zero] at hS
         have hbg:=big_calls (neg:=true) Hr.out HOD.out (by omega) Hrc.out
         rw [HOV.out,← hS] at hbg
         have Hbg:=Lib.hid hbg
         clear hS HS2 hbg
         go_wp2_with fail
         refine Hbg.out.mono ?_
         rintro e w8 ⟨ra,rc,hlo,rfl,hr,hf⟩
         (try clear c0)
         (try clear c1)
         (try clear c0z)
         (try clear c1z)
         (try clear cl)
         have hc_:=(hf.block _ (lBk Hc.out) (by simp)).trans Hc.out
         clear Hc
         have c0:=hEC hc_ 0
         have c0z:=hEF hc_ 0
         have c1:=hEC hc_ 1
         have c1z:=hEF hc_ 1
         have cl:=lBk hc_
         have Hc:=Lib.hid hc_
         clear hc_
         have Hf:=Lib.hid (Hf.out.trans0 hf)
         have Hlo:=Lib.hid hlo
         have Hr:=Lib.hid hr
         clear hlo hr hf
         (try clear a0 a1 al)
         obtain⟨r1,r2,r3⟩:=r
         go_wp2
         (try simp only [Exit.inBlock,Exit.then])
         refine bodyPost_ret (bRS rfl (b:=w.heap.size+1) (x:=.bool r1) (y:=.slice ra r2.length rc) rfl ?_ rfl) rfl ⟨_,_,⟨Hlo.out.1,fun g hg=>(by have:=Hlo.out.2 g hg;have:=Hw6.out;omega)⟩,rfl,?_,?_⟩
         ·have h:=Hc.out
          (repeat first|rw [if_pos (by omega)]|rw [if_neg (by omega)]|rw [hDR]|rw [hDN]|rw [hAz]|rw [hSz]|rw [hAC]|rw [hSC]|rw [oMS]|rw [uPC]|rw [lSZ]|rw [lSS]|rfl)
          rw [h]
          (repeat first|rw [if_pos (by omega)]|rw [if_neg (by omega)]|rw [hDR]|rw [hDN]|rw [hAz]|rw [hSz]|rw [hAC]|rw [hSC]|rw [oMS]|rw [uPC]|rw [lSZ]|rw [lSS]|rfl)
         ·refine Hr.out.keep fun x hx hl=>?_
          have:=Hlo.out.2 x hx
          have:=Hw6.out
          rw [sCE _ _ _ (by simp;omega),sCE _ _ _ (by simp;omega)]
         ·exact (Hf.out.setCell (.inr (by simp;try omega)) _).setCell (.inr (by simp;try omega)) _
        ·have hS:=HS2.out
         simp only [Bool.and_self,if_true] at hS
         have HS3:=Lib.hid hS
         clear hS HS2
         go_wp2_with fail
         refine (rplus_calls (Hr.out.fr (by (repeat first|exact Fr.refl _ _|assumption|apply Fr.n|apply Fr.d|apply Fr.a|refine Fr.s ?_ (.inr (by simp;try omega)) _))) (reads_blk (cs:=i64s [1]) (by (repeat first|rw [if_pos (by omega)]|rw [if_neg (by omega)]|rw [hDR]|rw [hDN]|rw [hAz]|rw [hSz]|rw [hAC]|rw [hSC]|rw [oMS]|rw [uPC]|rw [lSZ]|rw [lSS]|rfl)) rfl) HOD.out (db:=[1]) (fun x hx=>by simp at hx;omega) (by omega) (by simp)).mono ?_
         rintro e w7 ⟨L,hLD,hLV,hLl,la,lc,hlo,rfl,hr,hf0⟩
         have hf:Fr [] w6 w7:=Fr.trans0 (by (repeat first|exact Fr.refl _ _|assumption|apply Fr.n|apply Fr.d|apply Fr.a|refine Fr.s ?_ (.inr (by simp;try omega)) _)) hf0
         (try clear a0)
         (try clear a1)
         (try clear al)
         have ha_:=(hf.block _ (lBk Ha.out) (by simp)).trans Ha.out
         clear Ha
         have a0:=hEC ha_ 0
         have a1:=hEC ha_ 1
         have al:=lBk ha_
         have Ha:=Lib.hid ha_
         clear ha_
         (try clear c0)
         (try clear c1)
         (try clear c0z)
         (try clear c1z)
         (try clear cl)
         have hc_:=(hf.block _ (lBk Hc.out) (by simp)).trans Hc.out
         clear Hc
         have c0:=hEC hc_ 0
         have c0z:=hEF hc_ 0
         have c1:=hEC hc_ 1
         have c1z:=hEF hc_ 1
         have cl:=lBk hc_
         have Hc:=Lib.hid hc_
         clear hc_
         have Hf:=Lib.hid (Hf.out.trans0 hf)
         rw [HOV.out,show val 256 [1]=1 by rfl] at hLV
         have hbg:=big_calls (neg:=true) hr hLD (by simp at hLl;omega) hlo.1
         rw [hLV,← HS3.out] at hbg
         have Hbg:=Lib.hid hbg
         have Hw7:=Lib.hid (show w.heap.size+1<w7.heap.size by have:=Hw6.out;have:=hf.size;omega)
         clear hf hf0 hr hlo hLD hLV hLl hbg
         go_wp2_with fail
         refine Hbg.out.mono ?_
         rintro e w8 ⟨ra,rc,hlo,rfl,hr,hf⟩
         (try clear c0)
         (try clear c1)
         (try clear c0z)
         (try clear c1z)
         (try clear cl)
         have hc_:=(hf.block _ (lBk Hc.out) (by simp)).trans Hc.out
         clear Hc
         have c0:=hEC hc_ 0
         have c0z:=hEF hc_ 0
         have c1:=hEC hc_ 1
         have c1z:=hEF hc_ 1
         have cl:=lBk hc_
         have Hc:=Lib.hid hc_
         clear hc_
         have Hf:=Lib.hid (Hf.out.trans0 hf)
         have Hlo:=Lib.hid hlo
         have Hr:=Lib.hid hr
         clear hlo hr hf
         (try clear a0 a1 al)
         obtain⟨r1,r2,r3⟩:=r
         go_wp2
         (try simp only [Exit.inBlock,Exit.then])
         refine bodyPost_ret (bRS rfl (b:=w.heap.size+1) (x:=.bool r1) (y:=.slice ra r2.length rc) rfl ?_ rfl) rfl ⟨_,_,⟨Hlo.out.1,fun g hg=>(by have:=Hlo.out.2 g hg;have:=Hw7.out;omega)⟩,rfl,?_,?_⟩
         ·have h:=Hc.out
          (repeat first|rw [if_pos (by omega)]|rw [if_neg (by omega)]|rw [hDR]|rw [hDN]|rw [hAz]|rw [hSz]|rw [hAC]|rw [hSC]|rw [oMS]|rw [uPC]|rw [lSZ]|rw [lSS]|rfl)
          rw [h]
          (repeat first|rw [if_pos (by omega)]|rw [if_neg (by omega)]|rw [hDR]|rw [hDN]|rw [hAz]|rw [hSz]|rw [hAC]|rw [hSC]|rw [oMS]|rw [uPC]|rw [lSZ]|rw [lSS]|rfl)
         ·refine Hr.out.keep fun x hx hl=>?_
          have:=Hlo.out.2 x hx
          have:=Hw7.out
          rw [sCE _ _ _ (by simp;omega),sCE _ _ _ (by simp;omega)]
         ·exact (Hf.out.setCell (.inr (by simp;try omega)) _).setCell (.inr (by simp;try omega)) _
   ·have hd3:decide ((2056:Int)<k)=false:=by rw [decide_eq_false_iff_not];omega
    clear hbig1
    clear hVp hV0 hV48 hS h0
    go_enter Try.func93,Try.ntmps93
    go_wp2_with fail
    refine (Hra.out _ (by (repeat first|exact Fr.refl _ _|assumption|apply Fr.n|apply Fr.d|apply Fr.a|refine Fr.s ?_ (.inr (by simp;try omega)) _))).mono ?_
    rintro e w1 ⟨rfl,hf⟩
    have ha_:=(hf.block (w.heap.size) (by first|(simp;done)|(simp;omega)) (by simp)).trans (show _=some (.cells #[.bool neg,.slice a ds.length c] 114 (0,0)) by (repeat first|rw [if_pos (by omega)]|rw [if_neg (by omega)]|rw [hDR]|rw [hDN]|rw [hAz]|rw [hSz]|rw [hAC]|rw [hSC]|rw [oMS]|rw [uPC]|rw [lSZ]|rw [lSS]|rfl))
    have a0:=hEC ha_ 0
    have a1:=hEC ha_ 1
    have al:=lBk ha_
    have Ha:=Lib.hid ha_
    clear ha_
    have hc_:=(hf.block (w.heap.size+1) (by first|(simp;done)|(simp;omega)) (by simp)).trans (show _=some (.cells #[.bool false,.slice none 0 0] 114 (0,0)) by (repeat first|rw [if_pos (by omega)]|rw [if_neg (by omega)]|rw [hDR]|rw [hDN]|rw [hAz]|rw [hSz]|rw [hAC]|rw [hSC]|rw [oMS]|rw [uPC]|rw [lSZ]|rw [lSS]|rfl))
    have c0:=hEC hc_ 0
    have c0z:=hEF hc_ 0
    have c1:=hEC hc_ 1
    have c1z:=hEF hc_ 1
    have cl:=lBk hc_
    have Hc:=Lib.hid hc_
    clear hc_
    have Hf:=Lib.hid (Fr.trans0 (by (repeat first|exact Fr.refl _ _|assumption|apply Fr.n|apply Fr.d|apply Fr.a|refine Fr.s ?_ (.inr (by simp;try omega)) _):Fr [] w _) hf)
    clear hf
    go_wp2_with fail
    refine (Hby.out _ Hf.out).mono ?_
    rintro e w3 ⟨xa,xc,hlo,rfl,hr,hf⟩
    (try clear a0)
    (try clear a1)
    (try clear al)
    have ha_:=(hf.block _ (lBk Ha.out) (by simp)).trans Ha.out
    clear Ha
    have a0:=hEC ha_ 0
    have a1:=hEC ha_ 1
    have al:=lBk ha_
    have Ha:=Lib.hid ha_
    clear ha_
    (try clear c0)
    (try clear c1)
    (try clear c0z)
    (try clear c1z)
    (try clear cl)
    have hc_:=(hf.block _ (lBk Hc.out) (by simp)).trans Hc.out
    clear Hc
    have c0:=hEC hc_ 0
    have c0z:=hEF hc_ 0
    have c1:=hEC hc_ 1
    have c1z:=hEF hc_ 1
    have cl:=lBk hc_
    have Hc:=Lib.hid hc_
    clear hc_
    have Hf:=Lib.hid (Hf.out.trans0 hf)
    have Hxc:=Lib.hid hlo.1
    have hw23:w.heap.size+1<w3.heap.size:=lBk Hc.out
    have Hw23:=Lib.hid hw23
    have Hbt:=Lib.hid (fun w1 (hf1:Fr [] w3 w1) i (hi:i≤100000000)=>HXV.out▸bit_calls (hr.fr hf1) HXD.out (by omega) i (by omega))
    clear hf hlo hr hw23 a0 a1 al c0 c1 c0z c1z cl
    obtain⟨p,hp⟩:∃ p,K.toNat=p:=⟨_,rfl⟩
    obtain⟨m,hm⟩:∃ m,(-K).toNat=m:=⟨_,rfl⟩
    rw [hp,hm] at HS
    have hp1:p≤2056:=by omega
    have hm1:m≤2056:=by omega
    have hcp:∀ i:Nat,decide ((i:Int)<K)=decide (i<p):=fun i=>by rw [decide_eq_decide];omega
    have hcm:∀ i:Nat,decide ((i:Int) < -K)=decide (i<m):=fun i=>by rw [decide_eq_decide];omega
    have Hcp:=Lib.hid hcp
    have Hcm:=Lib.hid hcm
    clear hp hm hcp hcm
    go_wp2_with fail
    go_loopw [7,8] (fun x7 x8 wl=>∃ i:Nat,x8=.int .i64 i∧i≤p∧wl.ownsRow w3.heap.size 3 1 x7 i (i64s (List.replicate i 0))∧Fr [] w3 wl) (fun _ x8 _=>p - (intOf x8).toNat)
    case atStart=>exact⟨0,rfl,by omega,World.ownsRow_nil _ _ _ _,Fr.refl _ _⟩
    case round =>
     obtain⟨i,rfl,hi,ho,hf⟩:=hrel
     obtain⟨oa,oc,rfl,hoa,hon⟩:=oFM ho
     have Ho:=Lib.hid ho
     have Hf3:=Lib.hid hf
     have hc1:=Hcp.out i
     clear hoa hon ho hf
     by_cases hip:i<p
     ·rw [decide_eq_true hip] at hc1
      go_wp2_with (at_builtin;refine append_i64 (n:=i) (base:=w3.heap.size) (xs:=(i64s (List.replicate i 0))) (y:=(0:Int)) rfl rfl rfl ?e1 rfl ?e2 ?e3 ?e4 ?_)
      case e1=>exact oOB Ho.out fun y hy=>hAE _ _ _ (oLT Ho.out hy)
      case e2=>first|(first|(rw [hAC,if_pos rfl];done)|exact (Array.getElem?_eq_some_iff.1 ((hAC _ _ _).trans (if_pos rfl))).2|(simp only [hDR,hDN];rw [hAC,if_pos rfl];done))|(repeat first|rw [if_pos (by omega)]|rw [if_neg (by omega)]|rw [hDR]|rw [hDN]|rw [hAz]|rw [hSz]|rw [hAC]|rw [hSC]|rw [oMS]|rw [uPC]|rw [lSZ]|rw [lSS]|rfl)
      case e3=>omega
      case e4=>have:=Hf3.out.size;(first|omega|(simp only [hDR,hDN,hAz];omega)|(simp;omega))
      intro g2 cap w9 hown1 hW1 hF1 hloc1 hg1
      rw [i64s_snoc0] at hown1
      have Hown1:=Lib.hid hown1
      have Hf9:=Lib.hid (fr_append Hf3.out Ho.out hF1)
      clear hown1 hW1 hF1 hloc1
      rw [← List.replicate_succ'] at Hown1
      go_wp2
      go_roundw
      case rel=>exact⟨i+1,by go_num,by omega,Hown1.out,Hf9.out⟩
      case measure=>simp [intOf];omega
     ·obtain rfl:i=p:=by omega
      rw [decide_eq_false hip] at hc1
      obtain⟨wo,rfl⟩:∃ wo:World,wo=wr:=⟨_,rfl⟩
      go_wp2_with fail
      clear hc1
      go_loopw [7,9,10] (fun x7 x9 x10 wl=>∃ (k:Nat) (lost:Bool) (l:List Nat),x9=.bool lost∧x10=.int .i64 k∧k≤N∧l.length=i+(k - m)∧Dig 2 l∧val 2 l=2 ^ i*(V % 2 ^ k / 2 ^ m)∧lost=decide (V % 2 ^ (min k m)≠0)∧wl.ownsRow w3.heap.size 3 1 x7 l.length (i64s l)∧Fr [] w3 wl) (fun _ _ x10 _=>N - (intOf x10).toNat)
      case atStart=>exact⟨0,false,List.replicate i 0,rfl,rfl,by omega,by simp,Dig.replicate (by omega) i,by rw [val_replicate];simp [Nat.mod_one],by simp [Nat.mod_one],by rw [List.length_replicate];exact Ho.out,Hf3.out⟩
      case round =>
       obtain⟨k,lost,l,rfl,rfl,hk,hll,hDl,hvl,hlost,ho,hf⟩:=hrel
       obtain⟨oa,oc,rfl,hoa,hon⟩:=oFM ho
       have Ho2:=Lib.hid ho
       have Hf2:=Lib.hid hf
       have Hll:=Lib.hid hll
       have HDl:=Lib.hid hDl
       have Hvl:=Lib.hid hvl
       have Hlost:=Lib.hid hlost
       clear hoa hon ho hf hll hDl hvl hlost
       by_cases hkN:k<N
       ·have hcm:=Hcm.out k
        obtain⟨b,hb⟩:∃ b,V / 2 ^ k % 2=b:=⟨_,rfl⟩
        have hb2:b<2:=by omega
        have Hbk:=Lib.hid (fun w1 hf=>hb▸Hbt.out w1 hf k (by omega))
        have Hb:=Lib.hid hb
        clear hb
        by_cases hkm:k<m
        ·rw [decide_eq_true hkm] at hcm
         have hz1:V % 2 ^ k / 2 ^ m=0:=Nat.div_eq_of_lt (Nat.lt_of_lt_of_le (Nat.mod_lt _ (Nat.pow_pos (by omega))) (Nat.pow_le_pow_right (by omega) (by omega)))
         have hz2:V % 2 ^ (k+1) / 2 ^ m=0:=Nat.div_eq_of_lt (Nat.lt_of_lt_of_le (Nat.mod_lt _ (Nat.pow_pos (by omega))) (Nat.pow_le_pow_right (by omega) (by omega)))
         have hvl2:val 2 l=2 ^ i*(V % 2 ^ (k+1) / 2 ^ m):=by rw [Hvl.out,hz1,hz2]
         have hl2:decide (V % 2 ^ (min (k+1) m)≠0)=(lost || decide (b=1)):=by
          rw [Hlost.out,show min (k+1) m=k+1 by omega,show min k m=k by omega,← Bool.decide_or,decide_eq_decide,lost_step,Hb.out]
         have Hvl2:=Lib.hid hvl2
         have Hl2:=Lib.hid hl2
         clear hz1 hz2 hvl2 hl2
         cases lost
         ·obtain⟨bb,hbb⟩:∃ bb,decide (b=1)=bb:=⟨_,rfl⟩
          have hb1:((b:Int) == 1)=bb:=by rw [← hbb,Bool.eq_iff_iff,beq_iff_eq,decide_eq_true_eq];omega
          have Hbb:=Lib.hid hbb
          clear hbb
          go_wp2_with fail
          refine (Hbk.out _ Hf2.out).mono ?_
          rintro e w5 ⟨rfl,rfl⟩
          go_wp2
          go_roundw
          case rel=>exact⟨k+1,bb,l,rfl,by go_num,by omega,by have:=Hll.out;omega,HDl.out,Hvl2.out,by have h:=Hl2.out;rw [Hbb.out,Bool.false_or] at h;exact h.symm,Ho2.out,Hf2.out⟩
          case measure=>simp [intOf];omega
         ·go_wp2_with fail
          go_roundw
          case rel=>exact⟨k+1,true,l,rfl,by go_num,by omega,by have:=Hll.out;omega,HDl.out,Hvl2.out,by have h:=Hl2.out;rw [Bool.true_or] at h;exact h.symm,Ho2.out,Hf2.out⟩
          case measure=>simp [intOf];omega
        ·rw [decide_eq_false hkm] at hcm
         go_wp2_with fail
         refine (Hbk.out _ Hf2.out).mono ?_
         rintro e w5 ⟨rfl,rfl⟩
         go_wp2_with (at_builtin;refine append_i64 (n:=l.length) (base:=w3.heap.size) (xs:=(i64s l)) (y:=(b:Int)) rfl rfl rfl ?e1 rfl ?e2 ?e3 ?e4 ?_)
         case e1=>exact oOB Ho2.out fun y hy=>hAE _ _ _ (oLT Ho2.out hy)
         case e2=>first|(first|(rw [hAC,if_pos rfl];done)|exact (Array.getElem?_eq_some_iff.1 ((hAC _ _ _).trans (if_pos rfl))).2|(simp only [hDR,hDN];rw [hAC,if_pos rfl];done))|(repeat first|rw [if_pos (by omega)]|rw [if_neg (by omega)]|rw [hDR]|rw [hDN]|rw [hAz]|rw [hSz]|rw [hAC]|rw [hSC]|rw [oMS]|rw [uPC]|rw [lSZ]|rw [lSS]|rfl)
         case e3=>(have:=Hll.out;omega)
         case e4=>have:=Hf2.out.size;(first|omega|(simp only [hDR,hDN,hAz];omega)|(simp;omega))
         intro g2 cap w9 hown1 hW1 hF1 hloc1 hg1
         rw [i64s_snoc] at hown1
         have Hown1:=Lib.hid hown1
         have Hf9:=Lib.hid (fr_append Hf2.out Ho2.out hF1)
         clear hown1 hW1 hF1 hloc1
         go_wp2
         go_roundw
         case rel =>
          refine⟨k+1,lost,l++[b],rfl,by go_num,by omega,by rw [List.length_append,Hll.out,List.length_singleton];omega,HDl.out.append (fun z hz=>by rw [List.mem_singleton] at hz;omega),?_,by rw [Hlost.out,show min (k+1) m=min k m by omega],by rw [List.length_append];exact Hown1.out,Hf9.out⟩
          rw [val_snoc,Hvl.out,Hll.out,drop_step (by omega),Hb.out,Nat.mul_add,Nat.pow_add,Nat.mul_assoc]
         case measure=>simp [intOf];omega
       ·obtain rfl:k=N:=by omega
        have hVk:V % 2 ^ k=V:=Nat.mod_eq_of_lt HVN.out
        have hlost2:decide (V % 2 ^ m≠0)=lost:=by
         rw [Hlost.out]
         rcases Nat.lt_or_ge m k with h|h
         ·rw [show min k m=m by omega]
         ·rw [show min k m=k by omega,hVk,Nat.mod_eq_of_lt (Nat.lt_of_lt_of_le HVN.out (Nat.pow_le_pow_right (by omega) h))]
        have hof:=ofBits_calls (Reads.of_owns Ho2.out) HDl.out (by have:=Hll.out;omega)
        rw [Hvl.out,hVk] at hof
        have hS:=HS.out
        unfold shV at hS
        rw [hlost2] at hS
        obtain⟨W,hW⟩:∃ W,2 ^ i*(V / 2 ^ m)=W:=⟨_,rfl⟩
        rw [hW] at hS hof
        obtain⟨O,hO⟩:∃ O,dg 256 W=O:=⟨_,rfl⟩
        have hOl:O.length≤1000:=by
         rw [← hO,dg_length_le (by omega),← hW]
         have h1:V / 2 ^ m≤V:=Nat.div_le_self _ _
         exact big_256 (i:=i) (k:=k) (x:=V / 2 ^ m) (a:=2056) (b:=2048) (c:=1000) (by omega) hN (Nat.lt_of_le_of_lt h1 HVN.out)
        have hOV:val 256 O=W:=by rw [← hO];exact val_dg (by omega) W
        have hOD:Dig 256 O:=by rw [← hO];exact dg_dig (by omega) W
        rw [hO] at hof
        have Hof:=Lib.hid hof
        have HS2:=Lib.hid hS
        have HOV:=Lib.hid hOV
        have HOD:=Lib.hid hOD
        have Hfw:=Lib.hid (Hf2.out)
        clear hVk hlost2 hof hS hW hO hOV hOD
        go_wp2_with fail
        refine Hof.out.mono ?_
        rintro e w6 ⟨ra,rc,hlo,rfl,hr,hf⟩
        have hf36:Fr [] w3 w6:=Hf2.out.trans0 hf
        (try clear a0)
        (try clear a1)
        (try clear al)
        have ha_:=(hf36.block _ (lBk Ha.out) (by simp)).trans Ha.out
        clear Ha
        have a0:=hEC ha_ 0
        have a1:=hEC ha_ 1
        have al:=lBk ha_
        have Ha:=Lib.hid ha_
        clear ha_
        (try clear c0)
        (try clear c1)
        (try clear c0z)
        (try clear c1z)
        (try clear cl)
        have hc_:=(hf36.block _ (lBk Hc.out) (by simp)).trans Hc.out
        clear Hc
        have c0:=hEC hc_ 0
        have c0z:=hEF hc_ 0
        have c1:=hEC hc_ 1
        have c1z:=hEF hc_ 1
        have cl:=lBk hc_
        have Hc:=Lib.hid hc_
        clear hc_
        have Hf:=Lib.hid (Hf.out.trans0 hf36)
        have Hr:=Lib.hid hr
        have Hrc:=Lib.hid hlo.1
        have Hw6:=Lib.hid (show w.heap.size+1<w6.heap.size by have:=Hw23.out;have:=hf36.size;omega)
        clear hf hf36 hr hlo
        cases neg<;>cases lost
        ·
         have hS:=HS2.out
         simp only [Bool.and_self,Bool.false_and,Bool.and_false,Bool.false_eq_true,if_false,Nat.add_zero] at hS
         have hbg:=big_calls (neg:=false) Hr.out HOD.out (by omega) Hrc.out
         rw [HOV.out,← hS] at hbg
         have Hbg:=Lib.hid hbg
         clear hS HS2 hbg
         go_wp2_with fail
         refine Hbg.out.mono ?_
         rintro e w8 ⟨ra,rc,hlo,rfl,hr,hf⟩
         (try clear c0)
         (try clear c1)
         (try clear c0z)
         (try clear c1z)
         (try clear cl)
         have hc_:=(hf.block _ (lBk Hc.out) (by simp)).trans Hc.out
         clear Hc
         have c0:=hEC hc_ 0
         have c0z:=hEF hc_ 0
         have c1:=hEC hc_ 1
         have c1z:=hEF hc_ 1
         have cl:=lBk hc_
         have Hc:=Lib.hid hc_
         clear hc_
         have Hf:=Lib.hid (Hf.out.trans0 hf)
         have Hlo:=Lib.hid hlo
         have Hr:=Lib.hid hr
         clear hlo hr hf
         (try clear a0 a1 al)
         obtain⟨r1,r2,r3⟩:=r
         go_wp2
         (try simp only [Exit.inBlock,Exit.then])
         refine bodyPost_ret (bRS rfl (b:=w.heap.size+1) (x:=.bool r1) (y:=.slice ra r2.length rc) rfl ?_ rfl) rfl ⟨_,_,⟨Hlo.out.1,fun g hg=>(by have:=Hlo.out.2 g hg;have:=Hw6.out;omega)⟩,rfl,?_,?_⟩
         ·have h:=Hc.out
          (repeat first|rw [if_pos (by omega)]|rw [if_neg (by omega)]|rw [hDR]|rw [hDN]|rw [hAz]|rw [hSz]|rw [hAC]|rw [hSC]|rw [oMS]|rw [uPC]|rw [lSZ]|rw [lSS]|rfl)
          rw [h]
          (repeat first|rw [if_pos (by omega)]|rw [if_neg (by omega)]|rw [hDR]|rw [hDN]|rw [hAz]|rw [hSz]|rw [hAC]|rw [hSC]|rw [oMS]|rw [uPC]|rw [lSZ]|rw [lSS]|rfl)
         ·refine Hr.out.keep fun x hx hl=>?_
          have:=Hlo.out.2 x hx
          have:=Hw6.out
          rw [sCE _ _ _ (by simp;omega),sCE _ _ _ (by simp;omega)]
         ·exact (Hf.out.setCell (.inr (by simp;try omega)) _).setCell (.inr (by simp;try omega)) _
        ·
         have hS:=HS2.out
         simp only [Bool.and_self,Bool.false_and,Bool.and_false,Bool.false_eq_true,if_false,Nat.add_zero] at hS
         have hbg:=big_calls (neg:=false) Hr.out HOD.out (by omega) Hrc.out
         rw [HOV.out,← hS] at hbg
         have Hbg:=Lib.hid hbg
         clear hS HS2 hbg
         go_wp2_with fail
         refine Hbg.out.mono ?_
         rintro e w8 ⟨ra,rc,hlo,rfl,hr,hf⟩
         (try clear c0)
         (try clear c1)
         (try clear c0z)
         (try clear c1z)
         (try clear cl)
         have hc_:=(hf.block _ (lBk Hc.out) (by simp)).trans Hc.out
         clear Hc
         have c0:=hEC hc_ 0
         have c0z:=hEF hc_ 0
         have c1:=hEC hc_ 1
         have c1z:=hEF hc_ 1
         have cl:=lBk hc_
         have Hc:=Lib.hid hc_
         clear hc_
         have Hf:=Lib.hid (Hf.out.trans0 hf)
         have Hlo:=Lib.hid hlo
         have Hr:=Lib.hid hr
         clear hlo hr hf
         (try clear a0 a1 al)
         obtain⟨r1,r2,r3⟩:=r
         go_wp2
         (try simp only [Exit.inBlock,Exit.then])
         refine bodyPost_ret (bRS rfl (b:=w.heap.size+1) (x:=.bool r1) (y:=.slice ra r2.length rc) rfl ?_ rfl) rfl ⟨_,_,⟨Hlo.out.1,fun g hg=>(by have:=Hlo.out.2 g hg;have:=Hw6.out;omega)⟩,rfl,?_,?_⟩
         ·have h:=Hc.out
          (repeat first|rw [if_pos (by omega)]|rw [if_neg (by omega)]|rw [hDR]|rw [hDN]|rw [hAz]|rw [hSz]|rw [hAC]|rw [hSC]|rw [oMS]|rw [uPC]|rw [lSZ]|rw [lSS]|rfl)
          rw [h]
          (repeat first|rw [if_pos (by omega)]|rw [if_neg (by omega)]|rw [hDR]|rw [hDN]|rw [hAz]|rw [hSz]|rw [hAC]|rw [hSC]|rw [oMS]|rw [uPC]|rw [lSZ]|rw [lSS]|rfl)
         ·refine Hr.out.keep fun x hx hl=>?_
          have:=Hlo.out.2 x hx
          have:=Hw6.out
          rw [sCE _ _ _ (by simp;omega),sCE _ _ _ (by simp;omega)]
         ·exact (Hf.out.setCell (.inr (by simp;try omega)) _).setCell (.inr (by simp;try omega)) _
        ·
         have hS:=HS2.out
         simp only [Bool.and_self,Bool.false_and,Bool.and_false,Bool.false_eq_true,if_false,Nat.add_zero] at hS
         have hbg:=big_calls (neg:=true) Hr.out HOD.out (by omega) Hrc.out
         rw [HOV.out,← hS] at hbg
         have Hbg:=Lib.hid hbg
         clear hS HS2 hbg
         go_wp2_with fail
         refine Hbg.out.mono ?_
         rintro e w8 ⟨ra,rc,hlo,rfl,hr,hf⟩
         (try clear c0)
         (try clear c1)
         (try clear c0z)
         (try clear c1z)
         (try clear cl)
         have hc_:=(hf.block _ (lBk Hc.out) (by simp)).trans Hc.out
         clear Hc
         have c0:=hEC hc_ 0
         have c0z:=hEF hc_ 0
         have c1:=hEC hc_ 1
         have c1z:=hEF hc_ 1
         have cl:=lBk hc_
         have Hc:=Lib.hid hc_
         clear hc_
         have Hf:=Lib.hid (Hf.out.trans0 hf)
         have Hlo:=Lib.hid hlo
         have Hr:=Lib.hid hr
         clear hlo hr hf
         (try clear a0 a1 al)
         obtain⟨r1,r2,r3⟩:=r
         go_wp2
         (try simp only [Exit.inBlock,Exit.then])
         refine bodyPost_ret (bRS rfl (b:=w.heap.size+1) (x:=.bool r1) (y:=.slice ra r2.length rc) rfl ?_ rfl) rfl ⟨_,_,⟨Hlo.out.1,fun g hg=>(by have:=Hlo.out.2 g hg;have:=Hw6.out;omega)⟩,rfl,?_,?_⟩
         ·have h:=Hc.out
          (repeat first|rw [if_pos (by omega)]|rw [if_neg (by omega)]|rw [hDR]|rw [hDN]|rw [hAz]|rw [hSz]|rw [hAC]|rw [hSC]|rw [oMS]|rw [uPC]|rw [lSZ]|rw [lSS]|rfl)
          rw [h]
          (repeat first|rw [if_pos (by omega)]|rw [if_neg (by omega)]|rw [hDR]|rw [hDN]|rw [hAz]|rw [hSz]|rw [hAC]|rw [hSC]|rw [oMS]|rw [uPC]|rw [lSZ]|rw [lSS]|rfl)
         ·refine Hr.out.keep fun x hx hl=>?_
          have:=Hlo.out.2 x hx
          have:=Hw6.out
          rw [sCE _ _ _ (by simp;omega),sCE _ _ _ (by simp;omega)]
         ·exact (Hf.out.setCell (.inr (by simp;try omega)) _).setCell (.inr (by simp;try omega)) _
        ·have hS:=HS2.out
         simp only [Bool.and_self,if_true] at hS
         have HS3:=Lib.hid hS
         clear hS HS2
         go_wp2_with fail
         refine (rplus_calls (Hr.out.fr (by (repeat first|exact Fr.refl _ _|assumption|apply Fr.n|apply Fr.d|apply Fr.a|refine Fr.s ?_ (.inr (by simp;try omega)) _))) (reads_blk (cs:=i64s [1]) (by (repeat first|rw [if_pos (by omega)]|rw [if_neg (by omega)]|rw [hDR]|rw [hDN]|rw [hAz]|rw [hSz]|rw [hAC]|rw [hSC]|rw [oMS]|rw [uPC]|rw [lSZ]|rw [lSS]|rfl)) rfl) HOD.out (db:=[1]) (fun x hx=>by simp at hx;omega) (by omega) (by simp)).mono ?_
         rintro e w7 ⟨L,hLD,hLV,hLl,la,lc,hlo,rfl,hr,hf0⟩
         have hf:Fr [] w6 w7:=Fr.trans0 (by (repeat first|exact Fr.refl _ _|assumption|apply Fr.n|apply Fr.d|apply Fr.a|refine Fr.s ?_ (.inr (by simp;try omega)) _)) hf0
         (try clear a0)
         (try clear a1)
         (try clear al)
         have ha_:=(hf.block _ (lBk Ha.out) (by simp)).trans Ha.out
         clear Ha
         have a0:=hEC ha_ 0
         have a1:=hEC ha_ 1
         have al:=lBk ha_
         have Ha:=Lib.hid ha_
         clear ha_
         (try clear c0)
         (try clear c1)
         (try clear c0z)
         (try clear c1z)
         (try clear cl)
         have hc_:=(hf.block _ (lBk Hc.out) (by simp)).trans Hc.out
         clear Hc
         have c0:=hEC hc_ 0
         have c0z:=hEF hc_ 0
         have c1:=hEC hc_ 1
         have c1z:=hEF hc_ 1
         have cl:=lBk hc_
         have Hc:=Lib.hid hc_
         clear hc_
         have Hf:=Lib.hid (Hf.out.trans0 hf)
         rw [HOV.out,show val 256 [1]=1 by rfl] at hLV
         have hbg:=big_calls (neg:=true) hr hLD (by simp at hLl;omega) hlo.1
         rw [hLV,← HS3.out] at hbg
         have Hbg:=Lib.hid hbg
         have Hw7:=Lib.hid (show w.heap.size+1<w7.heap.size by have:=Hw6.out;have:=hf.size;omega)
         clear hf hf0 hr hlo hLD hLV hLl hbg
         go_wp2_with fail
         refine Hbg.out.mono ?_
         rintro e w8 ⟨ra,rc,hlo,rfl,hr,hf⟩
         (try clear c0)
         (try clear c1)
         (try clear c0z)
         (try clear c1z)
         (try clear cl)
         have hc_:=(hf.block _ (lBk Hc.out) (by simp)).trans Hc.out
         clear Hc
         have c0:=hEC hc_ 0
         have c0z:=hEF hc_ 0
         have c1:=hEC hc_ 1
         have c1z:=hEF hc_ 1
         have cl:=lBk hc_
         have Hc:=Lib.hid hc_
         clear hc_
         have Hf:=Lib.hid (Hf.out.trans0 hf)
         have Hlo:=Lib.hid hlo
         have Hr:=Lib.hid hr
         clear hlo hr hf
         (try clear a0 a1 al)
         obtain⟨r1,r2,r3⟩:=r
         go_wp2
         (try simp only [Exit.inBlock,Exit.then])
         refine bodyPost_ret (bRS rfl (b:=w.heap.size+1) (x:=.bool r1) (y:=.slice ra r2.length rc) rfl ?_ rfl) rfl ⟨_,_,⟨Hlo.out.1,fun g hg=>(by have:=Hlo.out.2 g hg;have:=Hw7.out;omega)⟩,rfl,?_,?_⟩
         ·have h:=Hc.out
          (repeat first|rw [if_pos (by omega)]|rw [if_neg (by omega)]|rw [hDR]|rw [hDN]|rw [hAz]|rw [hSz]|rw [hAC]|rw [hSC]|rw [oMS]|rw [uPC]|rw [lSZ]|rw [lSS]|rfl)
          rw [h]
          (repeat first|rw [if_pos (by omega)]|rw [if_neg (by omega)]|rw [hDR]|rw [hDN]|rw [hAz]|rw [hSz]|rw [hAC]|rw [hSC]|rw [oMS]|rw [uPC]|rw [lSZ]|rw [lSS]|rfl)
         ·refine Hr.out.keep fun x hx hl=>?_
          have:=Hlo.out.2 x hx
          have:=Hw7.out
          rw [sCE _ _ _ (by simp;omega),sCE _ _ _ (by simp;omega)]
         ·exact (Hf.out.setCell (.inr (by simp;try omega)) _).setCell (.inr (by simp;try omega)) _
  ·rw [if_neg h0] at hS
   have hVp1:=hVp h0
   have hdl:decide ((0:Int)<ds.length)=true:=by rw [decide_eq_true_eq];omega
   have hdl2:decide (0<ds.length)=true:=by rw [decide_eq_true_eq];omega
   by_cases hbig1:2056<k
   ·have hd3:decide ((2056:Int)<k)=true:=by simpa using hbig1
    rw [if_neg (by omega),if_pos (by omega)] at hS
    subst hS
    clear hVp hV0 hVp1 hV48 h0
    go_enter Try.func93,Try.ntmps93
    go_wp2_with fail
    refine (Hra.out _ (by (repeat first|exact Fr.refl _ _|assumption|apply Fr.n|apply Fr.d|apply Fr.a|refine Fr.s ?_ (.inr (by simp;try omega)) _))).mono ?_
    rintro e w1 ⟨rfl,hf⟩
    have ha_:=(hf.block (w.heap.size) (by first|(simp;done)|(simp;omega)) (by simp)).trans (show _=some (.cells #[.bool neg,.slice a ds.length c] 114 (0,0)) by (repeat first|rw [if_pos (by omega)]|rw [if_neg (by omega)]|rw [hDR]|rw [hDN]|rw [hAz]|rw [hSz]|rw [hAC]|rw [hSC]|rw [oMS]|rw [uPC]|rw [lSZ]|rw [lSS]|rfl))
    have a0:=hEC ha_ 0
    have a1:=hEC ha_ 1
    have al:=lBk ha_
    have Ha:=Lib.hid ha_
    clear ha_
    have hc_:=(hf.block (w.heap.size+1) (by first|(simp;done)|(simp;omega)) (by simp)).trans (show _=some (.cells #[.bool false,.slice none 0 0] 114 (0,0)) by (repeat first|rw [if_pos (by omega)]|rw [if_neg (by omega)]|rw [hDR]|rw [hDN]|rw [hAz]|rw [hSz]|rw [hAC]|rw [hSC]|rw [oMS]|rw [uPC]|rw [lSZ]|rw [lSS]|rfl))
    have c0:=hEC hc_ 0
    have c0z:=hEF hc_ 0
    have c1:=hEC hc_ 1
    have c1z:=hEF hc_ 1
    have cl:=lBk hc_
    have Hc:=Lib.hid hc_
    clear hc_
    have Hf:=Lib.hid (Fr.trans0 (by (repeat first|exact Fr.refl _ _|assumption|apply Fr.n|apply Fr.d|apply Fr.a|refine Fr.s ?_ (.inr (by simp;try omega)) _):Fr [] w _) hf)
    clear hf
    go_wp2
    (try simp only [Exit.inBlock,Exit.then])
    refine bodyPost_ret (bRS rfl (b:=w.heap.size+1) (x:=.bool false) (y:=.slice none 0 0) rfl ?_ rfl) rfl ⟨_,_,⟨Nat.le_refl _,fun g hg=>(by cases hg)⟩,rfl,reads_nil _,?_⟩
    ·have h:=Hc.out
     (repeat first|rw [if_pos (by omega)]|rw [if_neg (by omega)]|rw [hDR]|rw [hDN]|rw [hAz]|rw [hSz]|rw [hAC]|rw [hSC]|rw [oMS]|rw [uPC]|rw [lSZ]|rw [lSS]|rfl)
     rw [h]
     (repeat first|rw [if_pos (by omega)]|rw [if_neg (by omega)]|rw [hDR]|rw [hDN]|rw [hAz]|rw [hSz]|rw [hAC]|rw [hSC]|rw [oMS]|rw [uPC]|rw [lSZ]|rw [lSS]|rfl)
    ·exact (Hf.out.setCell (.inr (by simp;try omega)) _).setCell (.inr (by simp;try omega)) _
   ·have hd3:decide ((2056:Int)<k)=false:=by rw [decide_eq_false_iff_not];omega
    have hs:r=mkN neg (shV neg V K.toNat (-K).toNat):=by
     rw [hS]
     by_cases hk0:k<0
     ·have e:shV neg V K.toNat (-K).toNat=downN neg V (-K).toNat:=by rw [show K.toNat=0 by omega];unfold shV downN;simp
      rw [if_pos hk0,e]
      by_cases hbig2:k < -2056
      ·rw [show (-K).toNat=2056 by omega,down_big hV48 (show 2048≤2056 by omega),down_big hV48 (by split<;>omega)]
      ·rw [if_neg (by omega),show (-K).toNat=(-k).toNat by omega]
     ·rw [if_neg hk0,show (-K).toNat=0 by omega,show K.toNat=k.toNat by omega]
      have e:shV neg V k.toNat 0=V*2 ^ k.toNat:=by unfold shV;simp [Nat.mod_one,Nat.mul_comm]
      rw [e]
      by_cases hk8:2048<k
      ·rw [if_pos hk8]
       have h1:4294967296 ^ 64≤V*2 ^ k.toNat:=by
        exact Nat.le_trans (pow_two_le (n:=64) (m:=k.toNat) (by omega)) (Nat.le_mul_of_pos_left _ hVp1)
       unfold mkN
       have h2:(0:Nat)<4294967296 ^ 64:=Nat.pow_pos (by omega)
       rw [if_neg (by omega),if_neg (by omega)]
      ·rw [if_neg hk8]
    have HS:=Lib.hid hs
    clear hs hVp1 hbig1
    clear hVp hV0 hV48 hS h0
    go_enter Try.func93,Try.ntmps93
    go_wp2_with fail
    refine (Hra.out _ (by (repeat first|exact Fr.refl _ _|assumption|apply Fr.n|apply Fr.d|apply Fr.a|refine Fr.s ?_ (.inr (by simp;try omega)) _))).mono ?_
    rintro e w1 ⟨rfl,hf⟩
    have ha_:=(hf.block (w.heap.size) (by first|(simp;done)|(simp;omega)) (by simp)).trans (show _=some (.cells #[.bool neg,.slice a ds.length c] 114 (0,0)) by (repeat first|rw [if_pos (by omega)]|rw [if_neg (by omega)]|rw [hDR]|rw [hDN]|rw [hAz]|rw [hSz]|rw [hAC]|rw [hSC]|rw [oMS]|rw [uPC]|rw [lSZ]|rw [lSS]|rfl))
    have a0:=hEC ha_ 0
    have a1:=hEC ha_ 1
    have al:=lBk ha_
    have Ha:=Lib.hid ha_
    clear ha_
    have hc_:=(hf.block (w.heap.size+1) (by first|(simp;done)|(simp;omega)) (by simp)).trans (show _=some (.cells #[.bool false,.slice none 0 0] 114 (0,0)) by (repeat first|rw [if_pos (by omega)]|rw [if_neg (by omega)]|rw [hDR]|rw [hDN]|rw [hAz]|rw [hSz]|rw [hAC]|rw [hSC]|rw [oMS]|rw [uPC]|rw [lSZ]|rw [lSS]|rfl))
    have c0:=hEC hc_ 0
    have c0z:=hEF hc_ 0
    have c1:=hEC hc_ 1
    have c1z:=hEF hc_ 1
    have cl:=lBk hc_
    have Hc:=Lib.hid hc_
    clear hc_
    have Hf:=Lib.hid (Fr.trans0 (by (repeat first|exact Fr.refl _ _|assumption|apply Fr.n|apply Fr.d|apply Fr.a|refine Fr.s ?_ (.inr (by simp;try omega)) _):Fr [] w _) hf)
    clear hf
    go_wp2_with fail
    refine (Hby.out _ Hf.out).mono ?_
    rintro e w3 ⟨xa,xc,hlo,rfl,hr,hf⟩
    (try clear a0)
    (try clear a1)
    (try clear al)
    have ha_:=(hf.block _ (lBk Ha.out) (by simp)).trans Ha.out
    clear Ha
    have a0:=hEC ha_ 0
    have a1:=hEC ha_ 1
    have al:=lBk ha_
    have Ha:=Lib.hid ha_
    clear ha_
    (try clear c0)
    (try clear c1)
    (try clear c0z)
    (try clear c1z)
    (try clear cl)
    have hc_:=(hf.block _ (lBk Hc.out) (by simp)).trans Hc.out
    clear Hc
    have c0:=hEC hc_ 0
    have c0z:=hEF hc_ 0
    have c1:=hEC hc_ 1
    have c1z:=hEF hc_ 1
    have cl:=lBk hc_
    have Hc:=Lib.hid hc_
    clear hc_
    have Hf:=Lib.hid (Hf.out.trans0 hf)
    have Hxc:=Lib.hid hlo.1
    have hw23:w.heap.size+1<w3.heap.size:=lBk Hc.out
    have Hw23:=Lib.hid hw23
    have Hbt:=Lib.hid (fun w1 (hf1:Fr [] w3 w1) i (hi:i≤100000000)=>HXV.out▸bit_calls (hr.fr hf1) HXD.out (by omega) i (by omega))
    clear hf hlo hr hw23 a0 a1 al c0 c1 c0z c1z cl
    obtain⟨p,hp⟩:∃ p,K.toNat=p:=⟨_,rfl⟩
    obtain⟨m,hm⟩:∃ m,(-K).toNat=m:=⟨_,rfl⟩
    rw [hp,hm] at HS
    have hp1:p≤2056:=by omega
    have hm1:m≤2056:=by omega
    have hcp:∀ i:Nat,decide ((i:Int)<K)=decide (i<p):=fun i=>by rw [decide_eq_decide];omega
    have hcm:∀ i:Nat,decide ((i:Int) < -K)=decide (i<m):=fun i=>by rw [decide_eq_decide];omega
    have Hcp:=Lib.hid hcp
    have Hcm:=Lib.hid hcm
    clear hp hm hcp hcm
    go_wp2_with fail
    go_loopw [7,8] (fun x7 x8 wl=>∃ i:Nat,x8=.int .i64 i∧i≤p∧wl.ownsRow w3.heap.size 3 1 x7 i (i64s (List.replicate i 0))∧Fr [] w3 wl) (fun _ x8 _=>p - (intOf x8).toNat)
    case atStart=>exact⟨0,rfl,by omega,World.ownsRow_nil _ _ _ _,Fr.refl _ _⟩
    case round =>
     obtain⟨i,rfl,hi,ho,hf⟩:=hrel
     obtain⟨oa,oc,rfl,hoa,hon⟩:=oFM ho
     have Ho:=Lib.hid ho
     have Hf3:=Lib.hid hf
     have hc1:=Hcp.out i
     clear hoa hon ho hf
     by_cases hip:i<p
     ·rw [decide_eq_true hip] at hc1
      go_wp2_with (at_builtin;refine append_i64 (n:=i) (base:=w3.heap.size) (xs:=(i64s (List.replicate i 0))) (y:=(0:Int)) rfl rfl rfl ?e1 rfl ?e2 ?e3 ?e4 ?_)
      case e1=>exact oOB Ho.out fun y hy=>hAE _ _ _ (oLT Ho.out hy)
      case e2=>first|(first|(rw [hAC,if_pos rfl];done)|exact (Array.getElem?_eq_some_iff.1 ((hAC _ _ _).trans (if_pos rfl))).2|(simp only [hDR,hDN];rw [hAC,if_pos rfl];done))|(repeat first|rw [if_pos (by omega)]|rw [if_neg (by omega)]|rw [hDR]|rw [hDN]|rw [hAz]|rw [hSz]|rw [hAC]|rw [hSC]|rw [oMS]|rw [uPC]|rw [lSZ]|rw [lSS]|rfl)
      case e3=>omega
      case e4=>have:=Hf3.out.size;(first|omega|(simp only [hDR,hDN,hAz];omega)|(simp;omega))
      intro g2 cap w9 hown1 hW1 hF1 hloc1 hg1
      rw [i64s_snoc0] at hown1
      have Hown1:=Lib.hid hown1
      have Hf9:=Lib.hid (fr_append Hf3.out Ho.out hF1)
      clear hown1 hW1 hF1 hloc1
      rw [← List.replicate_succ'] at Hown1
      go_wp2
      go_roundw
      case rel=>exact⟨i+1,by go_num,by omega,Hown1.out,Hf9.out⟩
      case measure=>simp [intOf];omega
     ·obtain rfl:i=p:=by omega
      rw [decide_eq_false hip] at hc1
      obtain⟨wo,rfl⟩:∃ wo:World,wo=wr:=⟨_,rfl⟩
      go_wp2_with fail
      clear hc1
      go_loopw [7,9,10] (fun x7 x9 x10 wl=>∃ (k:Nat) (lost:Bool) (l:List Nat),x9=.bool lost∧x10=.int .i64 k∧k≤N∧l.length=i+(k - m)∧Dig 2 l∧val 2 l=2 ^ i*(V % 2 ^ k / 2 ^ m)∧lost=decide (V % 2 ^ (min k m)≠0)∧wl.ownsRow w3.heap.size 3 1 x7 l.length (i64s l)∧Fr [] w3 wl) (fun _ _ x10 _=>N - (intOf x10).toNat)
      case atStart=>exact⟨0,false,List.replicate i 0,rfl,rfl,by omega,by simp,Dig.replicate (by omega) i,by rw [val_replicate];simp [Nat.mod_one],by simp [Nat.mod_one],by rw [List.length_replicate];exact Ho.out,Hf3.out⟩
      case round =>
       obtain⟨k,lost,l,rfl,rfl,hk,hll,hDl,hvl,hlost,ho,hf⟩:=hrel
       obtain⟨oa,oc,rfl,hoa,hon⟩:=oFM ho
       have Ho2:=Lib.hid ho
       have Hf2:=Lib.hid hf
       have Hll:=Lib.hid hll
       have HDl:=Lib.hid hDl
       have Hvl:=Lib.hid hvl
       have Hlost:=Lib.hid hlost
       clear hoa hon ho hf hll hDl hvl hlost
       by_cases hkN:k<N
       ·have hcm:=Hcm.out k
        obtain⟨b,hb⟩:∃ b,V / 2 ^ k % 2=b:=⟨_,rfl⟩
        have hb2:b<2:=by omega
        have Hbk:=Lib.hid (fun w1 hf=>hb▸Hbt.out w1 hf k (by omega))
        have Hb:=Lib.hid hb
        clear hb
        by_cases hkm:k<m
        ·rw [decide_eq_true hkm] at hcm
         have hz1:V % 2 ^ k / 2 ^ m=0:=Nat.div_eq_of_lt (Nat.lt_of_lt_of_le (Nat.mod_lt _ (Nat.pow_pos (by omega))) (Nat.pow_le_pow_right (by omega) (by omega)))
         have hz2:V % 2 ^ (k+1) / 2 ^ m=0:=Nat.div_eq_of_lt (Nat.lt_of_lt_of_le (Nat.mod_lt _ (Nat.pow_pos (by omega))) (Nat.pow_le_pow_right (by omega) (by omega)))
         have hvl2:val 2 l=2 ^ i*(V % 2 ^ (k+1) / 2 ^ m):=by rw [Hvl.out,hz1,hz2]
         have hl2:decide (V % 2 ^ (min (k+1) m)≠0)=(lost || decide (b=1)):=by
          rw [Hlost.out,show min (k+1) m=k+1 by omega,show min k m=k by omega,← Bool.decide_or,decide_eq_decide,lost_step,Hb.out]
         have Hvl2:=Lib.hid hvl2
         have Hl2:=Lib.hid hl2
         clear hz1 hz2 hvl2 hl2
         cases lost
         ·obtain⟨bb,hbb⟩:∃ bb,decide (b=1)=bb:=⟨_,rfl⟩
          have hb1:((b:Int) == 1)=bb:=by rw [← hbb,Bool.eq_iff_iff,beq_iff_eq,decide_eq_true_eq];omega
          have Hbb:=Lib.hid hbb
          clear hbb
          go_wp2_with fail
          refine (Hbk.out _ Hf2.out).mono ?_
          rintro e w5 ⟨rfl,rfl⟩
          go_wp2
          go_roundw
          case rel=>exact⟨k+1,bb,l,rfl,by go_num,by omega,by have:=Hll.out;omega,HDl.out,Hvl2.out,by have h:=Hl2.out;rw [Hbb.out,Bool.false_or] at h;exact h.symm,Ho2.out,Hf2.out⟩
          case measure=>simp [intOf];omega
         ·go_wp2_with fail
          go_roundw
          case rel=>exact⟨k+1,true,l,rfl,by go_num,by omega,by have:=Hll.out;omega,HDl.out,Hvl2.out,by have h:=Hl2.out;rw [Bool.true_or] at h;exact h.symm,Ho2.out,Hf2.out⟩
          case measure=>simp [intOf];omega
        ·rw [decide_eq_false hkm] at hcm
         go_wp2_with fail
         refine (Hbk.out _ Hf2.out).mono ?_
         rintro e w5 ⟨rfl,rfl⟩
         go_wp2_with (at_builtin;refine append_i64 (n:=l.length) (base:=w3.heap.size) (xs:=(i64s l)) (y:=(b:Int)) rfl rfl rfl ?e1 rfl ?e2 ?e3 ?e4 ?_)
         case e1=>exact oOB Ho2.out fun y hy=>hAE _ _ _ (oLT Ho2.out hy)
         case e2=>first|(first|(rw [hAC,if_pos rfl];done)|exact (Array.getElem?_eq_some_iff.1 ((hAC _ _ _).trans (if_pos rfl))).2|(simp only [hDR,hDN];rw [hAC,if_pos rfl];done))|(repeat first|rw [if_pos (by omega)]|rw [if_neg (by omega)]|rw [hDR]|rw [hDN]|rw [hAz]|rw [hSz]|rw [hAC]|rw [hSC]|rw [oMS]|rw [uPC]|rw [lSZ]|rw [lSS]|rfl)
         case e3=>(have:=Hll.out;omega)
         case e4=>have:=Hf2.out.size;(first|omega|(simp only [hDR,hDN,hAz];omega)|(simp;omega))
         intro g2 cap w9 hown1 hW1 hF1 hloc1 hg1
         rw [i64s_snoc] at hown1
         have Hown1:=Lib.hid hown1
         have Hf9:=Lib.hid (fr_append Hf2.out Ho2.out hF1)
         clear hown1 hW1 hF1 hloc1
         go_wp2
         go_roundw
         case rel =>
          refine⟨k+1,lost,l++[b],rfl,by go_num,by omega,by rw [List.length_append,Hll.out,List.length_singleton];omega,HDl.out.append (fun z hz=>by rw [List.mem_singleton] at hz;omega),?_,by rw [Hlost.out,show min (k+1) m=min k m by omega],by rw [List.length_append];exact Hown1.out,Hf9.out⟩
          rw [val_snoc,Hvl.out,Hll.out,drop_step (by omega),Hb.out,Nat.mul_add,Nat.pow_add,Nat.mul_assoc]
         case measure=>simp [intOf];omega
       ·obtain rfl:k=N:=by omega
        have hVk:V % 2 ^ k=V:=Nat.mod_eq_of_lt HVN.out
        have hlost2:decide (V % 2 ^ m≠0)=lost:=by
         rw [Hlost.out]
         rcases Nat.lt_or_ge m k with h|h
         ·rw [show min k m=m by omega]
         ·rw [show min k m=k by omega,hVk,Nat.mod_eq_of_lt (Nat.lt_of_lt_of_le HVN.out (Nat.pow_le_pow_right (by omega) h))]
        have hof:=ofBits_calls (Reads.of_owns Ho2.out) HDl.out (by have:=Hll.out;omega)
        rw [Hvl.out,hVk] at hof
        have hS:=HS.out
        unfold shV at hS
        rw [hlost2] at hS
        obtain⟨W,hW⟩:∃ W,2 ^ i*(V / 2 ^ m)=W:=⟨_,rfl⟩
        rw [hW] at hS hof
        obtain⟨O,hO⟩:∃ O,dg 256 W=O:=⟨_,rfl⟩
        have hOl:O.length≤1000:=by
         rw [← hO,dg_length_le (by omega),← hW]
         have h1:V / 2 ^ m≤V:=Nat.div_le_self _ _
         exact big_256 (i:=i) (k:=k) (x:=V / 2 ^ m) (a:=2056) (b:=2048) (c:=1000) (by omega) hN (Nat.lt_of_le_of_lt h1 HVN.out)
        have hOV:val 256 O=W:=by rw [← hO];exact val_dg (by omega) W
        have hOD:Dig 256 O:=by rw [← hO];exact dg_dig (by omega) W
        rw [hO] at hof
        have Hof:=Lib.hid hof
        have HS2:=Lib.hid hS
        have HOV:=Lib.hid hOV
        have HOD:=Lib.hid hOD
        have Hfw:=Lib.hid (Hf2.out)
        clear hVk hlost2 hof hS hW hO hOV hOD
        go_wp2_with fail
        refine Hof.out.mono ?_
        rintro e w6 ⟨ra,rc,hlo,rfl,hr,hf⟩
        have hf36:Fr [] w3 w6:=Hf2.out.trans0 hf
        (try clear a0)
        (try clear a1)
        (try clear al)
        have ha_:=(hf36.block _ (lBk Ha.out) (by simp)).trans Ha.out
        clear Ha
        have a0:=hEC ha_ 0
        have a1:=hEC ha_ 1
        have al:=lBk ha_
        have Ha:=Lib.hid ha_
        clear ha_
        (try clear c0)
        (try clear c1)
        (try clear c0z)
        (try clear c1z)
        (try clear cl)
        have hc_:=(hf36.block _ (lBk Hc.out) (by simp)).trans Hc.out
        clear Hc
        have c0:=hEC hc_ 0
        have c0z:=hEF hc_ 0
        have c1:=hEC hc_ 1
        have c1z:=hEF hc_ 1
        have cl:=lBk hc_
        have Hc:=Lib.hid hc_
        clear hc_
        have Hf:=Lib.hid (Hf.out.trans0 hf36)
        have Hr:=Lib.hid hr
        have Hrc:=Lib.hid hlo.1
        have Hw6:=Lib.hid (show w.heap.size+1<w6.heap.size by have:=Hw23.out;have:=hf36.size;omega)
        clear hf hf36 hr hlo
        cases neg<;>cases lost
        ·
         have hS:=HS2.out
         simp only [Bool.and_self,Bool.false_and,Bool.and_false,Bool.false_eq_true,if_false,Nat.add_zero] at hS
         have hbg:=big_calls (neg:=false) Hr.out HOD.out (by omega) Hrc.out
         rw [HOV.out,← hS] at hbg
         have Hbg:=Lib.hid hbg
         clear hS HS2 hbg
         go_wp2_with fail
         refine Hbg.out.mono ?_
         rintro e w8 ⟨ra,rc,hlo,rfl,hr,hf⟩
         (try clear c0)
         (try clear c1)
         (try clear c0z)
         (try clear c1z)
         (try clear cl)
         have hc_:=(hf.block _ (lBk Hc.out) (by simp)).trans Hc.out
         clear Hc
         have c0:=hEC hc_ 0
         have c0z:=hEF hc_ 0
         have c1:=hEC hc_ 1
         have c1z:=hEF hc_ 1
         have cl:=lBk hc_
         have Hc:=Lib.hid hc_
         clear hc_
         have Hf:=Lib.hid (Hf.out.trans0 hf)
         have Hlo:=Lib.hid hlo
         have Hr:=Lib.hid hr
         clear hlo hr hf
         (try clear a0 a1 al)
         obtain⟨r1,r2,r3⟩:=r
         go_wp2
         (try simp only [Exit.inBlock,Exit.then])
         refine bodyPost_ret (bRS rfl (b:=w.heap.size+1) (x:=.bool r1) (y:=.slice ra r2.length rc) rfl ?_ rfl) rfl ⟨_,_,⟨Hlo.out.1,fun g hg=>(by have:=Hlo.out.2 g hg;have:=Hw6.out;omega)⟩,rfl,?_,?_⟩
         ·have h:=Hc.out
          (repeat first|rw [if_pos (by omega)]|rw [if_neg (by omega)]|rw [hDR]|rw [hDN]|rw [hAz]|rw [hSz]|rw [hAC]|rw [hSC]|rw [oMS]|rw [uPC]|rw [lSZ]|rw [lSS]|rfl)
          rw [h]
          (repeat first|rw [if_pos (by omega)]|rw [if_neg (by omega)]|rw [hDR]|rw [hDN]|rw [hAz]|rw [hSz]|rw [hAC]|rw [hSC]|rw [oMS]|rw [uPC]|rw [lSZ]|rw [lSS]|rfl)
         ·refine Hr.out.keep fun x hx hl=>?_
          have:=Hlo.out.2 x hx
          have:=Hw6.out
          rw [sCE _ _ _ (by simp;omega),sCE _ _ _ (by simp;omega)]
         ·exact (Hf.out.setCell (.inr (by simp;try omega)) _).setCell (.inr (by simp;try omega)) _
        ·
         have hS:=HS2.out
         simp only [Bool.and_self,Bool.false_and,Bool.and_false,Bool.false_eq_true,if_false,Nat.add_zero] at hS
         have hbg:=big_calls (neg:=false) Hr.out HOD.out (by omega) Hrc.out
         rw [HOV.out,← hS] at hbg
         have Hbg:=Lib.hid hbg
         clear hS HS2 hbg
         go_wp2_with fail
         refine Hbg.out.mono ?_
         rintro e w8 ⟨ra,rc,hlo,rfl,hr,hf⟩
         (try clear c0)
         (try clear c1)
         (try clear c0z)
         (try clear c1z)
         (try clear cl)
         have hc_:=(hf.block _ (lBk Hc.out) (by simp)).trans Hc.out
         clear Hc
         have c0:=hEC hc_ 0
         have c0z:=hEF hc_ 0
         have c1:=hEC hc_ 1
         have c1z:=hEF hc_ 1
         have cl:=lBk hc_
         have Hc:=Lib.hid hc_
         clear hc_
         have Hf:=Lib.hid (Hf.out.trans0 hf)
         have Hlo:=Lib.hid hlo
         have Hr:=Lib.hid hr
         clear hlo hr hf
         (try clear a0 a1 al)
         obtain⟨r1,r2,r3⟩:=r
         go_wp2
         (try simp only [Exit.inBlock,Exit.then])
         refine bodyPost_ret (bRS rfl (b:=w.heap.size+1) (x:=.bool r1) (y:=.slice ra r2.length rc) rfl ?_ rfl) rfl ⟨_,_,⟨Hlo.out.1,fun g hg=>(by have:=Hlo.out.2 g hg;have:=Hw6.out;omega)⟩,rfl,?_,?_⟩
         ·have h:=Hc.out
          (repeat first|rw [if_pos (by omega)]|rw [if_neg (by omega)]|rw [hDR]|rw [hDN]|rw [hAz]|rw [hSz]|rw [hAC]|rw [hSC]|rw [oMS]|rw [uPC]|rw [lSZ]|rw [lSS]|rfl)
          rw [h]
          (repeat first|rw [if_pos (by omega)]|rw [if_neg (by omega)]|rw [hDR]|rw [hDN]|rw [hAz]|rw [hSz]|rw [hAC]|rw [hSC]|rw [oMS]|rw [uPC]|rw [lSZ]|rw [lSS]|rfl)
         ·refine Hr.out.keep fun x hx hl=>?_
          have:=Hlo.out.2 x hx
          have:=Hw6.out
          rw [sCE _ _ _ (by simp;omega),sCE _ _ _ (by simp;omega)]
         ·exact (Hf.out.setCell (.inr (by simp;try omega)) _).setCell (.inr (by simp;try omega)) _
        ·
         have hS:=HS2.out
         simp only [Bool.and_self,Bool.false_and,Bool.and_false,Bool.false_eq_true,if_false,Nat.add_zero] at hS
         have hbg:=big_calls (neg:=true) Hr.out HOD.out (by omega) Hrc.out
         rw [HOV.out,← hS] at hbg
         have Hbg:=Lib.hid hbg
         clear hS HS2 hbg
         go_wp2_with fail
         refine Hbg.out.mono ?_
         rintro e w8 ⟨ra,rc,hlo,rfl,hr,hf⟩
         (try clear c0)
         (try clear c1)
         (try clear c0z)
         (try clear c1z)
         (try clear cl)
         have hc_:=(hf.block _ (lBk Hc.out) (by simp)).trans Hc.out
         clear Hc
         have c0:=hEC hc_ 0
         have c0z:=hEF hc_ 0
         have c1:=hEC hc_ 1
         have c1z:=hEF hc_ 1
         have cl:=lBk hc_
         have Hc:=Lib.hid hc_
         clear hc_
         have Hf:=Lib.hid (Hf.out.trans0 hf)
         have Hlo:=Lib.hid hlo
         have Hr:=Lib.hid hr
         clear hlo hr hf
         (try clear a0 a1 al)
         obtain⟨r1,r2,r3⟩:=r
         go_wp2
         (try simp only [Exit.inBlock,Exit.then])
         refine bodyPost_ret (bRS rfl (b:=w.heap.size+1) (x:=.bool r1) (y:=.slice ra r2.length rc) rfl ?_ rfl) rfl ⟨_,_,⟨Hlo.out.1,fun g hg=>(by have:=Hlo.out.2 g hg;have:=Hw6.out;omega)⟩,rfl,?_,?_⟩
         ·have h:=Hc.out
          (repeat first|rw [if_pos (by omega)]|rw [if_neg (by omega)]|rw [hDR]|rw [hDN]|rw [hAz]|rw [hSz]|rw [hAC]|rw [hSC]|rw [oMS]|rw [uPC]|rw [lSZ]|rw [lSS]|rfl)
          rw [h]
          (repeat first|rw [if_pos (by omega)]|rw [if_neg (by omega)]|rw [hDR]|rw [hDN]|rw [hAz]|rw [hSz]|rw [hAC]|rw [hSC]|rw [oMS]|rw [uPC]|rw [lSZ]|rw [lSS]|rfl)
         ·refine Hr.out.keep fun x hx hl=>?_
          have:=Hlo.out.2 x hx
          have:=Hw6.out
          rw [sCE _ _ _ (by simp;omega),sCE _ _ _ (by simp;omega)]
         ·exact (Hf.out.setCell (.inr (by simp;try omega)) _).setCell (.inr (by simp;try omega)) _
        ·have hS:=HS2.out
         simp only [Bool.and_self,if_true] at hS
         have HS3:=Lib.hid hS
         clear hS HS2
         go_wp2_with fail
         refine (rplus_calls (Hr.out.fr (by (repeat first|exact Fr.refl _ _|assumption|apply Fr.n|apply Fr.d|apply Fr.a|refine Fr.s ?_ (.inr (by simp;try omega)) _))) (reads_blk (cs:=i64s [1]) (by (repeat first|rw [if_pos (by omega)]|rw [if_neg (by omega)]|rw [hDR]|rw [hDN]|rw [hAz]|rw [hSz]|rw [hAC]|rw [hSC]|rw [oMS]|rw [uPC]|rw [lSZ]|rw [lSS]|rfl)) rfl) HOD.out (db:=[1]) (fun x hx=>by simp at hx;omega) (by omega) (by simp)).mono ?_
         rintro e w7 ⟨L,hLD,hLV,hLl,la,lc,hlo,rfl,hr,hf0⟩
         have hf:Fr [] w6 w7:=Fr.trans0 (by (repeat first|exact Fr.refl _ _|assumption|apply Fr.n|apply Fr.d|apply Fr.a|refine Fr.s ?_ (.inr (by simp;try omega)) _)) hf0
         (try clear a0)
         (try clear a1)
         (try clear al)
         have ha_:=(hf.block _ (lBk Ha.out) (by simp)).trans Ha.out
         clear Ha
         have a0:=hEC ha_ 0
         have a1:=hEC ha_ 1
         have al:=lBk ha_
         have Ha:=Lib.hid ha_
         clear ha_
         (try clear c0)
         (try clear c1)
         (try clear c0z)
         (try clear c1z)
         (try clear cl)
         have hc_:=(hf.block _ (lBk Hc.out) (by simp)).trans Hc.out
         clear Hc
         have c0:=hEC hc_ 0
         have c0z:=hEF hc_ 0
         have c1:=hEC hc_ 1
         have c1z:=hEF hc_ 1
         have cl:=lBk hc_
         have Hc:=Lib.hid hc_
         clear hc_
         have Hf:=Lib.hid (Hf.out.trans0 hf)
         rw [HOV.out,show val 256 [1]=1 by rfl] at hLV
         have hbg:=big_calls (neg:=true) hr hLD (by simp at hLl;omega) hlo.1
         rw [hLV,← HS3.out] at hbg
         have Hbg:=Lib.hid hbg
         have Hw7:=Lib.hid (show w.heap.size+1<w7.heap.size by have:=Hw6.out;have:=hf.size;omega)
         clear hf hf0 hr hlo hLD hLV hLl hbg
         go_wp2_with fail
         refine Hbg.out.mono ?_
         rintro e w8 ⟨ra,rc,hlo,rfl,hr,hf⟩
         (try clear c0)
         (try clear c1)
         (try clear c0z)
         (try clear c1z)
         (try clear cl)
         have hc_:=(hf.block _ (lBk Hc.out) (by simp)).trans Hc.out
         clear Hc
         have c0:=hEC hc_ 0
         have c0z:=hEF hc_ 0
         have c1:=hEC hc_ 1
         have c1z:=hEF hc_ 1
         have cl:=lBk hc_
         have Hc:=Lib.hid hc_
         clear hc_
         have Hf:=Lib.hid (Hf.out.trans0 hf)
         have Hlo:=Lib.hid hlo
         have Hr:=Lib.hid hr
         clear hlo hr hf
         (try clear a0 a1 al)
         obtain⟨r1,r2,r3⟩:=r
         go_wp2
         (try simp only [Exit.inBlock,Exit.then])
         refine bodyPost_ret (bRS rfl (b:=w.heap.size+1) (x:=.bool r1) (y:=.slice ra r2.length rc) rfl ?_ rfl) rfl ⟨_,_,⟨Hlo.out.1,fun g hg=>(by have:=Hlo.out.2 g hg;have:=Hw7.out;omega)⟩,rfl,?_,?_⟩
         ·have h:=Hc.out
          (repeat first|rw [if_pos (by omega)]|rw [if_neg (by omega)]|rw [hDR]|rw [hDN]|rw [hAz]|rw [hSz]|rw [hAC]|rw [hSC]|rw [oMS]|rw [uPC]|rw [lSZ]|rw [lSS]|rfl)
          rw [h]
          (repeat first|rw [if_pos (by omega)]|rw [if_neg (by omega)]|rw [hDR]|rw [hDN]|rw [hAz]|rw [hSz]|rw [hAC]|rw [hSC]|rw [oMS]|rw [uPC]|rw [lSZ]|rw [lSS]|rfl)
         ·refine Hr.out.keep fun x hx hl=>?_
          have:=Hlo.out.2 x hx
          have:=Hw7.out
          rw [sCE _ _ _ (by simp;omega),sCE _ _ _ (by simp;omega)]
         ·exact (Hf.out.setCell (.inr (by simp;try omega)) _).setCell (.inr (by simp;try omega)) _
end Go.Proofs.Ytppmnmheodimoaa
end
