/- Own texts of this claim, part 28: no condition. -/
import Derived.Test.YtppmnmheodimoaaZD26
import Derived.Test.YtppmnmheodimoaaZD22
import Derived.Test.YtppmnmheodimoaaZD6
import Derived.Test.YtppmnmheodimoaaZD25
set_option linter.unusedVariables false
set_option linter.unusedSimpArgs false
section
namespace Go.Proofs.Ytppmnmheodimoaa
open Go Go.RowKit Rg Mp Hp Qs Ev
def aw1:List K4:=[⟨0,1,0,0⟩]
def aw2:List K4:=[⟨0,1,0,0⟩,⟨0,0,0,0⟩]
def aw3:List K4:=[⟨0,1,0,0⟩,⟨0,0,0,0⟩,⟨3,3,3,2⟩]
def awT:Tr:=.node (.node (.leaf 0) (.leaf 0) (.leaf 0) (.leaf 0)) (.node (.leaf 0) (.leaf 0) (.leaf 0) (.leaf 0)) (.node (.leaf 0) (.leaf 0) (.leaf 0) (.leaf 0)) (.node (.leaf 0) (.leaf 1) (.leaf 0) (.leaf 0))
theorem aw_join1:join 2 [] ⟨0,1,0,0⟩=((2,0),aw1):=by decide +kernel
theorem aw_empty:emptyQ 2 aw1 1=((3,0),aw2):=by decide +kernel
theorem aw_join2:join 2 aw2 ⟨3,3,3,2⟩=((4,0),aw3):=by decide +kernel
theorem aw_tr:tr 2 aw3 4=awT:=by decide +kernel
theorem aw_lvl:lvl 2 (levs 2 aw3) 4=2:=by decide +kernel
theorem aw_right:rightR rightRule=true:=by decide +kernel
theorem aw_lost:lostOf (radius rightRule.hood)=2:=by decide +kernel
theorem aw_most0:mostOf rightRule 2=0:=by decide +kernel
theorem aw_most5:mostOf rightRule 5=3:=by decide +kernel
theorem aw_rows:cellsL 2 awT=[[0,0,0,0],[0,0,0,0],[0,0,0,1],[0,0,0,0]]:=by decide +kernel
theorem aw_step:cellsL 1 (stp (gen rightRule) 2 0 awT)=[[0,0],[0,1]]:=by decide +kernel
theorem Empty_has {W w:World} {b:Nat} {s:Int} {ns:List K4} {Ps:List Res} (h:Has W w (sTR b s ns::Ps)) (l:Int) :
  Calls Try.prog 41 #[.pointer (some ⟨b,0,none⟩),.int .i64 l] w fun e w'=>e=.returned (.tuple #[.int .i64 (emptyQ s ns l).1.1,.int .i64 (emptyQ s ns l).1.2])∧Has W w' (sTR b s (emptyQ s ns l).2::Ps) :=
 h.upd (P':=sTR b s (emptyQ s ns l).2) (R:=fun e=>e=.returned (.tuple #[.int .i64 (emptyQ s ns l).1.1,.int .i64 (emptyQ s ns l).1.2])) fun F hS=>(Empty_calls hS l).mono fun e w' h=>h
theorem New_has {W w:World} {Ps:List Res} (h:Has W w Ps) (s:Int) (h1:2≤s) (h2:s≤8) :
  Calls Try.prog 29 #[.int .i64 s] w fun e w'=>∃ b,e=.returned (.tuple #[.pointer (some ⟨b,0,none⟩),.int .i64 0])∧Has W w' (sTR b s []::Ps):=by
 refine (New_ok s w h1 h2).mono ?_
 rintro e w' ⟨b,F,rfl,hS,hf,hF⟩
 exact⟨b,rfl,h.new hf hS hF⟩
theorem get_len {κ ν:Type} [DecidableEq κ] {l:List (κ×ν)} {k:κ} {v:ν} (h:get? l k=some v):1≤l.length:=by
 rcases l with _|⟨x,l⟩
 ·simp [get?] at h
 ·simp
theorem Is.same {s:Int} {ns:List K4} (hg:GoodQ s ns) {n m:Nat} {id:Int} {t u:Tr} (h:Is s ns n id t) (k:Is s ns m id u):n=m∧t=u:=by
 have a:=h.lvl hg
 have b:=k.lvl hg
 exact⟨by omega,h.2.1.symm.trans k.2.1⟩
theorem rows_lit2 {w:World} {b0 b1 b2 c:Nat} {x0 x1:List Int} (h0:w.heap[b0]?=some (.cells (iv x0).toArray 3 (0,0))) (h1:w.heap[b1]?=some (.cells (iv x1).toArray 3 (0,0)))
  (h2:w.heap[b2]?=some (.cells #[.slice (some ⟨b0,0,none⟩) x0.length x0.length,.slice (some ⟨b1,0,none⟩) x1.length x1.length] 71 (0,0))):RowsAt w (.slice (some ⟨b2,0,none⟩) 2 c) [x0,x1]:=by
 refine⟨[.slice (some ⟨b0,0,none⟩) x0.length x0.length,.slice (some ⟨b1,0,none⟩) x1.length x1.length],reads_blk h2 rfl,fun i r hi=>?_⟩
 rcases i with _|_|i
 ·obtain rfl:=Option.some.inj hi
  exact⟨_,rfl,reads_blk h0 (by simp [iv])⟩
 ·obtain rfl:=Option.some.inj hi
  exact⟨_,rfl,reads_blk h1 (by simp [iv])⟩
 ·simp at hi
theorem rows_lit4 {w:World} {b0 b1 b2 b3 b4 c:Nat} {x0 x1 x2 x3:List Int} (h0:w.heap[b0]?=some (.cells (iv x0).toArray 3 (0,0))) (h1:w.heap[b1]?=some (.cells (iv x1).toArray 3 (0,0))) (h2:w.heap[b2]?=some (.cells (iv x2).toArray 3 (0,0))) (h3:w.heap[b3]?=some (.cells (iv x3).toArray 3 (0,0)))
  (h4:w.heap[b4]?=some (.cells #[.slice (some ⟨b0,0,none⟩) x0.length x0.length,.slice (some ⟨b1,0,none⟩) x1.length x1.length,.slice (some ⟨b2,0,none⟩) x2.length x2.length,.slice (some ⟨b3,0,none⟩) x3.length x3.length] 71 (0,0))):RowsAt w (.slice (some ⟨b4,0,none⟩) 4 c) [x0,x1,x2,x3]:=by
 refine⟨[.slice (some ⟨b0,0,none⟩) x0.length x0.length,.slice (some ⟨b1,0,none⟩) x1.length x1.length,.slice (some ⟨b2,0,none⟩) x2.length x2.length,.slice (some ⟨b3,0,none⟩) x3.length x3.length],reads_blk h4 rfl,fun i r hi=>?_⟩
 rcases i with _|_|_|_|i
 ·obtain rfl:=Option.some.inj hi
  exact⟨_,rfl,reads_blk h0 (by simp [iv])⟩
 ·obtain rfl:=Option.some.inj hi
  exact⟨_,rfl,reads_blk h1 (by simp [iv])⟩
 ·obtain rfl:=Option.some.inj hi
  exact⟨_,rfl,reads_blk h2 (by simp [iv])⟩
 ·obtain rfl:=Option.some.inj hi
  exact⟨_,rfl,reads_blk h3 (by simp [iv])⟩
 ·simp at hi
set_option maxHeartbeats 16000000 in
set_option maxRecDepth 100000 in
theorem LAwake_calls {w:World}:Calls Try.prog 14 #[] w fun e w'=>e=.returned (.bool true)∧Fr [] w w':=by
 go_enter Try.func14,Try.ntmps14
 go_wp2_with fail
 refine (New_has (W:=w) (Has.nil (by (repeat first|exact Fr.refl _ _|assumption|apply Fr.n|apply Fr.d|apply Fr.a|refine Fr.s ?_ (.inr (by simp;try omega)) _))) 2 (by omega) (by omega)).mono ?_
 rintro e w1 ⟨b,rfl,h⟩
 have H:=Lib.hid h
 clear h
 go_wp2_with fail
 refine (Join_has (H.out.step (by (repeat first|exact Fr.refl _ _|assumption|apply Fr.n|apply Fr.d|apply Fr.a|refine Fr.s ?_ (.inr (by simp;try omega)) _))) 0 1 0 0).mono ?_
 rw [aw_join1]
 rintro e w2 ⟨rfl,h⟩
 have H:=Lib.hid h
 clear h
 go_wp2_with fail
 refine (Empty_has (H.out.step (by (repeat first|exact Fr.refl _ _|assumption|apply Fr.n|apply Fr.d|apply Fr.a|refine Fr.s ?_ (.inr (by simp;try omega)) _))) 1).mono ?_
 rw [aw_empty]
 rintro e w3 ⟨rfl,h⟩
 have H:=Lib.hid h
 clear h
 go_wp2_with fail
 refine (Join_has (H.out.step (by (repeat first|exact Fr.refl _ _|assumption|apply Fr.n|apply Fr.d|apply Fr.a|refine Fr.s ?_ (.inr (by simp;try omega)) _))) 3 3 3 2).mono ?_
 rw [aw_join2]
 rintro e w4 ⟨rfl,h⟩
 have H:=Lib.hid h
 clear h
 go_wp2_with fail
 refine LRight_calls.mono ?_
 rintro e w5 ⟨ha,na,hc,nc,rfl,hru,hf⟩
 have H:=Lib.hid (rule_new (H.out.step (by (repeat first|exact Fr.refl _ _|assumption|apply Fr.n|apply Fr.d|apply Fr.a|refine Fr.s ?_ (.inr (by simp;try omega)) _))) hru hf).swap
 clear hru hf
 have HRS:=Lib.hid (fun w1 Qs (h:Has w w1 Qs) hm=>rule_src (W:=w) (hv:=.slice ha 2 hc) (nv:=.slice na 2 nc) (r:=rightRule) (Ps:=[]) w1 Qs h hm)
 go_wp2_with fail
 refine (MNew_calls (r:=rightRule) (ha:=ha) (na:=na) (hc:=hc) (nc:=nc) (HRS.out _ _ (H.out.step (by (repeat first|exact Fr.refl _ _|assumption|apply Fr.n|apply Fr.d|apply Fr.a|refine Fr.s ?_ (.inr (by simp;try omega)) _))) (by simp)) (by decide) (by decide) aw_right (H.out.step (by (repeat first|exact Fr.refl _ _|assumption|apply Fr.n|apply Fr.d|apply Fr.a|refine Fr.s ?_ (.inr (by simp;try omega)) _)))).mono ?_
 rintro e w6 (⟨hne,_⟩|⟨_,mb,rb,rfl,h⟩)
 ·exact absurd rfl hne
 have H:=Lib.hid h
 clear h
 go_wp2_with fail
 refine (MStep_calls (L:=need (gen rightRule) 2 2 0 awT) aw_right rule_src (H.out.step (by (repeat first|exact Fr.refl _ _|assumption|apply Fr.n|apply Fr.d|apply Fr.a|refine Fr.s ?_ (.inr (by simp;try omega)) _))) (room.of_len (by rw [need_length];decide +kernel)) (fun id k v h=>by simp [get?] at h) 4 0 (fun n k' t hi hk h1 h2=>?hneed)).mono ?_
 case hneed =>
  obtain rfl:k'=0:=by omega
  have hn:n=2:=by
   have:=hi.lvl (has_good H.out)
   rw [show (rightRule.S)=2 from rfl,aw_lvl] at this
   omega
  subst hn
  have ht:t=awT:=by rw [← hi.2.1];exact aw_tr
  subst ht
  rw [aw_lost]
  exact⟨by omega,fun u hu=>hu⟩
 rintro e w7 hend
 have hI:Is 2 aw3 2 4 awT:=aw_tr▸Is.of_lvl (has_good H.out) aw_lvl
 rcases hend with ⟨hk,_⟩|⟨n,t,hi,hm,_⟩|⟨n,t,k',hi,hk,_,_,res,ns7,mm7,rfl,h7,hp7,hr7,hkp,hres,_,hget,_⟩
 ·exact absurd hI.kn hk
 ·obtain⟨rfl,rfl⟩:=Is.same (has_good H.out) hI hi
  have:=aw_most0
  rcases hm with h|h
  ·omega
  ·rw [show ((2:Nat):Int)=2 from rfl,aw_most0] at h;omega
 obtain⟨rfl,rfl⟩:=Is.same (has_good H.out) hI hi
 obtain rfl:k'=0:=by omega
 have H7:=Lib.hid h7
 have HI:=Lib.hid (hI.grow hp7)
 have HRES:=Lib.hid hres
 have HGET:=Lib.hid hget
 have HKP:=Lib.hid (And.intro hr7 hkp)
 clear h7 hp7 hr7 hkp hres hget hi hk hI H
 go_wp2_with fail
 refine (MStep_calls (L:=need (gen rightRule) 2 2 0 awT) aw_right rule_src (H7.out.step (by (repeat first|exact Fr.refl _ _|assumption|apply Fr.n|apply Fr.d|apply Fr.a|refine Fr.s ?_ (.inr (by simp;try omega)) _))) HKP.out.1 HKP.out.2 4 1 (fun n k' t hi hk h1 h2=>?hneed)).mono ?_
 case hneed =>
  obtain⟨rfl,rfl⟩:=Is.same (has_good H7.out) HI.out hi
  rw [aw_lost] at h2
  omega
 rintro e w8 hend
 rcases hend with ⟨hk,_⟩|⟨n,t,hi,hm,rfl,h8⟩|⟨n,t,k',hi,hk,h1,h2,_⟩
 ·exact absurd HI.out.kn hk
 rotate_left
 ·obtain⟨rfl,rfl⟩:=Is.same (has_good H7.out) HI.out hi
  rw [aw_lost] at h2
  omega
 have H8:=Lib.hid h8
 clear h8 hi hm H7
 go_wp2_with fail
 refine (MStep_calls (L:=need (gen rightRule) 2 2 0 awT) aw_right rule_src (H8.out.step (by (repeat first|exact Fr.refl _ _|assumption|apply Fr.n|apply Fr.d|apply Fr.a|refine Fr.s ?_ (.inr (by simp;try omega)) _))) HKP.out.1 HKP.out.2 (-1) 0 (fun n k' t hi hk h1 h2=>absurd hi.kn.1 (by omega))).mono ?_
 rintro e w9 hend
 rcases hend with ⟨hk,rfl,h9⟩|⟨n,t,hi,_⟩|⟨n,t,k',hi,_⟩
 rotate_left
 ·exact absurd hi.kn.1 (by omega)
 ·exact absurd hi.kn.1 (by omega)
 have H9:=Lib.hid h9
 clear h9 hk H8
 go_wp2_with fail
 refine (MStep_nil 0 0).mono ?_
 rintro e w10 ⟨rfl,rfl⟩
 go_wp2_with fail
 refine (MMost_nil 5).mono ?_
 rintro e w11 ⟨rfl,rfl⟩
 go_wp2_with fail
 refine (MMost_calls (H9.out.step (by (repeat first|exact Fr.refl _ _|assumption|apply Fr.n|apply Fr.d|apply Fr.a|refine Fr.s ?_ (.inr (by simp;try omega)) _))) 5).mono ?_
 rw [aw_most5]
 rintro e w12 ⟨rfl,rfl⟩
 go_wp2_with fail
 refine (MKnown_calls (H9.out.step (by (repeat first|exact Fr.refl _ _|assumption|apply Fr.n|apply Fr.d|apply Fr.a|refine Fr.s ?_ (.inr (by simp;try omega)) _)))).mono ?_
 rintro e w13 ⟨rfl,rfl⟩
 have hlen:=get_len HGET.out
 go_wp2_with fail
 refine (LRows_calls (H9.out.step (by (repeat first|exact Fr.refl _ _|assumption|apply Fr.n|apply Fr.d|apply Fr.a|refine Fr.s ?_ (.inr (by simp;try omega)) _))) HI.out (by omega) HKP.out.1.len).mono ?_
 rintro e w14 ⟨ra,rc,rfl,hg,hf⟩
 have H14:=Lib.hid (H9.out.step (Fr.trans0 (by (repeat first|exact Fr.refl _ _|assumption|apply Fr.n|apply Fr.d|apply Fr.a|refine Fr.s ?_ (.inr (by simp;try omega)) _)) hf))
 have HG:=Lib.hid hg.rows
 clear hg hf
 rw [aw_rows] at HG
 go_wp2_with fail
 refine (LSame_calls (HG.out.fr (by (repeat first|exact Fr.refl _ _|assumption|apply Fr.n|apply Fr.d|apply Fr.a|refine Fr.s ?_ (.inr (by simp;try omega)) _))) (rows_lit4 (b0:=w14.heap.size) (b1:=w14.heap.size+1) (b2:=w14.heap.size+2) (b3:=w14.heap.size+3) (b4:=w14.heap.size+4) (x0:=[0,0,0,0]) (x1:=[0,0,0,0]) (x2:=[0,0,0,1]) (x3:=[0,0,0,0]) (by (repeat first|rw [if_pos (by omega)]|rw [if_neg (by omega)]|rw [hDR]|rw [hDN]|rw [hAz]|rw [hSz]|rw [hAC]|rw [hSC]|rw [oMS]|rw [uPC]|rw [lSZ]|rw [lSS]|rfl)) (by (repeat first|rw [if_pos (by omega)]|rw [if_neg (by omega)]|rw [hDR]|rw [hDN]|rw [hAz]|rw [hSz]|rw [hAC]|rw [hSC]|rw [oMS]|rw [uPC]|rw [lSZ]|rw [lSS]|rfl)) (by (repeat first|rw [if_pos (by omega)]|rw [if_neg (by omega)]|rw [hDR]|rw [hDN]|rw [hAz]|rw [hSz]|rw [hAC]|rw [hSC]|rw [oMS]|rw [uPC]|rw [lSZ]|rw [lSS]|rfl)) (by (repeat first|rw [if_pos (by omega)]|rw [if_neg (by omega)]|rw [hDR]|rw [hDN]|rw [hAz]|rw [hSz]|rw [hAC]|rw [hSC]|rw [oMS]|rw [uPC]|rw [lSZ]|rw [lSS]|rfl)) (by (repeat first|rw [if_pos (by omega)]|rw [if_neg (by omega)]|rw [hDR]|rw [hDN]|rw [hAz]|rw [hSz]|rw [hAC]|rw [hSC]|rw [oMS]|rw [uPC]|rw [lSZ]|rw [lSS]|rfl))) (by decide) (by decide) (by decide) (by decide)).mono ?_
 rintro e w15 ⟨rfl,hf⟩
 have H15:=Lib.hid (H14.out.step (Fr.trans0 (by (repeat first|exact Fr.refl _ _|assumption|apply Fr.n|apply Fr.d|apply Fr.a|refine Fr.s ?_ (.inr (by simp;try omega)) _)) hf))
 clear hf H14 HG
 rw [decide_eq_true rfl]
 go_wp2_with fail
 refine (LRows_calls (H15.out.step (by (repeat first|exact Fr.refl _ _|assumption|apply Fr.n|apply Fr.d|apply Fr.a|refine Fr.s ?_ (.inr (by simp;try omega)) _))) HRES.out (by omega) HKP.out.1.len).mono ?_
 rintro e w16 ⟨ra,rc,rfl,hg,hf⟩
 have H16:=Lib.hid (H15.out.step (Fr.trans0 (by (repeat first|exact Fr.refl _ _|assumption|apply Fr.n|apply Fr.d|apply Fr.a|refine Fr.s ?_ (.inr (by simp;try omega)) _)) hf))
 have HG:=Lib.hid hg.rows
 clear hg hf H15
 rw [show 2 - 1=1 from rfl,aw_step] at HG
 go_wp2_with fail
 refine (LSame_calls (HG.out.fr (by (repeat first|exact Fr.refl _ _|assumption|apply Fr.n|apply Fr.d|apply Fr.a|refine Fr.s ?_ (.inr (by simp;try omega)) _))) (rows_lit2 (b0:=w16.heap.size) (b1:=w16.heap.size+1) (b2:=w16.heap.size+2) (x0:=[0,0]) (x1:=[0,1]) (by (repeat first|rw [if_pos (by omega)]|rw [if_neg (by omega)]|rw [hDR]|rw [hDN]|rw [hAz]|rw [hSz]|rw [hAC]|rw [hSC]|rw [oMS]|rw [uPC]|rw [lSZ]|rw [lSS]|rfl)) (by (repeat first|rw [if_pos (by omega)]|rw [if_neg (by omega)]|rw [hDR]|rw [hDN]|rw [hAz]|rw [hSz]|rw [hAC]|rw [hSC]|rw [oMS]|rw [uPC]|rw [lSZ]|rw [lSS]|rfl)) (by (repeat first|rw [if_pos (by omega)]|rw [if_neg (by omega)]|rw [hDR]|rw [hDN]|rw [hAz]|rw [hSz]|rw [hAC]|rw [hSC]|rw [oMS]|rw [uPC]|rw [lSZ]|rw [lSS]|rfl))) (by decide) (by decide) (by decide) (by decide)).mono ?_
 rintro e w17 ⟨rfl,hf⟩
 have H17:=Lib.hid (H16.out.step (Fr.trans0 (by (repeat first|exact Fr.refl _ _|assumption|apply Fr.n|apply Fr.d|apply Fr.a|refine Fr.s ?_ (.inr (by simp;try omega)) _)) hf))
 clear hf H16 HG
 rw [decide_eq_true rfl]
 go_wp2
 go_ret
 exact⟨rfl,(H17.out.step (by (repeat first|exact Fr.refl _ _|assumption|apply Fr.n|apply Fr.d|apply Fr.a|refine Fr.s ?_ (.inr (by simp;try omega)) _))).fr⟩
end Go.Proofs.Ytppmnmheodimoaa
end
section
namespace Go.Proofs.Ytppmnmheodimoaa
open Go Go.RowKit Rg Mp Hp Qs Ev
end Go.Proofs.Ytppmnmheodimoaa
end
section
namespace Go.Proofs.Ytppmnmheodimoaa
open Go Go.RowKit Rg Mp Hp Qs Ev
theorem few_len {r:Rule} (h:few12 r=true):r.hood.length≤1000000∧r.nodes.length≤1000000:=by
 unfold few12 at h
 simp only [Bool.and_eq_true,decide_eq_true_eq] at h
 omega
section
variable {W w:World} {r:Rule} {hv nv:Value} {mb sb rb mb2 ub:Nat} {ns ms:List K4} {mm:List ((Int×Int)×Int)} {Ps:List Res}
end
theorem step_differ {r:Rule} {ns:List K4} (hg:GoodQ r.S ns) {id k:Int} {n m k':Nat} {t u:Tr} (h:Is r.S ns n id t) (hb:k<0∨mostOf r n<k) (h2:Is r.S ns m id u) (hk:k=k') (h3:lostOf (radius r.hood)≤m) (h4:k'≤m - lostOf (radius r.hood)) (hm:m≤6):False:=by
 obtain⟨rfl,rfl⟩:=Is.same hg h h2
 rcases hb with hb|hb
 ·omega
 ·unfold mostOf at hb
  rw [if_neg (by omega)] at hb
  omega
end Go.Proofs.Ytppmnmheodimoaa
end
section
namespace Go.Proofs.Ytppmnmheodimoaa
open Go Go.RowKit Rg Mp Hp Qs Ev
section
variable {W w':World} {r:Rule} {hv nv:Value} {mb sb rb:Nat} {L:List Tr} {ns:List K4} {mm:List ((Int×Int)×Int)} {id k:Int} {Ps:List Res} {e:Ending}
theorem StepEnd.kept (h:StepEnd W r hv nv mb sb rb L ns mm id k Ps e w') (hroom:room r.S ns L) (hkept:Kept r ns mm) :
  ∃ x y ns' mm',e=.returned (.tuple #[.int .i64 x,.int .i64 y])∧Has W w' (memoL r hv nv mb sb rb ns' mm' Ps)∧ns <+: ns'∧room r.S ns' L∧Kept r ns' mm'∧Keeps mm mm':=by
 rcases h with ⟨_,h1,h2⟩|⟨_,_,_,_,h1,h2⟩|⟨_,_,_,_,_,_,_,res,ns',mm',h1,h2,h3,h4,h5,_,h6,_⟩
 ·exact⟨_,_,ns,mm,h1,h2,List.prefix_refl _,hroom,hkept,Keeps.refl mm⟩
 ·exact⟨_,_,ns,mm,h1,h2,List.prefix_refl _,hroom,hkept,Keeps.refl mm⟩
 ·exact⟨res,0,ns',mm',h1,h2,h3,h4,h5,h6⟩
theorem StepEnd.ok (h:StepEnd W r hv nv mb sb rb L ns mm id k Ps e w') (hg:GoodQ r.S ns) {n k':Nat} {t:Tr} (hi:Is r.S ns n id t) (hk:k=k') (h1:lostOf (radius r.hood)≤n) (h2:k'≤n - lostOf (radius r.hood)) (hn:n≤6) :
  StepPost W r hv nv mb sb rb L ns mm n k' id (stp (gen r) n k' t) Ps e w':=by
 rcases h with ⟨h3,_⟩|⟨m,u,hi2,hb,_⟩|⟨m,u,k2,hi2,hk2,_,_,h3⟩
 ·exact absurd hi.kn h3
 ·exact (step_differ hg hi2 hb hi hk h1 h2 hn).elim
 ·obtain⟨rfl,rfl⟩:=Is.same hg hi hi2
  obtain rfl:k'=k2:=by omega
  exact h3
end
end Go.Proofs.Ytppmnmheodimoaa
end
section
namespace Go.Proofs.Ev
open Qs
end Go.Proofs.Ev
namespace Go.Proofs.Ytppmnmheodimoaa
open Go Go.RowKit Rg Mp Hp Qs Ev
end Go.Proofs.Ytppmnmheodimoaa
end
section
namespace Go.Proofs.Ytppmnmheodimoaa
open Go Go.RowKit Rg Mp Hp Qs Ev
end Go.Proofs.Ytppmnmheodimoaa
end
section
namespace Go.Proofs.Ytppmnmheodimoaa
open Go Qs Ev Pt
theorem cell_mem:∀ {n:Nat} {t:Tr} {x0 y0:Nat} {c:Spot},Full n t→c∈cellsT n t x0 y0→x0≤c.x∧c.x<x0+2 ^ n∧y0≤c.y∧c.y<y0+2 ^ n∧cell n t ((c.x:Int) - x0) ((c.y:Int) - y0)=c.st
 | 0,.leaf v,x0,y0,c,hf,h=>by
  unfold cellsT at h
  split at h
  ·cases h
  ·rw [List.mem_singleton] at h
   subst h
   exact⟨Nat.le_refl _,by simp,Nat.le_refl _,by simp,rfl⟩
 | 0,.node _ _ _ _,x0,y0,c,hf,h=>hf.elim
 | n+1,.leaf _,x0,y0,c,hf,h=>hf.elim
 | n+1,.node a b d e,x0,y0,c,⟨ha,hb,hd,he⟩,h=>by
  have hp:2 ^ (n+1)=2 ^ n+2 ^ n:=by rw [Nat.pow_succ];omega
  have hq:p2 n=((2 ^ n:Nat):Int):=rfl
  rw [hp]
  unfold cellsT at h
  simp only [List.mem_append] at h
  show _∧_∧_∧_∧(if (c.y:Int) - y0<p2 n then (if (c.x:Int) - x0<p2 n then cell n a _ _ else cell n b _ _) else (if (c.x:Int) - x0<p2 n then cell n d _ _ else cell n e _ _))=c.st
  rw [hq]
  generalize hP:2 ^ n=P at *
  rcases h with h|h|h|h
  ·have:=cell_mem ha h
   rw [hP] at this
   refine⟨by omega,by omega,by omega,by omega,?_⟩
   rw [if_pos (by omega),if_pos (by omega)]
   exact this.2.2.2.2
  ·have:=cell_mem hb h
   rw [hP] at this
   refine⟨by omega,by omega,by omega,by omega,?_⟩
   rw [if_pos (by omega),if_neg (by omega)]
   have e1:=this.2.2.2.2
   rw [show (c.x:Int) - ((x0+P:Nat):Int)=(c.x:Int) - x0 - (P:Int) by omega] at e1
   exact e1
  ·have:=cell_mem hd h
   rw [hP] at this
   refine⟨by omega,by omega,by omega,by omega,?_⟩
   rw [if_neg (by omega),if_pos (by omega)]
   have e1:=this.2.2.2.2
   rw [show (c.y:Int) - ((y0+P:Nat):Int)=(c.y:Int) - y0 - (P:Int) by omega] at e1
   exact e1
  ·have:=cell_mem he h
   rw [hP] at this
   refine⟨by omega,by omega,by omega,by omega,?_⟩
   rw [if_neg (by omega),if_neg (by omega)]
   have e1:=this.2.2.2.2
   rw [show (c.y:Int) - ((y0+P:Nat):Int)=(c.y:Int) - y0 - (P:Int) by omega,show (c.x:Int) - ((x0+P:Nat):Int)=(c.x:Int) - x0 - (P:Int) by omega] at e1
   exact e1
theorem cell_in:∀ {n:Nat} {t:Tr} {x0 y0 i j:Nat},Full n t→i<2 ^ n→j<2 ^ n→cell n t (i:Int) (j:Int)≠0→(⟨x0+i,y0+j,cell n t (i:Int) (j:Int)⟩:Spot)∈cellsT n t x0 y0
 | 0,.leaf v,x0,y0,i,j,hf,hi,hj,h=>by
  have hi0:i=0:=by simpa using hi
  have hj0:j=0:=by simpa using hj
  subst hi0 hj0
  have hv:v≠0:=h
  unfold cellsT
  rw [if_neg hv]
  exact List.mem_singleton.2 rfl
 | 0,.node _ _ _ _,x0,y0,i,j,hf,hi,hj,h=>hf.elim
 | n+1,.leaf _,x0,y0,i,j,hf,hi,hj,h=>hf.elim
 | n+1,.node a b d e,x0,y0,i,j,⟨ha,hb,hd,he⟩,hi,hj,h=>by
  have hp:2 ^ (n+1)=2 ^ n+2 ^ n:=by rw [Nat.pow_succ];omega
  have hq:p2 n=((2 ^ n:Nat):Int):=rfl
  rw [hp] at hi hj
  have hc:cell (n+1) (.node a b d e) (i:Int) (j:Int)=if (j:Int)<p2 n then (if (i:Int)<p2 n then cell n a i j else cell n b ((i:Int) - p2 n) j) else (if (i:Int)<p2 n then cell n d i ((j:Int) - p2 n) else cell n e ((i:Int) - p2 n) ((j:Int) - p2 n)):=rfl
  rw [hc] at h ⊢
  rw [hq] at h ⊢
  unfold cellsT
  simp only [List.mem_append]
  by_cases h1:j<2 ^ n
  ·rw [if_pos (by omega)] at h ⊢
   by_cases h2:i<2 ^ n
   ·rw [if_pos (by omega)] at h ⊢
    exact .inl (cell_in ha h2 h1 h)
   ·rw [if_neg (by omega)] at h ⊢
    obtain⟨u,rfl⟩:∃ u,i=2 ^ n+u:=⟨i - 2 ^ n,by omega⟩
    rw [show ((2 ^ n+u:Nat):Int) - ((2 ^ n:Nat):Int)=(u:Int) by omega] at h ⊢
    have:=cell_in (x0:=x0+2 ^ n) (y0:=y0) hb (by omega) h1 h
    rw [Nat.add_assoc] at this
    exact .inr (.inl this)
  ·rw [if_neg (by omega)] at h ⊢
   obtain⟨v,rfl⟩:∃ v,j=2 ^ n+v:=⟨j - 2 ^ n,by omega⟩
   rw [show ((2 ^ n+v:Nat):Int) - ((2 ^ n:Nat):Int)=(v:Int) by omega] at h ⊢
   by_cases h2:i<2 ^ n
   ·rw [if_pos (by omega)] at h ⊢
    have:=cell_in (x0:=x0) (y0:=y0+2 ^ n) hd h2 (by omega) h
    rw [Nat.add_assoc] at this
    exact .inr (.inr (.inl this))
   ·rw [if_neg (by omega)] at h ⊢
    obtain⟨u,rfl⟩:∃ u,i=2 ^ n+u:=⟨i - 2 ^ n,by omega⟩
    rw [show ((2 ^ n+u:Nat):Int) - ((2 ^ n:Nat):Int)=(u:Int) by omega] at h ⊢
    have:=cell_in (x0:=x0+2 ^ n) (y0:=y0+2 ^ n) he (by omega) (by omega) h
    rw [Nat.add_assoc,Nat.add_assoc] at this
    exact .inr (.inr (.inr this))
theorem inC_iff {x y:Int} {L:Nat} {c:PC}:inC x y L c=true↔(x≤c.x∧c.x - x<p2 L)∧(y≤c.y∧c.y - y<p2 L):=by
 unfold inC inB p2
 simp only [Bool.and_eq_true,decide_eq_true_eq]
theorem spots_ok {s:Int} {p:List PC} (hr:rightP p=true) {x y:Int} {L:Nat} (hin:∀ c∈p,inC x y L c=true) (hs:∀ c∈p,c.st<s):OkS s L (p.map (spot x y)):=by
 have hp:=right_parts hr
 refine⟨fun c hc=>?_,fun c hc=>?_,?_⟩
 ·obtain⟨d,hd,rfl⟩:=List.mem_map.1 hc
  have:=inC_iff.1 (hin d hd)
  unfold p2 at this
  unfold spot
  simp only
  omega
 ·obtain⟨d,hd,rfl⟩:=List.mem_map.1 hc
  have h1:=hp.2.1 d hd
  simp only [cellB,Bool.and_eq_true,decide_eq_true_eq] at h1
  have:=hs d hd
  unfold spot
  simp only
  omega
 ·rw [List.pairwise_map]
  refine (List.Pairwise.and_mem.1 (strict_pair hp.2.2)).imp fun {a b} h=>?_
  obtain⟨ha,hb,hab⟩:=h
  have h1:=inC_iff.1 (hin a ha)
  have h2:=inC_iff.1 (hin b hb)
  simp only [pBef,decide_eq_true_eq] at hab
  unfold spot
  simp only
  omega
theorem tree_fld {s:Int} {p:List PC} (hr:rightP p=true) {x y:Int} {L:Nat} (hin:∀ c∈p,inC x y L c=true) (hs:∀ c∈p,c.st<s):treeOf L (p.map (spot x y))=mk L (fldP p) x y:=by
 have hok:=spots_ok hr hin hs
 have hfull:=treeOf_full L (p.map (spot x y))
 have hperm:=cells_treeOf (X:=0) (Y:=0) hok
 have hmov:(p.map (spot x y)).map (movS 0 0)=p.map (spot x y):=by
  rw [List.map_map]
  refine List.map_congr_left fun c _=>?_
  simp [movS]
 rw [hmov] at hperm
 generalize hT:treeOf L (p.map (spot x y))=T at *
 rw [← mk_cell L hfull]
 refine mk_congr L fun i j h1 h2 h3 h4=>?_
 rw [Int.zero_add,Int.zero_add]
 obtain⟨u,rfl⟩:∃ u:Nat,i=u:=⟨i.toNat,by omega⟩
 obtain⟨v,rfl⟩:∃ v:Nat,j=v:=⟨j.toNat,by omega⟩
 unfold p2 at h2 h4
 by_cases h0:cell L T u v=0
 ·rw [h0]
  refine Classical.byContradiction fun hne=>?_
  obtain⟨c,hc,hx,hy,he⟩:=fld_some (fun e=>hne e.symm:fldP p (x+u) (y+v)≠0)
  have hm:spot x y c∈cellsT L T 0 0:=hperm.symm.subset (List.mem_map_of_mem hc)
  have:=(cell_mem hfull hm).2.2.2.2
  unfold spot at this
  simp only at this
  rw [show (((c.x - x).toNat:Nat):Int) - ((0:Nat):Int)=(u:Int) by omega,show (((c.y - y).toNat:Nat):Int) - ((0:Nat):Int)=(v:Int) by omega,h0] at this
  have hst:=(right_parts hr).2.1 c hc
  simp only [cellB,Bool.and_eq_true,decide_eq_true_eq] at hst
  omega
 ·have hm:=cell_in (x0:=0) (y0:=0) hfull (show u<2 ^ L by omega) (show v<2 ^ L by omega) h0
  obtain⟨c,hc,he⟩:=List.mem_map.1 (hperm.subset hm)
  have hci:=inC_iff.1 (hin c hc)
  unfold spot at he
  simp only [Spot.mk.injEq] at he
  have e1:x+(u:Int)=c.x:=by omega
  have e2:y+(v:Int)=c.y:=by omega
  rw [e1,e2,fld_mem (right_parts hr).2.2 hc]
  exact he.2.2.symm
theorem from_tree {s:Int} (hs2:2≤s∧s≤8) {p:List PC} (hr:rightP p=true) (hl:p.length≤60) (hst:∀ c∈p,c.st<s) (x y:Int) {L:Nat} (hL:L≤5) {N:List Tr} (hN:N.length≤80000) :
  ∃ id e ms,fromQ s [] p x y (L:Int)=((id,e),ms)∧(e≠0∨e=0∧(∀ c∈p,inC x y L c=true)∧GoodQ s ms∧Is s ms L id (mk L (fldP p) x y)∧room s ms N):=by
 have hg:GoodQ s []:=GoodQ.nil hs2.1 hs2.2
 unfold fromQ
 rw [if_neg (by rw [hr];simp),if_neg (by omega),Int.toNat_natCast]
 by_cases hin:p.all (inC x y L)=false
 ·rw [if_pos hin]
  exact⟨_,_,_,rfl,.inl (by decide)⟩
 ·rw [if_neg hin]
  have hin':∀ c∈p,inC x y L c=true:=by
   cases h:p.all (inC x y L) with
   | false=>exact absurd h hin
   | true=>exact List.all_eq_true.1 h
  rw [if_neg (by
   rw [Bool.not_eq_false,List.all_eq_true]
   intro c hc
   have h1:=(right_parts hr).2.1 c hc
   simp only [cellB,Bool.and_eq_true,decide_eq_true_eq] at h1
   have:=hst c hc
   exact decide_eq_true (by omega))]
  have hok:=spots_ok hr hin' hst
  have hlen:=newT_len L (p.map (spot x y))
  rw [List.length_map] at hlen
  have hmul:p.length*L≤60*5:=Nat.mul_le_mul hl hL
  obtain⟨id,ms,h1,h2,_,h3,h4⟩:=buildQ_room (L:=(emptiesT L++newT L (p.map (spot x y)))++N) hg (room.of_len (by
   simp only [List.length_append,emptiesT,List.length_map,List.length_range,List.length_nil]
   omega)) (by omega) hok (fun i hi=>by
    refine List.mem_append_left _ (List.mem_append_left _ ?_)
    unfold emptiesT
    exact List.mem_map.2 ⟨i,List.mem_range.2 hi,rfl⟩) (fun u hu=>List.mem_append_left _ (List.mem_append_right _ hu))
  rw [tree_fld hr hin' hst] at h4
  refine⟨id,0,ms,h1,.inr ⟨rfl,hin',h2,h4,?_⟩⟩
  unfold room at h3 ⊢
  rw [List.filter_append,List.length_append] at h3
  omega
end Go.Proofs.Ytppmnmheodimoaa
end
section
namespace Go.Proofs.Ytppmnmheodimoaa
open Go Go.RowKit Rg Mp Hp Qs
set_option maxHeartbeats 1000000 in
theorem RNew_ok (s:Int) (w:World) (h:2≤s) (h':s≤8) :
  Calls Try.prog 30 #[.int .i64 s] w fun e w'=>∃ b F,e=.returned (.tuple #[.pointer (some ⟨b,0,none⟩),.int .i64 0])∧RefAt w' b s [] F∧Fr [] w w'∧∀ x∈F,w.heap.size≤x:=by
 go_enter Try.func30,Try.ntmps30
 go_wp2
 go_ret2
 refine⟨w.heap.size,[w.heap.size],rfl,⟨GoodQ.nil h h',.slice none 0 0,⟨by (repeat first|rw [if_pos (by omega)]|rw [if_neg (by omega)]|rw [hDR]|rw [hDN]|rw [hAz]|rw [hSz]|rw [hAC]|rw [hSC]|rw [oMS]|rw [uPC]|rw [lSZ]|rw [lSS]|rfl),World.ownsRow_nil _ _ _ _,by simp [Value.ownBlock]⟩,rfl⟩,by (repeat first|exact Fr.refl _ _|assumption|apply Fr.n|apply Fr.d|apply Fr.a|refine Fr.s ?_ (.inr (by simp;try omega)) _),by simp⟩
end Go.Proofs.Ytppmnmheodimoaa
end
section
namespace Go.Proofs.Ytppmnmheodimoaa
open Go Go.RowKit Rg Mp Hp Qs Ev
end Go.Proofs.Ytppmnmheodimoaa
end
