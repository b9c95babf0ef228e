/- Own texts of this claim, part 31: no condition. -/
import Derived.ProofKit
import Derived.OpenShut
import Derived.Deep.Slices
import Derived.Test.YtppmnmheodimoaaZM24
import Derived.Test.YtppmnmheodimoaaZM26
import Derived.Test.YtppmnmheodimoaaZM29
import Derived.Test.YtppmnmheodimoaaZM3
set_option linter.unusedVariables false
set_option linter.unusedSimpArgs false
section
/- The fixed examples of the laws of memo. -/
namespace Go.Proofs.Ytppmnmheodimoaa
open Go Go.RowKit Go.Proofs.Rg Go.Proofs.Mp Go.Proofs.Hp Go.Proofs.Qs Go.Proofs.Ev
set_option linter.unusedVariables false
set_option linter.unusedSimpArgs false
def aw1 : List K4 := [⟨0, 1, 0, 0⟩]
def aw2 : List K4 := [⟨0, 1, 0, 0⟩, ⟨0, 0, 0, 0⟩]
def aw3 : List K4 := [⟨0, 1, 0, 0⟩, ⟨0, 0, 0, 0⟩, ⟨3, 3, 3, 2⟩]
def awT : Tr := .node (.node (.leaf 0) (.leaf 0) (.leaf 0) (.leaf 0)) (.node (.leaf 0) (.leaf 0) (.leaf 0) (.leaf 0)) (.node (.leaf 0) (.leaf 0) (.leaf 0) (.leaf 0)) (.node (.leaf 0) (.leaf 1) (.leaf 0) (.leaf 0))
theorem aw_join1 : join 2 [] ⟨0, 1, 0, 0⟩ = ((2, 0), aw1) := by decide +kernel
theorem aw_empty : emptyQ 2 aw1 1 = ((3, 0), aw2) := by decide +kernel
theorem aw_join2 : join 2 aw2 ⟨3, 3, 3, 2⟩ = ((4, 0), aw3) := by decide +kernel
theorem aw_tr : tr 2 aw3 4 = awT := by decide +kernel
theorem aw_lvl : lvl 2 (levs 2 aw3) 4 = 2 := by decide +kernel
theorem aw_right : rightR rightRule = true := by decide +kernel
theorem aw_lost : lostOf (radius rightRule.hood) = 2 := by decide +kernel
theorem aw_most0 : mostOf rightRule 2 = 0 := by decide +kernel
theorem aw_most5 : mostOf rightRule 5 = 3 := by decide +kernel
theorem aw_rows : cellsL 2 awT = [[0, 0, 0, 0], [0, 0, 0, 0], [0, 0, 0, 1], [0, 0, 0, 0]] := by decide +kernel
theorem aw_step : cellsL 1 (stp (gen rightRule) 2 0 awT) = [[0, 0], [0, 1]] := by decide +kernel
theorem Empty_has {W w : World} {b : Nat} {s : Int} {ns : List K4} {Ps : List Res} (h : Has W w (storeR b s ns :: Ps)) (l : Int) :
    Calls Try.prog 41 #[.pointer (some ⟨b, 0, none⟩), .int .i64 l] w fun e w' => e = .returned (.tuple #[.int .i64 (emptyQ s ns l).1.1, .int .i64 (emptyQ s ns l).1.2]) ∧ Has W w' (storeR b s (emptyQ s ns l).2 :: Ps) :=
  h.upd (P' := storeR b s (emptyQ s ns l).2) (R := fun e => e = .returned (.tuple #[.int .i64 (emptyQ s ns l).1.1, .int .i64 (emptyQ s ns l).1.2])) fun F hS => (Empty_calls hS l).mono fun e w' h => h
theorem New_has {W w : World} {Ps : List Res} (h : Has W w Ps) (s : Int) (h1 : 2 ≤ s) (h2 : s ≤ 8) :
    Calls Try.prog 29 #[.int .i64 s] w fun e w' => ∃ b, e = .returned (.tuple #[.pointer (some ⟨b, 0, none⟩), .int .i64 0]) ∧ Has W w' (storeR b s [] :: Ps) := by
  refine (New_ok s w h1 h2).mono ?_
  rintro e w' ⟨b, F, rfl, hS, hf, hF⟩
  exact ⟨b, rfl, h.new hf hS hF⟩
theorem get_len {κ ν : Type} [DecidableEq κ] {l : List (κ × ν)} {k : κ} {v : ν} (h : get? l k = some v) : 1 ≤ l.length := by
  rcases l with _ | ⟨x, l⟩
  · simp [get?] at h
  · simp
theorem Is.same {s : Int} {ns : List K4} (hg : GoodQ s ns) {n m : Nat} {id : Int} {t u : Tr} (h : Is s ns n id t) (k : Is s ns m id u) : n = m ∧ t = u := by
  have a := h.lvl hg
  have b := k.lvl hg
  exact ⟨by omega, h.2.1.symm.trans k.2.1⟩
theorem rows_lit2 {w : World} {b0 b1 b2 c : Nat} {x0 x1 : List Int} (h0 : w.heap[b0]? = some (.cells (iv x0).toArray 3 (0, 0))) (h1 : w.heap[b1]? = some (.cells (iv x1).toArray 3 (0, 0)))
    (h2 : w.heap[b2]? = some (.cells #[.slice (some ⟨b0, 0, none⟩) x0.length x0.length, .slice (some ⟨b1, 0, none⟩) x1.length x1.length] 71 (0, 0))) : RowsAt w (.slice (some ⟨b2, 0, none⟩) 2 c) [x0, x1] := by
  refine ⟨[.slice (some ⟨b0, 0, none⟩) x0.length x0.length, .slice (some ⟨b1, 0, none⟩) x1.length x1.length], reads_blk h2 rfl, fun i r hi => ?_⟩
  rcases i with _ | _ | i
  · obtain rfl := Option.some.inj hi
    exact ⟨_, rfl, reads_blk h0 (by simp [iv])⟩
  · obtain rfl := Option.some.inj hi
    exact ⟨_, rfl, reads_blk h1 (by simp [iv])⟩
  · simp at hi
theorem rows_lit4 {w : World} {b0 b1 b2 b3 b4 c : Nat} {x0 x1 x2 x3 : List Int} (h0 : w.heap[b0]? = some (.cells (iv x0).toArray 3 (0, 0))) (h1 : w.heap[b1]? = some (.cells (iv x1).toArray 3 (0, 0))) (h2 : w.heap[b2]? = some (.cells (iv x2).toArray 3 (0, 0))) (h3 : w.heap[b3]? = some (.cells (iv x3).toArray 3 (0, 0)))
    (h4 : w.heap[b4]? = some (.cells #[.slice (some ⟨b0, 0, none⟩) x0.length x0.length, .slice (some ⟨b1, 0, none⟩) x1.length x1.length, .slice (some ⟨b2, 0, none⟩) x2.length x2.length, .slice (some ⟨b3, 0, none⟩) x3.length x3.length] 71 (0, 0))) : RowsAt w (.slice (some ⟨b4, 0, none⟩) 4 c) [x0, x1, x2, x3] := by
  refine ⟨[.slice (some ⟨b0, 0, none⟩) x0.length x0.length, .slice (some ⟨b1, 0, none⟩) x1.length x1.length, .slice (some ⟨b2, 0, none⟩) x2.length x2.length, .slice (some ⟨b3, 0, none⟩) x3.length x3.length], reads_blk h4 rfl, fun i r hi => ?_⟩
  rcases i with _ | _ | _ | _ | i
  · obtain rfl := Option.some.inj hi
    exact ⟨_, rfl, reads_blk h0 (by simp [iv])⟩
  · obtain rfl := Option.some.inj hi
    exact ⟨_, rfl, reads_blk h1 (by simp [iv])⟩
  · obtain rfl := Option.some.inj hi
    exact ⟨_, rfl, reads_blk h2 (by simp [iv])⟩
  · obtain rfl := Option.some.inj hi
    exact ⟨_, rfl, reads_blk h3 (by simp [iv])⟩
  · simp at hi
set_option maxHeartbeats 16000000 in
set_option maxRecDepth 100000 in
theorem LAwake_calls {w : World} : Calls Try.prog 14 #[] w fun e w' => e = .returned (.bool true) ∧ Fr [] w w' := by
  go_enter Try.func14, Try.ntmps14
  go_wp2_with fail
  refine (New_has (W := w) (Has.nil (by (repeat (first | exact Fr.refl _ _ | assumption | apply Fr.drewN | apply Fr.drew | apply Fr.alloc | refine Fr.setCell ?_ (Or.inr (by simp; try omega)) _)))) 2 (by omega) (by omega)).mono ?_
  rintro e w1 ⟨b, rfl, h⟩
  have H := Lib.hid h
  clear h
  go_wp2_with fail
  refine (Join_has (H.out.step (by (repeat (first | exact Fr.refl _ _ | assumption | apply Fr.drewN | apply Fr.drew | apply Fr.alloc | refine Fr.setCell ?_ (Or.inr (by simp; try omega)) _)))) 0 1 0 0).mono ?_
  rw [aw_join1]
  rintro e w2 ⟨rfl, h⟩
  have H := Lib.hid h
  clear h
  go_wp2_with fail
  refine (Empty_has (H.out.step (by (repeat (first | exact Fr.refl _ _ | assumption | apply Fr.drewN | apply Fr.drew | apply Fr.alloc | refine Fr.setCell ?_ (Or.inr (by simp; try omega)) _)))) 1).mono ?_
  rw [aw_empty]
  rintro e w3 ⟨rfl, h⟩
  have H := Lib.hid h
  clear h
  go_wp2_with fail
  refine (Join_has (H.out.step (by (repeat (first | exact Fr.refl _ _ | assumption | apply Fr.drewN | apply Fr.drew | apply Fr.alloc | refine Fr.setCell ?_ (Or.inr (by simp; try omega)) _)))) 3 3 3 2).mono ?_
  rw [aw_join2]
  rintro e w4 ⟨rfl, h⟩
  have H := Lib.hid h
  clear h
  go_wp2_with fail
  refine LRight_calls.mono ?_
  rintro e w5 ⟨ha, na, hc, nc, rfl, hru, hf⟩
  have H := Lib.hid (rule_new (H.out.step (by (repeat (first | exact Fr.refl _ _ | assumption | apply Fr.drewN | apply Fr.drew | apply Fr.alloc | refine Fr.setCell ?_ (Or.inr (by simp; try omega)) _)))) hru hf).swap
  clear hru hf
  have HRS := Lib.hid (fun w1 Qs (h : Has w w1 Qs) hm => rule_src (W := w) (hv := .slice ha 2 hc) (nv := .slice na 2 nc) (r := rightRule) (Ps := []) w1 Qs h hm)
  go_wp2_with fail
  refine (MNew_calls (r := rightRule) (ha := ha) (na := na) (hc := hc) (nc := nc) (HRS.out _ _ (H.out.step (by (repeat (first | exact Fr.refl _ _ | assumption | apply Fr.drewN | apply Fr.drew | apply Fr.alloc | refine Fr.setCell ?_ (Or.inr (by simp; try omega)) _)))) (by simp)) (by decide) (by decide) aw_right (H.out.step (by (repeat (first | exact Fr.refl _ _ | assumption | apply Fr.drewN | apply Fr.drew | apply Fr.alloc | refine Fr.setCell ?_ (Or.inr (by simp; try omega)) _))))).mono ?_
  rintro e w6 (⟨hne, _⟩ | ⟨_, mb, rb, rfl, h⟩)
  · exact absurd rfl hne
  have H := Lib.hid h
  clear h
  go_wp2_with fail
  refine (MStep_calls (L := need (gen rightRule) 2 2 0 awT) aw_right rule_src (H.out.step (by (repeat (first | exact Fr.refl _ _ | assumption | apply Fr.drewN | apply Fr.drew | apply Fr.alloc | refine Fr.setCell ?_ (Or.inr (by simp; try omega)) _)))) (room.of_len (by rw [need_length]; decide +kernel)) (fun id k v h => by simp [get?] at h) 4 0 (fun n k' t hi hk h1 h2 => ?hneed)).mono ?_
  case hneed =>
    obtain rfl : k' = 0 := by omega
    have hn : n = 2 := by
      have := hi.lvl (has_good H.out)
      rw [show (rightRule.S) = 2 from rfl, aw_lvl] at this
      omega
    subst hn
    have ht : t = awT := by rw [← hi.2.1]; exact aw_tr
    subst ht
    rw [aw_lost]
    exact ⟨by omega, fun u hu => hu⟩
  rintro e w7 hend
  have hI : Is 2 aw3 2 4 awT := aw_tr ▸ Is.of_lvl (has_good H.out) aw_lvl
  rcases hend with ⟨hk, _⟩ | ⟨n, t, hi, hm, _⟩ | ⟨n, t, k', hi, hk, _, _, res, ns7, mm7, rfl, h7, hp7, hr7, hkp, hres, _, hget, _⟩
  · exact absurd hI.kn hk
  · obtain ⟨rfl, rfl⟩ := Is.same (has_good H.out) hI hi
    have := aw_most0
    rcases hm with h | h
    · omega
    · rw [show ((2 : Nat) : Int) = 2 from rfl, aw_most0] at h; omega
  obtain ⟨rfl, rfl⟩ := Is.same (has_good H.out) hI hi
  obtain rfl : k' = 0 := by omega
  have H7 := Lib.hid h7
  have HI := Lib.hid (hI.grow hp7)
  have HRES := Lib.hid hres
  have HGET := Lib.hid hget
  have HKP := Lib.hid (And.intro hr7 hkp)
  clear h7 hp7 hr7 hkp hres hget hi hk hI H
  go_wp2_with fail
  refine (MStep_calls (L := need (gen rightRule) 2 2 0 awT) aw_right rule_src (H7.out.step (by (repeat (first | exact Fr.refl _ _ | assumption | apply Fr.drewN | apply Fr.drew | apply Fr.alloc | refine Fr.setCell ?_ (Or.inr (by simp; try omega)) _)))) HKP.out.1 HKP.out.2 4 1 (fun n k' t hi hk h1 h2 => ?hneed)).mono ?_
  case hneed =>
    obtain ⟨rfl, rfl⟩ := Is.same (has_good H7.out) HI.out hi
    rw [aw_lost] at h2
    omega
  rintro e w8 hend
  rcases hend with ⟨hk, _⟩ | ⟨n, t, hi, hm, rfl, h8⟩ | ⟨n, t, k', hi, hk, h1, h2, _⟩
  · exact absurd HI.out.kn hk
  rotate_left
  · obtain ⟨rfl, rfl⟩ := Is.same (has_good H7.out) HI.out hi
    rw [aw_lost] at h2
    omega
  have H8 := Lib.hid h8
  clear h8 hi hm H7
  go_wp2_with fail
  refine (MStep_calls (L := need (gen rightRule) 2 2 0 awT) aw_right rule_src (H8.out.step (by (repeat (first | exact Fr.refl _ _ | assumption | apply Fr.drewN | apply Fr.drew | apply Fr.alloc | refine Fr.setCell ?_ (Or.inr (by simp; try omega)) _)))) HKP.out.1 HKP.out.2 (-1) 0 (fun n k' t hi hk h1 h2 => absurd hi.kn.1 (by omega))).mono ?_
  rintro e w9 hend
  rcases hend with ⟨hk, rfl, h9⟩ | ⟨n, t, hi, _⟩ | ⟨n, t, k', hi, _⟩
  rotate_left
  · exact absurd hi.kn.1 (by omega)
  · exact absurd hi.kn.1 (by omega)
  have H9 := Lib.hid h9
  clear h9 hk H8
  go_wp2_with fail
  refine (MStep_nil 0 0).mono ?_
  rintro e w10 ⟨rfl, rfl⟩
  go_wp2_with fail
  refine (MMost_nil 5).mono ?_
  rintro e w11 ⟨rfl, rfl⟩
  go_wp2_with fail
  refine (MMost_calls (H9.out.step (by (repeat (first | exact Fr.refl _ _ | assumption | apply Fr.drewN | apply Fr.drew | apply Fr.alloc | refine Fr.setCell ?_ (Or.inr (by simp; try omega)) _)))) 5).mono ?_
  rw [aw_most5]
  rintro e w12 ⟨rfl, rfl⟩
  go_wp2_with fail
  refine (MKnown_calls (H9.out.step (by (repeat (first | exact Fr.refl _ _ | assumption | apply Fr.drewN | apply Fr.drew | apply Fr.alloc | refine Fr.setCell ?_ (Or.inr (by simp; try omega)) _))))).mono ?_
  rintro e w13 ⟨rfl, rfl⟩
  have hlen := get_len HGET.out
  go_wp2_with fail
  refine (LRows_calls (H9.out.step (by (repeat (first | exact Fr.refl _ _ | assumption | apply Fr.drewN | apply Fr.drew | apply Fr.alloc | refine Fr.setCell ?_ (Or.inr (by simp; try omega)) _)))) HI.out (by omega) HKP.out.1.len).mono ?_
  rintro e w14 ⟨ra, rc, rfl, hg, hf⟩
  have H14 := Lib.hid (H9.out.step (Fr.trans0 (by (repeat (first | exact Fr.refl _ _ | assumption | apply Fr.drewN | apply Fr.drew | apply Fr.alloc | refine Fr.setCell ?_ (Or.inr (by simp; try omega)) _))) hf))
  have HG := Lib.hid hg.rows
  clear hg hf
  rw [aw_rows] at HG
  go_wp2_with fail
  refine (LSame_calls (HG.out.fr (by (repeat (first | exact Fr.refl _ _ | assumption | apply Fr.drewN | apply Fr.drew | apply Fr.alloc | refine Fr.setCell ?_ (Or.inr (by simp; try omega)) _)))) (rows_lit4 (b0 := w14.heap.size) (b1 := w14.heap.size + 1) (b2 := w14.heap.size + 2) (b3 := w14.heap.size + 3) (b4 := w14.heap.size + 4) (x0 := [0, 0, 0, 0]) (x1 := [0, 0, 0, 0]) (x2 := [0, 0, 0, 1]) (x3 := [0, 0, 0, 0]) (by (repeat (first | rw [if_pos (by omega)] | rw [if_neg (by omega)] | rw [hp_drew] | rw [hp_drewN] | rw [hp_alloc_size] | rw [hp_setCell_size] | rw [hp_alloc] | rw [hp_setCell] | rw [Option.map_some] | rw [upd_cells] | rw [List.set_cons_zero] | rw [List.set_cons_succ] | rfl))) (by (repeat (first | rw [if_pos (by omega)] | rw [if_neg (by omega)] | rw [hp_drew] | rw [hp_drewN] | rw [hp_alloc_size] | rw [hp_setCell_size] | rw [hp_alloc] | rw [hp_setCell] | rw [Option.map_some] | rw [upd_cells] | rw [List.set_cons_zero] | rw [List.set_cons_succ] | rfl))) (by (repeat (first | rw [if_pos (by omega)] | rw [if_neg (by omega)] | rw [hp_drew] | rw [hp_drewN] | rw [hp_alloc_size] | rw [hp_setCell_size] | rw [hp_alloc] | rw [hp_setCell] | rw [Option.map_some] | rw [upd_cells] | rw [List.set_cons_zero] | rw [List.set_cons_succ] | rfl))) (by (repeat (first | rw [if_pos (by omega)] | rw [if_neg (by omega)] | rw [hp_drew] | rw [hp_drewN] | rw [hp_alloc_size] | rw [hp_setCell_size] | rw [hp_alloc] | rw [hp_setCell] | rw [Option.map_some] | rw [upd_cells] | rw [List.set_cons_zero] | rw [List.set_cons_succ] | rfl))) (by (repeat (first | rw [if_pos (by omega)] | rw [if_neg (by omega)] | rw [hp_drew] | rw [hp_drewN] | rw [hp_alloc_size] | rw [hp_setCell_size] | rw [hp_alloc] | rw [hp_setCell] | rw [Option.map_some] | rw [upd_cells] | rw [List.set_cons_zero] | rw [List.set_cons_succ] | rfl)))) (by decide) (by decide) (by decide) (by decide)).mono ?_
  rintro e w15 ⟨rfl, hf⟩
  have H15 := Lib.hid (H14.out.step (Fr.trans0 (by (repeat (first | exact Fr.refl _ _ | assumption | apply Fr.drewN | apply Fr.drew | apply Fr.alloc | refine Fr.setCell ?_ (Or.inr (by simp; try omega)) _))) hf))
  clear hf H14 HG
  rw [decide_eq_true rfl]
  go_wp2_with fail
  refine (LRows_calls (H15.out.step (by (repeat (first | exact Fr.refl _ _ | assumption | apply Fr.drewN | apply Fr.drew | apply Fr.alloc | refine Fr.setCell ?_ (Or.inr (by simp; try omega)) _)))) HRES.out (by omega) HKP.out.1.len).mono ?_
  rintro e w16 ⟨ra, rc, rfl, hg, hf⟩
  have H16 := Lib.hid (H15.out.step (Fr.trans0 (by (repeat (first | exact Fr.refl _ _ | assumption | apply Fr.drewN | apply Fr.drew | apply Fr.alloc | refine Fr.setCell ?_ (Or.inr (by simp; try omega)) _))) hf))
  have HG := Lib.hid hg.rows
  clear hg hf H15
  rw [show 2 - 1 = 1 from rfl, aw_step] at HG
  go_wp2_with fail
  refine (LSame_calls (HG.out.fr (by (repeat (first | exact Fr.refl _ _ | assumption | apply Fr.drewN | apply Fr.drew | apply Fr.alloc | refine Fr.setCell ?_ (Or.inr (by simp; try omega)) _)))) (rows_lit2 (b0 := w16.heap.size) (b1 := w16.heap.size + 1) (b2 := w16.heap.size + 2) (x0 := [0, 0]) (x1 := [0, 1]) (by (repeat (first | rw [if_pos (by omega)] | rw [if_neg (by omega)] | rw [hp_drew] | rw [hp_drewN] | rw [hp_alloc_size] | rw [hp_setCell_size] | rw [hp_alloc] | rw [hp_setCell] | rw [Option.map_some] | rw [upd_cells] | rw [List.set_cons_zero] | rw [List.set_cons_succ] | rfl))) (by (repeat (first | rw [if_pos (by omega)] | rw [if_neg (by omega)] | rw [hp_drew] | rw [hp_drewN] | rw [hp_alloc_size] | rw [hp_setCell_size] | rw [hp_alloc] | rw [hp_setCell] | rw [Option.map_some] | rw [upd_cells] | rw [List.set_cons_zero] | rw [List.set_cons_succ] | rfl))) (by (repeat (first | rw [if_pos (by omega)] | rw [if_neg (by omega)] | rw [hp_drew] | rw [hp_drewN] | rw [hp_alloc_size] | rw [hp_setCell_size] | rw [hp_alloc] | rw [hp_setCell] | rw [Option.map_some] | rw [upd_cells] | rw [List.set_cons_zero] | rw [List.set_cons_succ] | rfl)))) (by decide) (by decide) (by decide) (by decide)).mono ?_
  rintro e w17 ⟨rfl, hf⟩
  have H17 := Lib.hid (H16.out.step (Fr.trans0 (by (repeat (first | exact Fr.refl _ _ | assumption | apply Fr.drewN | apply Fr.drew | apply Fr.alloc | refine Fr.setCell ?_ (Or.inr (by simp; try omega)) _))) hf))
  clear hf H16 HG
  rw [decide_eq_true rfl]
  go_wp2
  go_ret
  exact ⟨rfl, (H17.out.step (by (repeat (first | exact Fr.refl _ _ | assumption | apply Fr.drewN | apply Fr.drew | apply Fr.alloc | refine Fr.setCell ?_ (Or.inr (by simp; try omega)) _)))).fr⟩
end Go.Proofs.Ytppmnmheodimoaa
end

section
/- The calls of a nil memo. -/
namespace Go.Proofs.Ytppmnmheodimoaa
open Go Go.RowKit Go.Proofs.Rg Go.Proofs.Mp Go.Proofs.Hp Go.Proofs.Qs Go.Proofs.Ev
set_option linter.unusedVariables false
set_option linter.unusedSimpArgs false
set_option maxHeartbeats 4000000 in
set_option maxRecDepth 100000 in
theorem MemoNone_calls {w : World} (id k : Int) : Calls Try.prog 3 #[.int .i64 id, .int .i64 k] w fun e w' => e = .returned (.bool true) ∧ Fr [] w w' := by
  go_enter Try.func3, Try.ntmps3
  go_wp2_with fail
  refine MForget_nil.mono ?_
  rintro e w1 ⟨rfl, rfl⟩
  go_wp2_with fail
  refine (MStep_nil id k).mono ?_
  rintro e w1 ⟨rfl, rfl⟩
  go_wp2_with fail
  refine LRight_calls.mono ?_
  rintro e w2 ⟨ha, na, hc, nc, rfl, hru, hf⟩
  have hru := hru w2 fun _ _ _ => rfl
  have Hf := Lib.hid (Fr.trans0 (by (repeat (first | exact Fr.refl _ _ | assumption | apply Fr.drewN | apply Fr.drew | apply Fr.alloc | refine Fr.setCell ?_ (Or.inr (by simp; try omega)) _)) : Fr [] w _) hf)
  go_wp2_with fail
  refine (MNew_nil (r := rightRule) (ha := ha) (na := na) (hc := hc) (nc := nc) (hru.fr (by (repeat (first | exact Fr.refl _ _ | assumption | apply Fr.drewN | apply Fr.drew | apply Fr.alloc | refine Fr.setCell ?_ (Or.inr (by simp; try omega)) _)))) (by decide) (by decide) aw_right).mono ?_
  rintro e w3 ⟨rfl, hf3⟩
  have Hf := Lib.hid (Hf.out.trans0 (Fr.trans0 (by (repeat (first | exact Fr.refl _ _ | assumption | apply Fr.drewN | apply Fr.drew | apply Fr.alloc | refine Fr.setCell ?_ (Or.inr (by simp; try omega)) _))) hf3))
  clear hru hf hf3
  go_wp2_with fail
  refine (MMost_nil k).mono ?_
  rintro e w4 ⟨rfl, rfl⟩
  go_wp2_with fail
  refine MKnown_nil.mono ?_
  rintro e w5 ⟨rfl, rfl⟩
  go_wp2_with fail
  refine LAwake_calls.mono ?_
  rintro e w6 ⟨rfl, hf⟩
  have Hf := Lib.hid (Hf.out.trans0 (Fr.trans0 (by (repeat (first | exact Fr.refl _ _ | assumption | apply Fr.drewN | apply Fr.drew | apply Fr.alloc | refine Fr.setCell ?_ (Or.inr (by simp; try omega)) _))) hf))
  clear hf
  go_wp2
  go_ret
  exact ⟨rfl, by have := Hf.out; (repeat (first | exact Fr.refl _ _ | assumption | apply Fr.drewN | apply Fr.drew | apply Fr.alloc | refine Fr.setCell ?_ (Or.inr (by simp; try omega)) _))⟩
end Go.Proofs.Ytppmnmheodimoaa
end

section
/- The frame of a law that answers true and leaves old memory as it was; slices opened into their cells. No condition on a program. -/
namespace Go.Proofs.Lw
open Go Go.ChangeShapes Go.WideShapes Go.ChangeAt Go.RowKit Go.Proofs.Hp
set_option linter.unusedVariables false
set_option linter.unusedSimpArgs false
/-- behind a call that left old memory as it was, each argument reads as it did -/
theorem args_stay {H : Type} {enc : TypeId × Value → H} {P : Program} (hl : laidOutB P = true) {W W' : World} (hb : Below W.heap.size W W') :
    ∀ {ts : List TypeId} {vs : List Value} {ds : List (DataW H)} {ps : List MemPlace}, ts.all (fun t => P.readableRec t && decide (t < P.types.size)) = true → DataW.TrodAll enc P W 0 (fun _ => true) true ts vs ds ps →
      (∀ x ∈ ps, x.block < W.heap.size) → DataW.TrodAll enc P W' 0 (fun b => decide (b < W.heap.size)) true ts vs ds ps := by
  intro ts
  induction ts with
  | nil => intro vs ds ps _ h _; obtain ⟨rfl, rfl, rfl⟩ := trodAll_nil h; exact trodAll_mk0
  | cons t ts ih =>
    intro vs ds ps hok h hlt
    obtain ⟨v, vs1, d, ds1, p, q, rfl, rfl, rfl, h1, h2⟩ := trodAll_cons h
    simp only [List.all_cons, Bool.and_eq_true, decide_eq_true_eq] at hok
    exact trodAll_cons_mk (Below.trod hl hok.1.1 hok.1.2 h1 hb fun x hx => hlt x (List.mem_append_left _ hx)) (ih (by simpa only [List.all_eq_true, Bool.and_eq_true, decide_eq_true_eq] using hok.2) h2 fun x hx => hlt x (List.mem_append_right _ hx))
/-- the answer of such a law -/
theorem law_post {H : Type} {enc : TypeId × Value → H} {P : Program} (hl : laidOutB P = true) {f : Func} {s : ChangeSpec} {ts : List TypeId} {tb : TypeId} (hf : f.params.toList = ts) (hr : f.resultTypes = #[tb])
    (hb : P.underlying tb = some .bool) (hv : s.vars = []) (hok : ts.all (fun t => P.readableRec t && decide (t < P.types.size)) = true)
    (hfn : ∀ ds : List (DataW H), ds.length = ts.length → s.fn H ds = { results := [.lit (.bool true)], args := ds }) {W W' : World} {args : Array Value} {ds gs : List (DataW H)} {before : List MemPlace}
    (hW : DataW.Whole enc P f.params.toList s.vars false W args.toList ds gs before) (hB : Fr [] W W') : s.post enc P f false true false false W args (.bool true) W' := by
  have hW' := hW
  obtain ⟨p, q, hA, hV, rfl, hfz, hnd⟩ := hW
  rw [hf] at hA
  rw [hv] at hV
  obtain ⟨rfl, rfl⟩ := trodVars_none hV
  have hlen : ∀ {ts : List TypeId} {vs : List Value} {ds : List (DataW H)} {ps : List MemPlace}, DataW.TrodAll enc P W 0 (fun _ => true) true ts vs ds ps → ds.length = ts.length := by
    intro ts
    induction ts with
    | nil => intro vs ds ps h; obtain ⟨rfl, rfl, rfl⟩ := trodAll_nil h; rfl
    | cons t ts ih => intro vs ds ps h; obtain ⟨v, vs1, d, ds1, p, q, rfl, rfl, rfl, h1, h2⟩ := trodAll_cons h; simp [ih h2]
  have e := hfn (ds ++ []) (by simpa using hlen hA)
  refine ⟨ds, [], p ++ [], [], p, [], hW', ?_, ?_, ?_, hB.below.frame _ |> World.keptBut_mono (w := W) (w' := W') (fun x hx => hx), fun h => by cases h⟩
  · rw [e, hr]
    exact trodAll_mk1 (shut_bool hb true)
  · rw [e, hf, List.append_nil]
    exact args_stay hl hB.below hok hA fun x hx => by simpa using hW'.lt x (by simpa using hx)
  · rw [e, hv]
    exact rfl
/-- a slice whose elements are some cells each, read whole: its elements' cells -/
theorem open_rows {H : Type} {enc : TypeId × Value → H} {P : Program} {W : World} {t e : TypeId} {sz fuel n c : Nat} {a : Option Addr} {x : DataW H × List MemPlace} (ht : P.underlying t = some (.slice e)) (hsz : P.cellsOf e = sz) (hpos : 0 < sz)
    (h : DataW.trod enc P W 0 (fun _ => true) true fuel t [.slice a n c] = some x) :
    n ≤ c ∧ c ≤ maxLen ∧ ∃ xs : List (List Value), xs.length = n ∧ (∀ cs' ∈ xs, cs'.length = sz ∧ ∃ fuel y, DataW.trod enc P W 0 (fun _ => true) true fuel e cs' = some y) ∧
      (a = none → n = 0 ∧ c = 0) ∧ (0 < n → ∃ g off, a = some ⟨g, off, none⟩ ∧ g < W.heap.size ∧ ∀ j u, xs.flatten[j]? = some u → W.cell? ⟨g, off + j, none⟩ = some u) := by
  rcases Go.Deep.open_slice ht h with ⟨h0, _⟩ | ⟨ad, len, cap, m, k, D, Pl, hcs, _, hlc, hcm, hm, _, hx⟩
  · simp only [List.cons.injEq, Value.slice.injEq, and_true] at h0
    obtain ⟨rfl, rfl, rfl⟩ := h0
    exact ⟨Nat.le_refl _, Nat.zero_le _, [], rfl, by simp, by simp, by omega⟩
  · simp only [List.cons.injEq, Value.slice.injEq, and_true] at hcs
    obtain ⟨rfl, rfl, rfl⟩ := hcs
    simp only [if_true] at hm
    subst hm
    rw [hsz] at hx
    obtain ⟨C, hC⟩ := Go.Deep.choose_lt (α := List Value) (n := m) (p := fun i cs' => W.cells? 0 (ad.add (i * sz)) sz = some cs' ∧ DataW.trod enc P W 0 (fun _ => true) true k e cs' = some (D i, Pl i)) hx
    have hlen : ∀ i, i < n → (C i).length = sz := fun i hi => (World.cells?_some (hC i (by omega)).1).2.1
    refine ⟨hlc, hcm, (List.range n).map C, by simp, ?_, by simp, ?_⟩
    · intro cs' hm'
      obtain ⟨i, hi, rfl⟩ := List.mem_map.1 hm'
      have hi' := List.mem_range.1 hi
      exact ⟨hlen i hi', k, _, (hC i (by omega)).2⟩
    · intro hn
      have h0 := (hC 0 (by omega)).1
      have hblock := World.cells?_block h0 hpos
      obtain ⟨g, off, spot⟩ := ad
      have hsp : spot = none := by
        have hl0 := (World.cells?_some h0).2.1
        have hc0 := (World.cells?_some h0).2.2 0 (by omega)
        rw [List.getElem?_eq_getElem (by omega)] at hc0
        simpa [Addr.add] using World.cell?_spot hc0
      subst hsp
      refine ⟨g, off, rfl, by simpa [Addr.add] using hblock, ?_⟩
      have key : ∀ k, k ≤ n → ∀ j u, ((List.range k).map C).flatten[j]? = some u → W.cell? ⟨g, off + j, none⟩ = some u := by
        intro k
        induction k with
        | zero => intro _ j u hj; simp at hj
        | succ k ih =>
          intro hk j u hj
          have hfl : ∀ q, q ≤ n → ((List.range q).map C).flatten.length = q * sz := by
            intro q
            induction q with
            | zero => intro _; simp
            | succ q iq => intro hq; rw [List.range_succ, List.map_append, List.flatten_append, List.length_append, iq (by omega)]; simp [hlen q (by omega), Nat.succ_mul]
          rw [List.range_succ, List.map_append, List.flatten_append] at hj
          rcases Nat.lt_or_ge j (k * sz) with h1 | h1
          · rw [List.getElem?_append_left (by rw [hfl k (by omega)]; exact h1)] at hj
            exact ih (by omega) j u hj
          · rw [List.getElem?_append_right (by rw [hfl k (by omega)]; exact h1), hfl k (by omega)] at hj
            simp only [List.map_cons, List.map_nil, List.flatten_cons, List.flatten_nil, List.append_nil] at hj
            have hjl := (List.getElem?_eq_some_iff.1 hj).1
            rw [hlen k (by omega)] at hjl
            have := (World.cells?_some (hC k (by omega)).1).2.2 (j - k * sz) (by omega)
            rw [hj, add_plain, add_plain] at this
            rw [show off + j = off + k * sz + (j - k * sz) by omega]
            exact this
      exact key n (Nat.le_refl _)
/-- one witness for each member -/
theorem map_of_all {α β : Type} {f : β → α} : ∀ {xs : List α}, (∀ x ∈ xs, ∃ k, x = f k) → ∃ ks : List β, xs = ks.map f
  | [], _ => ⟨[], rfl⟩
  | x :: xs, h => by
    obtain ⟨k, rfl⟩ := h x (by simp)
    obtain ⟨ks, rfl⟩ := map_of_all (xs := xs) fun y hy => h y (by simp [hy])
    exact ⟨k :: ks, rfl⟩
end Go.Proofs.Lw
end
