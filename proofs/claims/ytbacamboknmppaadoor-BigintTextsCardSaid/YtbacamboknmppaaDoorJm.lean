/- Big integers: Bit. -/
import Derived.Test.YtbacamboknmppaaDoorJl
namespace Go.Proofs.YtbacamboknmppaaDoor
open Go Go.RowKit Go.Proofs.Rg Go.Proofs.Hp Go.Proofs.Bn
set_option linter.unusedVariables false
set_option linter.unusedSimpArgs false
def bitS (neg : Bool) (ds : List Nat) (k : Int) : Nat :=
  if RightB neg ds = false ∨ k < 0 then 0 else if 2048 ≤ k then (if neg then 1 else 0) else (shiftS neg ds (-k)).2.1.getD 0 0 % 2
theorem and_one {x : Nat} (h : x < 4294967296) : bits BinOp.and IntKind.u32 (x : Int) 1 = ((x % 2 : Nat) : Int) := by
  have e := u32_and_nat x 1 h (by omega)
  rw [Nat.and_one_is_mod] at e
  exact e
theorem shiftS_dig {neg : Bool} {ds : List Nat} {k : Int} : Dig 4294967296 (shiftS neg ds k).2.1 ∧ (shiftS neg ds k).2.1.length ≤ 64 := by
  unfold shiftS
  split
  · exact ⟨Dig.nil, by simp⟩
  · split
    · exact ⟨Dig.nil, by simp⟩
    · split
      · exact ⟨mkN_dig, mkN_len⟩
      · split
        · exact ⟨Dig.nil, by simp⟩
        · exact ⟨mkN_dig, mkN_len⟩
set_option maxHeartbeats 4000000 in
set_option maxRecDepth 100000 in
theorem Bit_calls {w : World} {neg : Bool} {ds : List Nat} {k : Int} {a : Option Addr} {c : Nat} (hv : Reads w (.slice a ds.length c) ds.length 1 (u32s ds)) (hD : Dig 4294967296 ds) (hl : ds.length ≤ 10000) (hc : ds.length ≤ c) (hk1 : -9223372036854775808 ≤ k) (hk2 : k < 9223372036854775808) :
    Calls Tryd.prog 26 #[.agg #[.bool neg, .slice a ds.length c], .int .i64 k] w fun e w' => e = .returned (.int .i64 (bitS neg ds k : Nat)) ∧ Fr [] w w' := by
  have hra := fun w1 (hf : Fr [] w w1) => Right_calls (neg := neg) (hv.fr hf) (by omega)
  obtain ⟨r, hS⟩ : ∃ r, r = bitS neg ds k := ⟨_, rfl⟩
  rw [← hS]
  unfold bitS at hS
  have Hv := Lib.hid hv
  have HDd := Lib.hid hD
  clear hv hD
  cases hR1 : RightB neg ds with
  | false =>
    rw [hR1] at hS hra
    simp only [true_or, if_true] at hS
    subst hS
    have Hra := Lib.hid hra
    clear hra hR1
    go_enter Tryd.func26, Tryd.ntmps26
    go_wp2_with fail
    refine (Hra.out _ (by (repeat (first | exact Fr.refl _ _ | assumption | apply Fr.drewN | apply Fr.drew | apply Fr.alloc | refine Fr.setCell ?_ (Or.inr (by simp; try omega)) _)))).mono ?_
    rintro e w1 ⟨rfl, hf⟩
    have hb_ := (hf.block (w.heap.size) (by first | (simp; done) | (simp; omega)) (by simp)).trans (show _ = some (.cells #[.bool neg, .slice a ds.length c] 24 (0, 0)) by (repeat (first | rw [if_pos (by omega)] | rw [if_neg (by omega)] | rw [hp_drew] | rw [hp_drewN] | rw [hp_alloc_size] | rw [hp_setCell_size] | rw [hp_alloc] | rw [hp_setCell] | rw [Option.map_some] | rw [upd_cells] | rw [List.set_cons_zero] | rw [List.set_cons_succ] | rfl)))
    have b0 := heap_eq_cell hb_ 0
    have b1 := heap_eq_cell hb_ 1
    have bl := lt_of_block hb_
    have Hb := Lib.hid hb_
    clear hb_
    have Hf := Lib.hid (Fr.trans0 (by (repeat (first | exact Fr.refl _ _ | assumption | apply Fr.drewN | apply Fr.drew | apply Fr.alloc | refine Fr.setCell ?_ (Or.inr (by simp; try omega)) _)) : Fr [] w _) hf)
    clear hf
    go_wp2
    go_ret
    exact ⟨rfl, Hf.out⟩
  | true =>
    rw [hR1] at hS hra
    simp only [Bool.true_eq_false, false_or] at hS
    have Hra := Lib.hid hra
    clear hra hR1
    by_cases hk0 : k < 0
    · rw [if_pos hk0] at hS
      subst hS
      have hd : decide (k < 0) = true := by simpa using hk0
      go_enter Tryd.func26, Tryd.ntmps26
      go_wp2_with fail
      refine (Hra.out _ (by (repeat (first | exact Fr.refl _ _ | assumption | apply Fr.drewN | apply Fr.drew | apply Fr.alloc | refine Fr.setCell ?_ (Or.inr (by simp; try omega)) _)))).mono ?_
      rintro e w1 ⟨rfl, hf⟩
      have hb_ := (hf.block (w.heap.size) (by first | (simp; done) | (simp; omega)) (by simp)).trans (show _ = some (.cells #[.bool neg, .slice a ds.length c] 24 (0, 0)) by (repeat (first | rw [if_pos (by omega)] | rw [if_neg (by omega)] | rw [hp_drew] | rw [hp_drewN] | rw [hp_alloc_size] | rw [hp_setCell_size] | rw [hp_alloc] | rw [hp_setCell] | rw [Option.map_some] | rw [upd_cells] | rw [List.set_cons_zero] | rw [List.set_cons_succ] | rfl)))
      have b0 := heap_eq_cell hb_ 0
      have b1 := heap_eq_cell hb_ 1
      have bl := lt_of_block hb_
      have Hb := Lib.hid hb_
      clear hb_
      have Hf := Lib.hid (Fr.trans0 (by (repeat (first | exact Fr.refl _ _ | assumption | apply Fr.drewN | apply Fr.drew | apply Fr.alloc | refine Fr.setCell ?_ (Or.inr (by simp; try omega)) _)) : Fr [] w _) hf)
      clear hf
      go_wp2
      go_ret
      exact ⟨rfl, Hf.out⟩
    · rw [if_neg hk0] at hS
      have hd : decide (k < 0) = false := by simpa using hk0
      by_cases hk3 : 2048 ≤ k
      · rw [if_pos hk3] at hS
        subst hS
        have hd2 : decide (2048 ≤ k) = true := by simpa using hk3
        cases neg
        ·
          go_enter Tryd.func26, Tryd.ntmps26
          go_wp2_with fail
          refine (Hra.out _ (by (repeat (first | exact Fr.refl _ _ | assumption | apply Fr.drewN | apply Fr.drew | apply Fr.alloc | refine Fr.setCell ?_ (Or.inr (by simp; try omega)) _)))).mono ?_
          rintro e w1 ⟨rfl, hf⟩
          have hb_ := (hf.block (w.heap.size) (by first | (simp; done) | (simp; omega)) (by simp)).trans (show _ = some (.cells #[.bool false, .slice a ds.length c] 24 (0, 0)) by (repeat (first | rw [if_pos (by omega)] | rw [if_neg (by omega)] | rw [hp_drew] | rw [hp_drewN] | rw [hp_alloc_size] | rw [hp_setCell_size] | rw [hp_alloc] | rw [hp_setCell] | rw [Option.map_some] | rw [upd_cells] | rw [List.set_cons_zero] | rw [List.set_cons_succ] | rfl)))
          have b0 := heap_eq_cell hb_ 0
          have b1 := heap_eq_cell hb_ 1
          have bl := lt_of_block hb_
          have Hb := Lib.hid hb_
          clear hb_
          have Hf := Lib.hid (Fr.trans0 (by (repeat (first | exact Fr.refl _ _ | assumption | apply Fr.drewN | apply Fr.drew | apply Fr.alloc | refine Fr.setCell ?_ (Or.inr (by simp; try omega)) _)) : Fr [] w _) hf)
          clear hf
          go_wp2
          go_ret
          exact ⟨rfl, Hf.out⟩
        ·
          go_enter Tryd.func26, Tryd.ntmps26
          go_wp2_with fail
          refine (Hra.out _ (by (repeat (first | exact Fr.refl _ _ | assumption | apply Fr.drewN | apply Fr.drew | apply Fr.alloc | refine Fr.setCell ?_ (Or.inr (by simp; try omega)) _)))).mono ?_
          rintro e w1 ⟨rfl, hf⟩
          have hb_ := (hf.block (w.heap.size) (by first | (simp; done) | (simp; omega)) (by simp)).trans (show _ = some (.cells #[.bool true, .slice a ds.length c] 24 (0, 0)) by (repeat (first | rw [if_pos (by omega)] | rw [if_neg (by omega)] | rw [hp_drew] | rw [hp_drewN] | rw [hp_alloc_size] | rw [hp_setCell_size] | rw [hp_alloc] | rw [hp_setCell] | rw [Option.map_some] | rw [upd_cells] | rw [List.set_cons_zero] | rw [List.set_cons_succ] | rfl)))
          have b0 := heap_eq_cell hb_ 0
          have b1 := heap_eq_cell hb_ 1
          have bl := lt_of_block hb_
          have Hb := Lib.hid hb_
          clear hb_
          have Hf := Lib.hid (Fr.trans0 (by (repeat (first | exact Fr.refl _ _ | assumption | apply Fr.drewN | apply Fr.drew | apply Fr.alloc | refine Fr.setCell ?_ (Or.inr (by simp; try omega)) _)) : Fr [] w _) hf)
          clear hf
          go_wp2
          go_ret
          exact ⟨rfl, Hf.out⟩
      · rw [if_neg hk3] at hS
        have hd2 : decide (2048 ≤ k) = false := by simp; omega
        have hsh := fun w1 (hf : Fr [] w w1) => Shift_calls (neg := neg) (k := -k) (Hv.out.fr hf) HDd.out hl hc (by omega) (by omega)
        obtain ⟨sD, sL⟩ := shiftS_dig (neg := neg) (ds := ds) (k := -k)
        generalize shiftS neg ds (-k) = s at *
        have Hsh := Lib.hid hsh
        have HsD := Lib.hid sD
        have HsL := Lib.hid sL
        have HS := Lib.hid hS
        clear hsh sD sL hS
        go_enter Tryd.func26, Tryd.ntmps26
        go_wp2_with fail
        refine (Hra.out _ (by (repeat (first | exact Fr.refl _ _ | assumption | apply Fr.drewN | apply Fr.drew | apply Fr.alloc | refine Fr.setCell ?_ (Or.inr (by simp; try omega)) _)))).mono ?_
        rintro e w1 ⟨rfl, hf⟩
        have hb_ := (hf.block (w.heap.size) (by first | (simp; done) | (simp; omega)) (by simp)).trans (show _ = some (.cells #[.bool neg, .slice a ds.length c] 24 (0, 0)) by (repeat (first | rw [if_pos (by omega)] | rw [if_neg (by omega)] | rw [hp_drew] | rw [hp_drewN] | rw [hp_alloc_size] | rw [hp_setCell_size] | rw [hp_alloc] | rw [hp_setCell] | rw [Option.map_some] | rw [upd_cells] | rw [List.set_cons_zero] | rw [List.set_cons_succ] | rfl)))
        have b0 := heap_eq_cell hb_ 0
        have b1 := heap_eq_cell hb_ 1
        have bl := lt_of_block hb_
        have Hb := Lib.hid hb_
        clear hb_
        have Hf := Lib.hid (Fr.trans0 (by (repeat (first | exact Fr.refl _ _ | assumption | apply Fr.drewN | apply Fr.drew | apply Fr.alloc | refine Fr.setCell ?_ (Or.inr (by simp; try omega)) _)) : Fr [] w _) hf)
        clear hf
        go_wp2_with fail
        refine (Hsh.out _ Hf.out).mono ?_
        rintro e w2 ⟨ra, rc, hlo, rfl, hr, hf⟩
        have Hf := Lib.hid (Hf.out.trans0 hf)
        have Hr := Lib.hid hr
        have hdg := fun w (hf : Fr [] w2 w) => digit_calls (hr.fr hf) (by have := HsL.out; omega) 0
        have hx : s.2.1.getD 0 0 < 4294967296 := HsD.out.getD (by omega) 0
        have Hdg := Lib.hid hdg
        clear hlo hr hf hdg
        obtain ⟨s1, s2, s3⟩ := s
        have Ea := and_one hx
        have HS2 := HS.out
        simp only at HS2 Ea hx Hdg
        generalize s2.getD 0 0 = x at *
        have hx2 : x % 2 < 2 := by omega
        subst HS2
        clear HS HsD HsL
        go_wp2_with fail
        refine (Hdg.out _ (by (repeat (first | exact Fr.refl _ _ | assumption | apply Fr.drewN | apply Fr.drew | apply Fr.alloc | refine Fr.setCell ?_ (Or.inr (by simp; try omega)) _)))).mono ?_
        rintro e w4 ⟨rfl, rfl⟩
        go_wp2
        go_ret
        exact ⟨rfl, by have := Hf.out; (repeat (first | exact Fr.refl _ _ | assumption | apply Fr.drewN | apply Fr.drew | apply Fr.alloc | refine Fr.setCell ?_ (Or.inr (by simp; try omega)) _))⟩
end Go.Proofs.YtbacamboknmppaaDoor
