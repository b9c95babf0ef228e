/- Own texts of this claim, part 23: no condition. -/
import Derived.IntWalk
import Derived.ProofKit
import Derived.OpenShut
import Derived.Deep.Slices
import Derived.Test.YtdanghnadbkhfaaZR16
import Derived.Test.YtdanghnadbkhfaaZR21
import Derived.Test.YtdanghnadbkhfaaZR19
import Derived.Test.YtdanghnadbkhfaaZR1
set_option linter.unusedVariables false
set_option linter.unusedSimpArgs false
section
/- The reference's Right of patterns. -/
namespace Go.Proofs.Ytdanghnadbkhfaa
open Go Go.RowKit Go.Proofs.Rg Go.Proofs.Hp Go.Proofs.Pt
set_option linter.unusedVariables false
set_option linter.unusedSimpArgs false
theorem place_p (x y : Int) (w : World) : Calls Try.prog 25 #[.int .i64 x, .int .i64 y] w fun e w' => e = .returned (.bool (placeB x y)) ∧ w' = w := by
  have hb : placeB x y = (((decide (x ≥ -1048576) && decide (x ≤ 1048576)) && decide (y ≥ -1048576)) && decide (y ≤ 1048576)) := by
    unfold placeB
    rw [Bool.eq_iff_iff]
    simp only [Bool.and_eq_true, decide_eq_true_eq]; omega
  rw [hb]
  clear hb
  obtain ⟨a, ha⟩ : ∃ a, decide (x ≥ -1048576) = a := ⟨_, rfl⟩
  obtain ⟨b, hb⟩ : ∃ a, decide (x ≤ 1048576) = a := ⟨_, rfl⟩
  obtain ⟨c, hc⟩ : ∃ a, decide (y ≥ -1048576) = a := ⟨_, rfl⟩
  obtain ⟨d, hd⟩ : ∃ a, decide (y ≤ 1048576) = a := ⟨_, rfl⟩
  rw [ha, hb, hc, hd]
  cases a with
  | false =>
    go_enter Try.func25, Try.ntmps25
    go_wp2
    go_ret
    exact ⟨by simp, rfl⟩
  | true =>
    cases b with
    | false =>
      go_enter Try.func25, Try.ntmps25
      go_wp2
      go_ret
      exact ⟨by simp, rfl⟩
    | true =>
      cases c with
      | false =>
        go_enter Try.func25, Try.ntmps25
        go_wp2
        go_ret
        exact ⟨by simp, rfl⟩
      | true =>
        go_enter Try.func25, Try.ntmps25
        go_wp2
        go_ret
        exact ⟨by simp, rfl⟩
theorem before_p (p q : PC) (w : World) : Calls Try.prog 26 #[pcV p, pcV q] w fun e w' => e = .returned (.bool (pBef p q)) ∧ Fr [] w w' := by
  obtain ⟨x, y, s⟩ := p
  obtain ⟨u, v, t⟩ := q
  unfold pcV pBef
  simp only
  by_cases h : y < v
  · have hb : decide (y < v) = true := by simpa using h
    rw [show decide (y < v ∨ y = v ∧ x < u) = true by simp [h]]
    clear h
    go_enter Try.func26, Try.ntmps26
    go_wp2
    go_ret
    exact ⟨rfl, by (repeat (first | exact Fr.refl _ _ | assumption | apply Fr.drewN | apply Fr.drew | apply Fr.alloc | refine Fr.setCell ?_ (Or.inr (by simp; try omega)) _))⟩
  · have hb : decide (y < v) = false := by simpa using h
    by_cases he : y = v
    · subst he
      rw [show decide (y < y ∨ y = y ∧ x < u) = decide (x < u) by simp]
      obtain ⟨c, hc⟩ : ∃ c, decide (x < u) = c := ⟨_, rfl⟩
      rw [hc]
      clear h
      have heq : (y == y) = true := by simp
      go_enter Try.func26, Try.ntmps26
      go_wp2
      go_ret
      exact ⟨rfl, by (repeat (first | exact Fr.refl _ _ | assumption | apply Fr.drewN | apply Fr.drew | apply Fr.alloc | refine Fr.setCell ?_ (Or.inr (by simp; try omega)) _))⟩
    · have heq : (y == v) = false := by simpa using he
      rw [show decide (y < v ∨ y = v ∧ x < u) = false by simp [h, he]]
      clear h he
      go_enter Try.func26, Try.ntmps26
      go_wp2
      go_ret
      exact ⟨rfl, by (repeat (first | exact Fr.refl _ _ | assumption | apply Fr.drewN | apply Fr.drew | apply Fr.alloc | refine Fr.setCell ?_ (Or.inr (by simp; try omega)) _))⟩
set_option maxHeartbeats 8000000 in
set_option maxRecDepth 100000 in
theorem RRight_p {w : World} {l : List PC} {a : Option Addr} {c : Nat} (hl : CellsAt w (.slice a l.length c) l) (hlen : l.length ≤ 4000000000000000000) :
    Calls Try.prog 8 #[.slice a l.length c] w fun e w' => e = .returned (.bool (rightP l)) ∧ Fr [] w w' := by
  have Hl := Lib.hid hl
  clear hl
  go_enter Try.func8, Try.ntmps8
  go_wp2
  go_loopw [3] (fun x wr => ∃ k : Nat, x = .int .i64 k ∧ k ≤ l.length ∧ (∀ j, j < k → rgtAt l j = true) ∧ Fr [] w wr) (fun x _ => l.length - (intOf x).toNat)
  case atStart => exact ⟨0, rfl, by omega, by omega, Fr.refl _ _⟩
  case round =>
    obtain ⟨k, rfl, hk, hn, hf⟩ := hrel
    have Hk := Lib.hid hn
    have Hf := Lib.hid hf
    clear hn hf
    by_cases hlt : k < l.length
    · obtain ⟨⟨x, y, st⟩, hp⟩ : ∃ p, l[k]? = some p := ⟨_, List.getElem?_eq_getElem hlt⟩
      obtain ⟨g, off, rfl, hg, e0, e1, e2⟩ := (Hl.out.fr Hf.out).cell hp
      simp only at e0 e1 e2
      have HPL := Lib.hid (place_p x y)
      cases k with
      | zero =>
        have HA := Lib.hid (rgt_zero hp)
        clear hp
        simp only [Nat.zero_mul, Nat.add_zero] at e0 e1 e2
        unfold cellB at HA
        simp only at HA
        generalize placeB x y = pl at HA HPL
        cases pl with
        | false =>
          go_wp2
          (refine wp_region_text (by kernel_rfl) (by kernel_rfl) ?_)
          go_wp2_with fail
          refine (HPL.out _).mono ?_
          rintro e w1 ⟨rfl, rfl⟩
          go_wp2
          refine Strict.intro rfl ?_
          go_wp2
          go_ret
          exact ⟨ret_bool' (rgt_false (by omega) (HA.out.trans (by simp ))).symm, by have := Hf.out; (repeat (first | exact Fr.refl _ _ | assumption | apply Fr.drewN | apply Fr.drew | apply Fr.alloc | refine Fr.setCell ?_ (Or.inr (by simp; try omega)) _))⟩
        | true =>
          by_cases h1 : st < 1
          · have hd1 : decide (st < 1) = true := by simpa using h1
            go_wp2
            (refine wp_region_text (by kernel_rfl) (by kernel_rfl) ?_)
            go_wp2_with fail
            refine (HPL.out _).mono ?_
            rintro e w1 ⟨rfl, rfl⟩
            go_wp2
            refine Strict.intro rfl ?_
            go_wp2
            go_ret
            exact ⟨ret_bool' (rgt_false (by omega) (HA.out.trans (by simp ; omega))).symm, by have := Hf.out; (repeat (first | exact Fr.refl _ _ | assumption | apply Fr.drewN | apply Fr.drew | apply Fr.alloc | refine Fr.setCell ?_ (Or.inr (by simp; try omega)) _))⟩
          · have hd1 : decide (st < 1) = false := by simpa using h1
            by_cases h8 : st ≥ 8
            · have hd8 : decide (st ≥ 8) = true := by simpa using h8
              go_wp2
              (refine wp_region_text (by kernel_rfl) (by kernel_rfl) ?_)
              go_wp2_with fail
              refine (HPL.out _).mono ?_
              rintro e w1 ⟨rfl, rfl⟩
              go_wp2
              refine Strict.intro rfl ?_
              go_wp2
              go_ret
              exact ⟨ret_bool' (rgt_false (by omega) (HA.out.trans (by simp ; omega))).symm, by have := Hf.out; (repeat (first | exact Fr.refl _ _ | assumption | apply Fr.drewN | apply Fr.drew | apply Fr.alloc | refine Fr.setCell ?_ (Or.inr (by simp; try omega)) _))⟩
            · have hd8 : decide (st ≥ 8) = false := by simpa using h8
              go_wp2
              (refine wp_region_text (by kernel_rfl) (by kernel_rfl) ?_)
              go_wp2_with fail
              refine (HPL.out _).mono ?_
              rintro e w1 ⟨rfl, rfl⟩
              go_wp2
              refine Strict.intro rfl ?_
              go_wp2
              go_roundw
              case rel =>
                refine ⟨0 + 1, by go_num, by omega, fun j hj => ?_, by have := Hf.out; (repeat (first | exact Fr.refl _ _ | assumption | apply Fr.drewN | apply Fr.drew | apply Fr.alloc | refine Fr.setCell ?_ (Or.inr (by simp; try omega)) _))⟩
                rcases Nat.lt_or_ge j (0) with h | h
                · exact Hk.out j h
                · obtain rfl : j = 0 := by omega
                  exact HA.out.trans (by simp ; omega)
              case measure => simp [intOf]; omega
      | succ k =>
        obtain ⟨⟨u, v, su⟩, hq⟩ : ∃ p, l[k]? = some p := ⟨_, List.getElem?_eq_getElem (by omega)⟩
        obtain ⟨g', off', he, _, e3, e4, e5⟩ := (Hl.out.fr Hf.out).cell hq
        cases he
        simp only at e3 e4 e5
        have HA := Lib.hid (rgt_succ hp hq)
        have HOR := Lib.hid (before_p ⟨u, v, su⟩ ⟨x, y, st⟩)
        unfold cellB at HA
        unfold pcV at HOR
        simp only at HA HOR
        generalize placeB x y = pl at HA HPL
        generalize pBef ⟨u, v, su⟩ ⟨x, y, st⟩ = be at HA HOR
        clear hp hq
        cases pl with
        | false =>
          go_wp2
          (refine wp_region_text (by kernel_rfl) (by kernel_rfl) ?_)
          go_wp2_with fail
          refine (HPL.out _).mono ?_
          rintro e w1 ⟨rfl, rfl⟩
          go_wp2
          refine Strict.intro rfl ?_
          go_wp2
          go_ret
          exact ⟨ret_bool' (rgt_false (by omega) (HA.out.trans (by simp ))).symm, by have := Hf.out; (repeat (first | exact Fr.refl _ _ | assumption | apply Fr.drewN | apply Fr.drew | apply Fr.alloc | refine Fr.setCell ?_ (Or.inr (by simp; try omega)) _))⟩
        | true =>
          by_cases h1 : st < 1
          · have hd1 : decide (st < 1) = true := by simpa using h1
            go_wp2
            (refine wp_region_text (by kernel_rfl) (by kernel_rfl) ?_)
            go_wp2_with fail
            refine (HPL.out _).mono ?_
            rintro e w1 ⟨rfl, rfl⟩
            go_wp2
            refine Strict.intro rfl ?_
            go_wp2
            go_ret
            exact ⟨ret_bool' (rgt_false (by omega) (HA.out.trans (by simp ; omega))).symm, by have := Hf.out; (repeat (first | exact Fr.refl _ _ | assumption | apply Fr.drewN | apply Fr.drew | apply Fr.alloc | refine Fr.setCell ?_ (Or.inr (by simp; try omega)) _))⟩
          · have hd1 : decide (st < 1) = false := by simpa using h1
            by_cases h8 : st ≥ 8
            · have hd8 : decide (st ≥ 8) = true := by simpa using h8
              go_wp2
              (refine wp_region_text (by kernel_rfl) (by kernel_rfl) ?_)
              go_wp2_with fail
              refine (HPL.out _).mono ?_
              rintro e w1 ⟨rfl, rfl⟩
              go_wp2
              refine Strict.intro rfl ?_
              go_wp2
              go_ret
              exact ⟨ret_bool' (rgt_false (by omega) (HA.out.trans (by simp ; omega))).symm, by have := Hf.out; (repeat (first | exact Fr.refl _ _ | assumption | apply Fr.drewN | apply Fr.drew | apply Fr.alloc | refine Fr.setCell ?_ (Or.inr (by simp; try omega)) _))⟩
            · have hd8 : decide (st ≥ 8) = false := by simpa using h8
              cases be with
              | true =>
                go_wp2
                (refine wp_region_text (by kernel_rfl) (by kernel_rfl) ?_)
                go_wp2_with fail
                refine (HPL.out _).mono ?_
                rintro e w1 ⟨rfl, rfl⟩
                go_wp2_with fail
                refine (HOR.out _).mono ?_
                rintro e w3 ⟨rfl, hf3⟩
                have Hf := Lib.hid (Fr.trans0 (by have := Hf.out; (repeat (first | exact Fr.refl _ _ | assumption | apply Fr.drewN | apply Fr.drew | apply Fr.alloc | refine Fr.setCell ?_ (Or.inr (by simp; try omega)) _))) hf3 : Fr [] w w3)
                clear hf3
                go_wp2
                refine Strict.intro rfl ?_
                go_wp2
                go_roundw
                case rel =>
                  refine ⟨k+1 + 1, by go_num, by omega, fun j hj => ?_, by have := Hf.out; (repeat (first | exact Fr.refl _ _ | assumption | apply Fr.drewN | apply Fr.drew | apply Fr.alloc | refine Fr.setCell ?_ (Or.inr (by simp; try omega)) _))⟩
                  rcases Nat.lt_or_ge j (k+1) with h | h
                  · exact Hk.out j h
                  · obtain rfl : j = k+1 := by omega
                    exact HA.out.trans (by simp ; omega)
                case measure => simp [intOf]; omega
              | false =>
                go_wp2
                (refine wp_region_text (by kernel_rfl) (by kernel_rfl) ?_)
                go_wp2_with fail
                refine (HPL.out _).mono ?_
                rintro e w1 ⟨rfl, rfl⟩
                go_wp2_with fail
                refine (HOR.out _).mono ?_
                rintro e w3 ⟨rfl, hf3⟩
                have Hf := Lib.hid (Fr.trans0 (by have := Hf.out; (repeat (first | exact Fr.refl _ _ | assumption | apply Fr.drewN | apply Fr.drew | apply Fr.alloc | refine Fr.setCell ?_ (Or.inr (by simp; try omega)) _))) hf3 : Fr [] w w3)
                clear hf3
                go_wp2
                refine Strict.intro rfl ?_
                go_wp2
                go_ret
                exact ⟨ret_bool' (rgt_false (by omega) (HA.out.trans (by simp ))).symm, by have := Hf.out; (repeat (first | exact Fr.refl _ _ | assumption | apply Fr.drewN | apply Fr.drew | apply Fr.alloc | refine Fr.setCell ?_ (Or.inr (by simp; try omega)) _))⟩
    · obtain rfl : k = l.length := by omega
      by_cases h5 : l.length ≤ 5000
      · have hd5 : decide (((l.length : Nat) : Int) ≤ 5000) = true := by simp; omega
        have HT := Lib.hid (rgt_true h5 Hk.out)
        go_wp2
        go_ret
        exact ⟨ret_bool' HT.out.symm, Hf.out⟩
      · have hd5 : decide (((l.length : Nat) : Int) ≤ 5000) = false := by simp; omega
        have HT := Lib.hid (show rightP l = false by unfold rightP; rw [decide_eq_false h5, Bool.false_and])
        go_wp2
        go_ret
        exact ⟨ret_bool' HT.out.symm, Hf.out⟩
end Go.Proofs.Ytdanghnadbkhfaa
end

section
/- Law QuadmapReturns, walked. -/
namespace Go.Proofs.Ytdanghnadbkhfaa
open Go Go.RowKit Go.Proofs.Rg Go.Proofs.Mp Go.Proofs.Hp Go.Proofs.Qs Go.Proofs.Ev Go.Proofs.Bn Go.Proofs.Pt
set_option linter.unusedVariables false
set_option linter.unusedSimpArgs false
set_option maxHeartbeats 16000000 in
set_option maxRecDepth 100000 in
theorem QuadmapReturns_calls {W : World} {p : List PC} {a : Option Addr} {c : Nat} (hp : CellsAt W (.slice a p.length c) p) (X Y L : Int) :
    Calls Try.prog 3 #[.slice a p.length c, .agg #[.int .i64 X, .int .i64 Y, .int .i64 L]] W fun e w' => e = .returned (.bool true) ∧ Fr [] W w' := by
  have HP := Lib.hid hp
  clear hp
  by_cases hl : 60 < p.length
  · have hd : decide ((p.length : Int) > 60) = true := by rw [decide_eq_true_eq]; omega
    clear hl
    go_enter Try.func3, Try.ntmps3
    go_wp2_with fail
    refine (New_has (Has.nil (Fr.refl [] _)) 8 (by omega) (by omega)).mono ?_
    rintro e w1 ⟨b, rfl, h9⟩
    (try clear x0 x1 x2 xl Hx)
    have hx_ := (h9.fr.block (W.heap.size) (by first | (simp; done) | (simp; omega)) (by simp)).trans (show _ = some (.cells #[.int .i64 X, .int .i64 Y, .int .i64 L] 25 (0, 0)) by (repeat (first | rw [if_pos (by omega)] | rw [if_neg (by omega)] | rw [hp_drew] | rw [hp_drewN] | rw [hp_alloc_size] | rw [hp_setCell_size] | rw [hp_alloc] | rw [hp_setCell] | rw [Option.map_some] | rw [upd_cells] | rw [List.set_cons_zero] | rw [List.set_cons_succ] | rfl)))
    have x0 := heap_eq_cell hx_ 0
    have x1 := heap_eq_cell hx_ 1
    have x2 := heap_eq_cell hx_ 2
    have xl := lt_of_block hx_
    have Hx := Lib.hid hx_
    clear hx_
    have H1 := Lib.hid h9
    clear h9
    go_wp2_with fail
    refine (awake_q _).mono ?_
    rintro e w9 ⟨rfl, hf9⟩
    have Hf9 := Lib.hid (Fr.trans0 (by (repeat (first | exact Fr.refl _ _ | assumption | apply Fr.drewN | apply Fr.drew | apply Fr.alloc | refine Fr.setCell ?_ (Or.inr (by simp; try omega)) _)) : Fr [] W _) (H1.out.fr.trans0 (Fr.trans0 (by (repeat (first | exact Fr.refl _ _ | assumption | apply Fr.drewN | apply Fr.drew | apply Fr.alloc | refine Fr.setCell ?_ (Or.inr (by simp; try omega)) _))) hf9)))
    clear hf9
    go_wp2
    go_ret
    exact ⟨rfl, Hf9.out⟩
  have hd : decide ((p.length : Int) > 60) = false := by rw [decide_eq_false_iff_not]; omega
  have hl60 : p.length ≤ 60 := by omega
  clear hl
  cases hr : rightP p
  case false =>
    have HR := Lib.hid hr
    clear hr
    go_enter Try.func3, Try.ntmps3
    go_wp2_with fail
    refine (New_has (Has.nil (Fr.refl [] _)) 8 (by omega) (by omega)).mono ?_
    rintro e w1 ⟨b, rfl, h9⟩
    (try clear x0 x1 x2 xl Hx)
    have hx_ := (h9.fr.block (W.heap.size) (by first | (simp; done) | (simp; omega)) (by simp)).trans (show _ = some (.cells #[.int .i64 X, .int .i64 Y, .int .i64 L] 25 (0, 0)) by (repeat (first | rw [if_pos (by omega)] | rw [if_neg (by omega)] | rw [hp_drew] | rw [hp_drewN] | rw [hp_alloc_size] | rw [hp_setCell_size] | rw [hp_alloc] | rw [hp_setCell] | rw [Option.map_some] | rw [upd_cells] | rw [List.set_cons_zero] | rw [List.set_cons_succ] | rfl)))
    have x0 := heap_eq_cell hx_ 0
    have x1 := heap_eq_cell hx_ 1
    have x2 := heap_eq_cell hx_ 2
    have xl := lt_of_block hx_
    have Hx := Lib.hid hx_
    clear hx_
    have H1 := Lib.hid h9
    clear h9
    go_wp2_with fail
    refine (RRight_p (HP.out.fr (Fr.trans0 (by (repeat (first | exact Fr.refl _ _ | assumption | apply Fr.drewN | apply Fr.drew | apply Fr.alloc | refine Fr.setCell ?_ (Or.inr (by simp; try omega)) _))) H1.out.fr)) (by omega)).mono ?_
    rw [HR.out]
    rintro e w2 ⟨rfl, hf⟩
    have h9 := H1.out.step hf
    (try clear x0 x1 x2 xl Hx)
    have hx_ := (h9.fr.block (W.heap.size) (by first | (simp; done) | (simp; omega)) (by simp)).trans (show _ = some (.cells #[.int .i64 X, .int .i64 Y, .int .i64 L] 25 (0, 0)) by (repeat (first | rw [if_pos (by omega)] | rw [if_neg (by omega)] | rw [hp_drew] | rw [hp_drewN] | rw [hp_alloc_size] | rw [hp_setCell_size] | rw [hp_alloc] | rw [hp_setCell] | rw [Option.map_some] | rw [upd_cells] | rw [List.set_cons_zero] | rw [List.set_cons_succ] | rfl)))
    have x0 := heap_eq_cell hx_ 0
    have x1 := heap_eq_cell hx_ 1
    have x2 := heap_eq_cell hx_ 2
    have xl := lt_of_block hx_
    have Hx := Lib.hid hx_
    clear hx_
    have H2 := Lib.hid h9
    clear h9 H1 hf
    go_wp2_with fail
    refine (awake_q _).mono ?_
    rintro e w9 ⟨rfl, hf9⟩
    have Hf9 := Lib.hid (Fr.trans0 (by (repeat (first | exact Fr.refl _ _ | assumption | apply Fr.drewN | apply Fr.drew | apply Fr.alloc | refine Fr.setCell ?_ (Or.inr (by simp; try omega)) _)) : Fr [] W _) (H2.out.fr.trans0 (Fr.trans0 (by (repeat (first | exact Fr.refl _ _ | assumption | apply Fr.drewN | apply Fr.drew | apply Fr.alloc | refine Fr.setCell ?_ (Or.inr (by simp; try omega)) _))) hf9)))
    clear hf9
    go_wp2
    go_ret
    exact ⟨rfl, Hf9.out⟩
  have HR := Lib.hid hr
  by_cases h1 : X < -1073741824
  · have hd1 : decide (X < -1073741824) = true := by simpa using h1
    clear h1 hr
    go_enter Try.func3, Try.ntmps3
    go_wp2_with fail
    refine (New_has (Has.nil (Fr.refl [] _)) 8 (by omega) (by omega)).mono ?_
    rintro e w1 ⟨b, rfl, h9⟩
    (try clear x0 x1 x2 xl Hx)
    have hx_ := (h9.fr.block (W.heap.size) (by first | (simp; done) | (simp; omega)) (by simp)).trans (show _ = some (.cells #[.int .i64 X, .int .i64 Y, .int .i64 L] 25 (0, 0)) by (repeat (first | rw [if_pos (by omega)] | rw [if_neg (by omega)] | rw [hp_drew] | rw [hp_drewN] | rw [hp_alloc_size] | rw [hp_setCell_size] | rw [hp_alloc] | rw [hp_setCell] | rw [Option.map_some] | rw [upd_cells] | rw [List.set_cons_zero] | rw [List.set_cons_succ] | rfl)))
    have x0 := heap_eq_cell hx_ 0
    have x1 := heap_eq_cell hx_ 1
    have x2 := heap_eq_cell hx_ 2
    have xl := lt_of_block hx_
    have Hx := Lib.hid hx_
    clear hx_
    have H1 := Lib.hid h9
    clear h9
    go_wp2_with fail
    refine (RRight_p (HP.out.fr (Fr.trans0 (by (repeat (first | exact Fr.refl _ _ | assumption | apply Fr.drewN | apply Fr.drew | apply Fr.alloc | refine Fr.setCell ?_ (Or.inr (by simp; try omega)) _))) H1.out.fr)) (by omega)).mono ?_
    rw [HR.out]
    rintro e w2 ⟨rfl, hf⟩
    have h9 := H1.out.step hf
    (try clear x0 x1 x2 xl Hx)
    have hx_ := (h9.fr.block (W.heap.size) (by first | (simp; done) | (simp; omega)) (by simp)).trans (show _ = some (.cells #[.int .i64 X, .int .i64 Y, .int .i64 L] 25 (0, 0)) by (repeat (first | rw [if_pos (by omega)] | rw [if_neg (by omega)] | rw [hp_drew] | rw [hp_drewN] | rw [hp_alloc_size] | rw [hp_setCell_size] | rw [hp_alloc] | rw [hp_setCell] | rw [Option.map_some] | rw [upd_cells] | rw [List.set_cons_zero] | rw [List.set_cons_succ] | rfl)))
    have x0 := heap_eq_cell hx_ 0
    have x1 := heap_eq_cell hx_ 1
    have x2 := heap_eq_cell hx_ 2
    have xl := lt_of_block hx_
    have Hx := Lib.hid hx_
    clear hx_
    have H2 := Lib.hid h9
    clear h9 H1 hf
    go_wp2_with fail
    refine (awake_q _).mono ?_
    rintro e w9 ⟨rfl, hf9⟩
    have Hf9 := Lib.hid (Fr.trans0 (by (repeat (first | exact Fr.refl _ _ | assumption | apply Fr.drewN | apply Fr.drew | apply Fr.alloc | refine Fr.setCell ?_ (Or.inr (by simp; try omega)) _)) : Fr [] W _) (H2.out.fr.trans0 (Fr.trans0 (by (repeat (first | exact Fr.refl _ _ | assumption | apply Fr.drewN | apply Fr.drew | apply Fr.alloc | refine Fr.setCell ?_ (Or.inr (by simp; try omega)) _))) hf9)))
    clear hf9
    go_wp2
    go_ret
    exact ⟨rfl, Hf9.out⟩
  have hd1 : decide (X < -1073741824) = false := by simpa using h1
  by_cases h2 : 1073741824 < X
  · have hd2 : decide (X > 1073741824) = true := by simpa using h2
    clear h1 h2 hr
    go_enter Try.func3, Try.ntmps3
    go_wp2_with fail
    refine (New_has (Has.nil (Fr.refl [] _)) 8 (by omega) (by omega)).mono ?_
    rintro e w1 ⟨b, rfl, h9⟩
    (try clear x0 x1 x2 xl Hx)
    have hx_ := (h9.fr.block (W.heap.size) (by first | (simp; done) | (simp; omega)) (by simp)).trans (show _ = some (.cells #[.int .i64 X, .int .i64 Y, .int .i64 L] 25 (0, 0)) by (repeat (first | rw [if_pos (by omega)] | rw [if_neg (by omega)] | rw [hp_drew] | rw [hp_drewN] | rw [hp_alloc_size] | rw [hp_setCell_size] | rw [hp_alloc] | rw [hp_setCell] | rw [Option.map_some] | rw [upd_cells] | rw [List.set_cons_zero] | rw [List.set_cons_succ] | rfl)))
    have x0 := heap_eq_cell hx_ 0
    have x1 := heap_eq_cell hx_ 1
    have x2 := heap_eq_cell hx_ 2
    have xl := lt_of_block hx_
    have Hx := Lib.hid hx_
    clear hx_
    have H1 := Lib.hid h9
    clear h9
    go_wp2_with fail
    refine (RRight_p (HP.out.fr (Fr.trans0 (by (repeat (first | exact Fr.refl _ _ | assumption | apply Fr.drewN | apply Fr.drew | apply Fr.alloc | refine Fr.setCell ?_ (Or.inr (by simp; try omega)) _))) H1.out.fr)) (by omega)).mono ?_
    rw [HR.out]
    rintro e w2 ⟨rfl, hf⟩
    have h9 := H1.out.step hf
    (try clear x0 x1 x2 xl Hx)
    have hx_ := (h9.fr.block (W.heap.size) (by first | (simp; done) | (simp; omega)) (by simp)).trans (show _ = some (.cells #[.int .i64 X, .int .i64 Y, .int .i64 L] 25 (0, 0)) by (repeat (first | rw [if_pos (by omega)] | rw [if_neg (by omega)] | rw [hp_drew] | rw [hp_drewN] | rw [hp_alloc_size] | rw [hp_setCell_size] | rw [hp_alloc] | rw [hp_setCell] | rw [Option.map_some] | rw [upd_cells] | rw [List.set_cons_zero] | rw [List.set_cons_succ] | rfl)))
    have x0 := heap_eq_cell hx_ 0
    have x1 := heap_eq_cell hx_ 1
    have x2 := heap_eq_cell hx_ 2
    have xl := lt_of_block hx_
    have Hx := Lib.hid hx_
    clear hx_
    have H2 := Lib.hid h9
    clear h9 H1 hf
    go_wp2_with fail
    refine (awake_q _).mono ?_
    rintro e w9 ⟨rfl, hf9⟩
    have Hf9 := Lib.hid (Fr.trans0 (by (repeat (first | exact Fr.refl _ _ | assumption | apply Fr.drewN | apply Fr.drew | apply Fr.alloc | refine Fr.setCell ?_ (Or.inr (by simp; try omega)) _)) : Fr [] W _) (H2.out.fr.trans0 (Fr.trans0 (by (repeat (first | exact Fr.refl _ _ | assumption | apply Fr.drewN | apply Fr.drew | apply Fr.alloc | refine Fr.setCell ?_ (Or.inr (by simp; try omega)) _))) hf9)))
    clear hf9
    go_wp2
    go_ret
    exact ⟨rfl, Hf9.out⟩
  have hd2 : decide (X > 1073741824) = false := by simpa using h2
  by_cases h3 : Y < -1073741824
  · have hd3 : decide (Y < -1073741824) = true := by simpa using h3
    clear h1 h2 h3 hr
    go_enter Try.func3, Try.ntmps3
    go_wp2_with fail
    refine (New_has (Has.nil (Fr.refl [] _)) 8 (by omega) (by omega)).mono ?_
    rintro e w1 ⟨b, rfl, h9⟩
    (try clear x0 x1 x2 xl Hx)
    have hx_ := (h9.fr.block (W.heap.size) (by first | (simp; done) | (simp; omega)) (by simp)).trans (show _ = some (.cells #[.int .i64 X, .int .i64 Y, .int .i64 L] 25 (0, 0)) by (repeat (first | rw [if_pos (by omega)] | rw [if_neg (by omega)] | rw [hp_drew] | rw [hp_drewN] | rw [hp_alloc_size] | rw [hp_setCell_size] | rw [hp_alloc] | rw [hp_setCell] | rw [Option.map_some] | rw [upd_cells] | rw [List.set_cons_zero] | rw [List.set_cons_succ] | rfl)))
    have x0 := heap_eq_cell hx_ 0
    have x1 := heap_eq_cell hx_ 1
    have x2 := heap_eq_cell hx_ 2
    have xl := lt_of_block hx_
    have Hx := Lib.hid hx_
    clear hx_
    have H1 := Lib.hid h9
    clear h9
    go_wp2_with fail
    refine (RRight_p (HP.out.fr (Fr.trans0 (by (repeat (first | exact Fr.refl _ _ | assumption | apply Fr.drewN | apply Fr.drew | apply Fr.alloc | refine Fr.setCell ?_ (Or.inr (by simp; try omega)) _))) H1.out.fr)) (by omega)).mono ?_
    rw [HR.out]
    rintro e w2 ⟨rfl, hf⟩
    have h9 := H1.out.step hf
    (try clear x0 x1 x2 xl Hx)
    have hx_ := (h9.fr.block (W.heap.size) (by first | (simp; done) | (simp; omega)) (by simp)).trans (show _ = some (.cells #[.int .i64 X, .int .i64 Y, .int .i64 L] 25 (0, 0)) by (repeat (first | rw [if_pos (by omega)] | rw [if_neg (by omega)] | rw [hp_drew] | rw [hp_drewN] | rw [hp_alloc_size] | rw [hp_setCell_size] | rw [hp_alloc] | rw [hp_setCell] | rw [Option.map_some] | rw [upd_cells] | rw [List.set_cons_zero] | rw [List.set_cons_succ] | rfl)))
    have x0 := heap_eq_cell hx_ 0
    have x1 := heap_eq_cell hx_ 1
    have x2 := heap_eq_cell hx_ 2
    have xl := lt_of_block hx_
    have Hx := Lib.hid hx_
    clear hx_
    have H2 := Lib.hid h9
    clear h9 H1 hf
    go_wp2_with fail
    refine (awake_q _).mono ?_
    rintro e w9 ⟨rfl, hf9⟩
    have Hf9 := Lib.hid (Fr.trans0 (by (repeat (first | exact Fr.refl _ _ | assumption | apply Fr.drewN | apply Fr.drew | apply Fr.alloc | refine Fr.setCell ?_ (Or.inr (by simp; try omega)) _)) : Fr [] W _) (H2.out.fr.trans0 (Fr.trans0 (by (repeat (first | exact Fr.refl _ _ | assumption | apply Fr.drewN | apply Fr.drew | apply Fr.alloc | refine Fr.setCell ?_ (Or.inr (by simp; try omega)) _))) hf9)))
    clear hf9
    go_wp2
    go_ret
    exact ⟨rfl, Hf9.out⟩
  have hd3 : decide (Y < -1073741824) = false := by simpa using h3
  by_cases h4 : 1073741824 < Y
  · have hd4 : decide (Y > 1073741824) = true := by simpa using h4
    clear h1 h2 h3 h4 hr
    go_enter Try.func3, Try.ntmps3
    go_wp2_with fail
    refine (New_has (Has.nil (Fr.refl [] _)) 8 (by omega) (by omega)).mono ?_
    rintro e w1 ⟨b, rfl, h9⟩
    (try clear x0 x1 x2 xl Hx)
    have hx_ := (h9.fr.block (W.heap.size) (by first | (simp; done) | (simp; omega)) (by simp)).trans (show _ = some (.cells #[.int .i64 X, .int .i64 Y, .int .i64 L] 25 (0, 0)) by (repeat (first | rw [if_pos (by omega)] | rw [if_neg (by omega)] | rw [hp_drew] | rw [hp_drewN] | rw [hp_alloc_size] | rw [hp_setCell_size] | rw [hp_alloc] | rw [hp_setCell] | rw [Option.map_some] | rw [upd_cells] | rw [List.set_cons_zero] | rw [List.set_cons_succ] | rfl)))
    have x0 := heap_eq_cell hx_ 0
    have x1 := heap_eq_cell hx_ 1
    have x2 := heap_eq_cell hx_ 2
    have xl := lt_of_block hx_
    have Hx := Lib.hid hx_
    clear hx_
    have H1 := Lib.hid h9
    clear h9
    go_wp2_with fail
    refine (RRight_p (HP.out.fr (Fr.trans0 (by (repeat (first | exact Fr.refl _ _ | assumption | apply Fr.drewN | apply Fr.drew | apply Fr.alloc | refine Fr.setCell ?_ (Or.inr (by simp; try omega)) _))) H1.out.fr)) (by omega)).mono ?_
    rw [HR.out]
    rintro e w2 ⟨rfl, hf⟩
    have h9 := H1.out.step hf
    (try clear x0 x1 x2 xl Hx)
    have hx_ := (h9.fr.block (W.heap.size) (by first | (simp; done) | (simp; omega)) (by simp)).trans (show _ = some (.cells #[.int .i64 X, .int .i64 Y, .int .i64 L] 25 (0, 0)) by (repeat (first | rw [if_pos (by omega)] | rw [if_neg (by omega)] | rw [hp_drew] | rw [hp_drewN] | rw [hp_alloc_size] | rw [hp_setCell_size] | rw [hp_alloc] | rw [hp_setCell] | rw [Option.map_some] | rw [upd_cells] | rw [List.set_cons_zero] | rw [List.set_cons_succ] | rfl)))
    have x0 := heap_eq_cell hx_ 0
    have x1 := heap_eq_cell hx_ 1
    have x2 := heap_eq_cell hx_ 2
    have xl := lt_of_block hx_
    have Hx := Lib.hid hx_
    clear hx_
    have H2 := Lib.hid h9
    clear h9 H1 hf
    go_wp2_with fail
    refine (awake_q _).mono ?_
    rintro e w9 ⟨rfl, hf9⟩
    have Hf9 := Lib.hid (Fr.trans0 (by (repeat (first | exact Fr.refl _ _ | assumption | apply Fr.drewN | apply Fr.drew | apply Fr.alloc | refine Fr.setCell ?_ (Or.inr (by simp; try omega)) _)) : Fr [] W _) (H2.out.fr.trans0 (Fr.trans0 (by (repeat (first | exact Fr.refl _ _ | assumption | apply Fr.drewN | apply Fr.drew | apply Fr.alloc | refine Fr.setCell ?_ (Or.inr (by simp; try omega)) _))) hf9)))
    clear hf9
    go_wp2
    go_ret
    exact ⟨rfl, Hf9.out⟩
  have hd4 : decide (Y > 1073741824) = false := by simpa using h4
  by_cases h5 : 40 < L
  · have hd5 : decide (L > 40) = true := by simpa using h5
    clear h1 h2 h3 h4 h5 hr
    go_enter Try.func3, Try.ntmps3
    go_wp2_with fail
    refine (New_has (Has.nil (Fr.refl [] _)) 8 (by omega) (by omega)).mono ?_
    rintro e w1 ⟨b, rfl, h9⟩
    (try clear x0 x1 x2 xl Hx)
    have hx_ := (h9.fr.block (W.heap.size) (by first | (simp; done) | (simp; omega)) (by simp)).trans (show _ = some (.cells #[.int .i64 X, .int .i64 Y, .int .i64 L] 25 (0, 0)) by (repeat (first | rw [if_pos (by omega)] | rw [if_neg (by omega)] | rw [hp_drew] | rw [hp_drewN] | rw [hp_alloc_size] | rw [hp_setCell_size] | rw [hp_alloc] | rw [hp_setCell] | rw [Option.map_some] | rw [upd_cells] | rw [List.set_cons_zero] | rw [List.set_cons_succ] | rfl)))
    have x0 := heap_eq_cell hx_ 0
    have x1 := heap_eq_cell hx_ 1
    have x2 := heap_eq_cell hx_ 2
    have xl := lt_of_block hx_
    have Hx := Lib.hid hx_
    clear hx_
    have H1 := Lib.hid h9
    clear h9
    go_wp2_with fail
    refine (RRight_p (HP.out.fr (Fr.trans0 (by (repeat (first | exact Fr.refl _ _ | assumption | apply Fr.drewN | apply Fr.drew | apply Fr.alloc | refine Fr.setCell ?_ (Or.inr (by simp; try omega)) _))) H1.out.fr)) (by omega)).mono ?_
    rw [HR.out]
    rintro e w2 ⟨rfl, hf⟩
    have h9 := H1.out.step hf
    (try clear x0 x1 x2 xl Hx)
    have hx_ := (h9.fr.block (W.heap.size) (by first | (simp; done) | (simp; omega)) (by simp)).trans (show _ = some (.cells #[.int .i64 X, .int .i64 Y, .int .i64 L] 25 (0, 0)) by (repeat (first | rw [if_pos (by omega)] | rw [if_neg (by omega)] | rw [hp_drew] | rw [hp_drewN] | rw [hp_alloc_size] | rw [hp_setCell_size] | rw [hp_alloc] | rw [hp_setCell] | rw [Option.map_some] | rw [upd_cells] | rw [List.set_cons_zero] | rw [List.set_cons_succ] | rfl)))
    have x0 := heap_eq_cell hx_ 0
    have x1 := heap_eq_cell hx_ 1
    have x2 := heap_eq_cell hx_ 2
    have xl := lt_of_block hx_
    have Hx := Lib.hid hx_
    clear hx_
    have H2 := Lib.hid h9
    clear h9 H1 hf
    go_wp2_with fail
    refine (awake_q _).mono ?_
    rintro e w9 ⟨rfl, hf9⟩
    have Hf9 := Lib.hid (Fr.trans0 (by (repeat (first | exact Fr.refl _ _ | assumption | apply Fr.drewN | apply Fr.drew | apply Fr.alloc | refine Fr.setCell ?_ (Or.inr (by simp; try omega)) _)) : Fr [] W _) (H2.out.fr.trans0 (Fr.trans0 (by (repeat (first | exact Fr.refl _ _ | assumption | apply Fr.drewN | apply Fr.drew | apply Fr.alloc | refine Fr.setCell ?_ (Or.inr (by simp; try omega)) _))) hf9)))
    clear hf9
    go_wp2
    go_ret
    exact ⟨rfl, Hf9.out⟩
  have hd5 : decide (L > 40) = false := by simpa using h5
  have HXY := Lib.hid (show (-9223372036854775808 ≤ X ∧ X < 9223372036854775808) ∧ -9223372036854775808 ≤ Y ∧ Y < 9223372036854775808 from ⟨⟨by omega, by omega⟩, by omega, by omega⟩)
  rcases returns_ok (x := X) (y := Y) hr hl60 (show L ≤ 40 by omega) with ⟨hL, hE⟩ | hE | ⟨id, ms, hOK⟩
  · have HE1 := Lib.hid hE
    have hd6 : decide (L < 0) = true := by simpa using hL
    clear h1 h2 h3 h4 h5 hr hL hE
    go_enter Try.func3, Try.ntmps3
    go_wp2_with fail
    refine (New_has (Has.nil (Fr.refl [] _)) 8 (by omega) (by omega)).mono ?_
    rintro e w1 ⟨b, rfl, h9⟩
    (try clear x0 x1 x2 xl Hx)
    have hx_ := (h9.fr.block (W.heap.size) (by first | (simp; done) | (simp; omega)) (by simp)).trans (show _ = some (.cells #[.int .i64 X, .int .i64 Y, .int .i64 L] 25 (0, 0)) by (repeat (first | rw [if_pos (by omega)] | rw [if_neg (by omega)] | rw [hp_drew] | rw [hp_drewN] | rw [hp_alloc_size] | rw [hp_setCell_size] | rw [hp_alloc] | rw [hp_setCell] | rw [Option.map_some] | rw [upd_cells] | rw [List.set_cons_zero] | rw [List.set_cons_succ] | rfl)))
    have x0 := heap_eq_cell hx_ 0
    have x1 := heap_eq_cell hx_ 1
    have x2 := heap_eq_cell hx_ 2
    have xl := lt_of_block hx_
    have Hx := Lib.hid hx_
    clear hx_
    have H1 := Lib.hid h9
    clear h9
    go_wp2_with fail
    refine (RRight_p (HP.out.fr (Fr.trans0 (by (repeat (first | exact Fr.refl _ _ | assumption | apply Fr.drewN | apply Fr.drew | apply Fr.alloc | refine Fr.setCell ?_ (Or.inr (by simp; try omega)) _))) H1.out.fr)) (by omega)).mono ?_
    rw [HR.out]
    rintro e w2 ⟨rfl, hf⟩
    have h9 := H1.out.step hf
    (try clear x0 x1 x2 xl Hx)
    have hx_ := (h9.fr.block (W.heap.size) (by first | (simp; done) | (simp; omega)) (by simp)).trans (show _ = some (.cells #[.int .i64 X, .int .i64 Y, .int .i64 L] 25 (0, 0)) by (repeat (first | rw [if_pos (by omega)] | rw [if_neg (by omega)] | rw [hp_drew] | rw [hp_drewN] | rw [hp_alloc_size] | rw [hp_setCell_size] | rw [hp_alloc] | rw [hp_setCell] | rw [Option.map_some] | rw [upd_cells] | rw [List.set_cons_zero] | rw [List.set_cons_succ] | rfl)))
    have x0 := heap_eq_cell hx_ 0
    have x1 := heap_eq_cell hx_ 1
    have x2 := heap_eq_cell hx_ 2
    have xl := lt_of_block hx_
    have Hx := Lib.hid hx_
    clear hx_
    have H2 := Lib.hid h9
    clear h9 H1 hf
    go_wp2_with fail
    refine (From_q H2.out (HP.out.fr (Fr.trans0 (by (repeat (first | exact Fr.refl _ _ | assumption | apply Fr.drewN | apply Fr.drew | apply Fr.alloc | refine Fr.setCell ?_ (Or.inr (by simp; try omega)) _))) H2.out.fr)) (by omega) X Y L HXY.out.1 HXY.out.2).mono ?_
    rw [HE1.out]
    rintro e w3 ⟨rfl, h9⟩
    (try clear x0 x1 x2 xl Hx)
    have hx_ := (h9.fr.block (W.heap.size) (by first | (simp; done) | (simp; omega)) (by simp)).trans (show _ = some (.cells #[.int .i64 X, .int .i64 Y, .int .i64 L] 25 (0, 0)) by (repeat (first | rw [if_pos (by omega)] | rw [if_neg (by omega)] | rw [hp_drew] | rw [hp_drewN] | rw [hp_alloc_size] | rw [hp_setCell_size] | rw [hp_alloc] | rw [hp_setCell] | rw [Option.map_some] | rw [upd_cells] | rw [List.set_cons_zero] | rw [List.set_cons_succ] | rfl)))
    have x0 := heap_eq_cell hx_ 0
    have x1 := heap_eq_cell hx_ 1
    have x2 := heap_eq_cell hx_ 2
    have xl := lt_of_block hx_
    have Hx := Lib.hid hx_
    clear hx_
    have H3 := Lib.hid h9
    clear h9 H2
    go_wp2_with fail
    refine (awake_q _).mono ?_
    rintro e w9 ⟨rfl, hf9⟩
    have Hf9 := Lib.hid (Fr.trans0 (by (repeat (first | exact Fr.refl _ _ | assumption | apply Fr.drewN | apply Fr.drew | apply Fr.alloc | refine Fr.setCell ?_ (Or.inr (by simp; try omega)) _)) : Fr [] W _) (H3.out.fr.trans0 (Fr.trans0 (by (repeat (first | exact Fr.refl _ _ | assumption | apply Fr.drewN | apply Fr.drew | apply Fr.alloc | refine Fr.setCell ?_ (Or.inr (by simp; try omega)) _))) hf9)))
    clear hf9
    go_wp2
    go_ret
    exact ⟨rfl, Hf9.out⟩
  · have HE1 := Lib.hid hE
    clear h1 h2 h3 h4 h5 hr hE
    go_enter Try.func3, Try.ntmps3
    go_wp2_with fail
    refine (New_has (Has.nil (Fr.refl [] _)) 8 (by omega) (by omega)).mono ?_
    rintro e w1 ⟨b, rfl, h9⟩
    (try clear x0 x1 x2 xl Hx)
    have hx_ := (h9.fr.block (W.heap.size) (by first | (simp; done) | (simp; omega)) (by simp)).trans (show _ = some (.cells #[.int .i64 X, .int .i64 Y, .int .i64 L] 25 (0, 0)) by (repeat (first | rw [if_pos (by omega)] | rw [if_neg (by omega)] | rw [hp_drew] | rw [hp_drewN] | rw [hp_alloc_size] | rw [hp_setCell_size] | rw [hp_alloc] | rw [hp_setCell] | rw [Option.map_some] | rw [upd_cells] | rw [List.set_cons_zero] | rw [List.set_cons_succ] | rfl)))
    have x0 := heap_eq_cell hx_ 0
    have x1 := heap_eq_cell hx_ 1
    have x2 := heap_eq_cell hx_ 2
    have xl := lt_of_block hx_
    have Hx := Lib.hid hx_
    clear hx_
    have H1 := Lib.hid h9
    clear h9
    go_wp2_with fail
    refine (RRight_p (HP.out.fr (Fr.trans0 (by (repeat (first | exact Fr.refl _ _ | assumption | apply Fr.drewN | apply Fr.drew | apply Fr.alloc | refine Fr.setCell ?_ (Or.inr (by simp; try omega)) _))) H1.out.fr)) (by omega)).mono ?_
    rw [HR.out]
    rintro e w2 ⟨rfl, hf⟩
    have h9 := H1.out.step hf
    (try clear x0 x1 x2 xl Hx)
    have hx_ := (h9.fr.block (W.heap.size) (by first | (simp; done) | (simp; omega)) (by simp)).trans (show _ = some (.cells #[.int .i64 X, .int .i64 Y, .int .i64 L] 25 (0, 0)) by (repeat (first | rw [if_pos (by omega)] | rw [if_neg (by omega)] | rw [hp_drew] | rw [hp_drewN] | rw [hp_alloc_size] | rw [hp_setCell_size] | rw [hp_alloc] | rw [hp_setCell] | rw [Option.map_some] | rw [upd_cells] | rw [List.set_cons_zero] | rw [List.set_cons_succ] | rfl)))
    have x0 := heap_eq_cell hx_ 0
    have x1 := heap_eq_cell hx_ 1
    have x2 := heap_eq_cell hx_ 2
    have xl := lt_of_block hx_
    have Hx := Lib.hid hx_
    clear hx_
    have H2 := Lib.hid h9
    clear h9 H1 hf
    go_wp2_with fail
    refine (From_q H2.out (HP.out.fr (Fr.trans0 (by (repeat (first | exact Fr.refl _ _ | assumption | apply Fr.drewN | apply Fr.drew | apply Fr.alloc | refine Fr.setCell ?_ (Or.inr (by simp; try omega)) _))) H2.out.fr)) (by omega) X Y L HXY.out.1 HXY.out.2).mono ?_
    rw [HE1.out]
    rintro e w3 ⟨rfl, h9⟩
    (try clear x0 x1 x2 xl Hx)
    have hx_ := (h9.fr.block (W.heap.size) (by first | (simp; done) | (simp; omega)) (by simp)).trans (show _ = some (.cells #[.int .i64 X, .int .i64 Y, .int .i64 L] 25 (0, 0)) by (repeat (first | rw [if_pos (by omega)] | rw [if_neg (by omega)] | rw [hp_drew] | rw [hp_drewN] | rw [hp_alloc_size] | rw [hp_setCell_size] | rw [hp_alloc] | rw [hp_setCell] | rw [Option.map_some] | rw [upd_cells] | rw [List.set_cons_zero] | rw [List.set_cons_succ] | rfl)))
    have x0 := heap_eq_cell hx_ 0
    have x1 := heap_eq_cell hx_ 1
    have x2 := heap_eq_cell hx_ 2
    have xl := lt_of_block hx_
    have Hx := Lib.hid hx_
    clear hx_
    have H3 := Lib.hid h9
    clear h9 H2
    go_wp2_with fail
    refine (awake_q _).mono ?_
    rintro e w9 ⟨rfl, hf9⟩
    have Hf9 := Lib.hid (Fr.trans0 (by (repeat (first | exact Fr.refl _ _ | assumption | apply Fr.drewN | apply Fr.drew | apply Fr.alloc | refine Fr.setCell ?_ (Or.inr (by simp; try omega)) _)) : Fr [] W _) (H3.out.fr.trans0 (Fr.trans0 (by (repeat (first | exact Fr.refl _ _ | assumption | apply Fr.drewN | apply Fr.drew | apply Fr.alloc | refine Fr.setCell ?_ (Or.inr (by simp; try omega)) _))) hf9)))
    clear hf9
    go_wp2
    go_ret
    exact ⟨rfl, Hf9.out⟩
  obtain ⟨hE1, hg, hlv, hE2, hE3, hE4⟩ := hOK
  have HE1 := Lib.hid hE1
  have HE2 := Lib.hid hE2
  have HE3 := Lib.hid hE3
  have HE4 := Lib.hid hE4
  have HLV := Lib.hid hlv
  clear h1 h2 h3 h4 h5 hr hE1 hg hlv hE2 hE3 hE4
  go_enter Try.func3, Try.ntmps3
  go_wp2_with fail
  refine (New_has (Has.nil (Fr.refl [] _)) 8 (by omega) (by omega)).mono ?_
  rintro e w1 ⟨b, rfl, h9⟩
  (try clear x0 x1 x2 xl Hx)
  have hx_ := (h9.fr.block (W.heap.size) (by first | (simp; done) | (simp; omega)) (by simp)).trans (show _ = some (.cells #[.int .i64 X, .int .i64 Y, .int .i64 L] 25 (0, 0)) by (repeat (first | rw [if_pos (by omega)] | rw [if_neg (by omega)] | rw [hp_drew] | rw [hp_drewN] | rw [hp_alloc_size] | rw [hp_setCell_size] | rw [hp_alloc] | rw [hp_setCell] | rw [Option.map_some] | rw [upd_cells] | rw [List.set_cons_zero] | rw [List.set_cons_succ] | rfl)))
  have x0 := heap_eq_cell hx_ 0
  have x1 := heap_eq_cell hx_ 1
  have x2 := heap_eq_cell hx_ 2
  have xl := lt_of_block hx_
  have Hx := Lib.hid hx_
  clear hx_
  have H1 := Lib.hid h9
  clear h9
  go_wp2_with fail
  refine (RRight_p (HP.out.fr (Fr.trans0 (by (repeat (first | exact Fr.refl _ _ | assumption | apply Fr.drewN | apply Fr.drew | apply Fr.alloc | refine Fr.setCell ?_ (Or.inr (by simp; try omega)) _))) H1.out.fr)) (by omega)).mono ?_
  rw [HR.out]
  rintro e w2 ⟨rfl, hf⟩
  have h9 := H1.out.step hf
  (try clear x0 x1 x2 xl Hx)
  have hx_ := (h9.fr.block (W.heap.size) (by first | (simp; done) | (simp; omega)) (by simp)).trans (show _ = some (.cells #[.int .i64 X, .int .i64 Y, .int .i64 L] 25 (0, 0)) by (repeat (first | rw [if_pos (by omega)] | rw [if_neg (by omega)] | rw [hp_drew] | rw [hp_drewN] | rw [hp_alloc_size] | rw [hp_setCell_size] | rw [hp_alloc] | rw [hp_setCell] | rw [Option.map_some] | rw [upd_cells] | rw [List.set_cons_zero] | rw [List.set_cons_succ] | rfl)))
  have x0 := heap_eq_cell hx_ 0
  have x1 := heap_eq_cell hx_ 1
  have x2 := heap_eq_cell hx_ 2
  have xl := lt_of_block hx_
  have Hx := Lib.hid hx_
  clear hx_
  have H2 := Lib.hid h9
  clear h9 H1 hf
  go_wp2_with fail
  refine (From_q H2.out (HP.out.fr (Fr.trans0 (by (repeat (first | exact Fr.refl _ _ | assumption | apply Fr.drewN | apply Fr.drew | apply Fr.alloc | refine Fr.setCell ?_ (Or.inr (by simp; try omega)) _))) H2.out.fr)) (by omega) X Y L HXY.out.1 HXY.out.2).mono ?_
  rw [HE1.out]
  rintro e w3 ⟨rfl, h9⟩
  (try clear x0 x1 x2 xl Hx)
  have hx_ := (h9.fr.block (W.heap.size) (by first | (simp; done) | (simp; omega)) (by simp)).trans (show _ = some (.cells #[.int .i64 X, .int .i64 Y, .int .i64 L] 25 (0, 0)) by (repeat (first | rw [if_pos (by omega)] | rw [if_neg (by omega)] | rw [hp_drew] | rw [hp_drewN] | rw [hp_alloc_size] | rw [hp_setCell_size] | rw [hp_alloc] | rw [hp_setCell] | rw [Option.map_some] | rw [upd_cells] | rw [List.set_cons_zero] | rw [List.set_cons_succ] | rfl)))
  have x0 := heap_eq_cell hx_ 0
  have x1 := heap_eq_cell hx_ 1
  have x2 := heap_eq_cell hx_ 2
  have xl := lt_of_block hx_
  have Hx := Lib.hid hx_
  clear hx_
  have H3 := Lib.hid h9
  clear h9 H2
  go_wp2_with fail
  refine (Pattern_q H3.out id X Y HXY.out.1 HXY.out.2).mono ?_
  rw [HE2.out]
  rintro e w4 ⟨v, rfl, h9⟩
  (try clear x0 x1 x2 xl Hx)
  have hx_ := (h9.fr.block (W.heap.size) (by first | (simp; done) | (simp; omega)) (by simp)).trans (show _ = some (.cells #[.int .i64 X, .int .i64 Y, .int .i64 L] 25 (0, 0)) by (repeat (first | rw [if_pos (by omega)] | rw [if_neg (by omega)] | rw [hp_drew] | rw [hp_drewN] | rw [hp_alloc_size] | rw [hp_setCell_size] | rw [hp_alloc] | rw [hp_setCell] | rw [Option.map_some] | rw [upd_cells] | rw [List.set_cons_zero] | rw [List.set_cons_succ] | rfl)))
  have x0 := heap_eq_cell hx_ 0
  have x1 := heap_eq_cell hx_ 1
  have x2 := heap_eq_cell hx_ 2
  have xl := lt_of_block hx_
  have Hx := Lib.hid hx_
  clear hx_
  obtain ⟨av, cv, rfl, _, _⟩ := owns_form h9.swap.row
  have H4 := Lib.hid h9
  clear h9 H3
  go_wp2_with fail
  refine (Population_q H4.out id).mono ?_
  rw [HE3.out, HE4.out]
  rintro e w5 ⟨a5, c5, rfl, h9⟩
  have h8 := (has_alloc h9 #[.bool false, .slice a5 (zd ((p.length : Nat) : Int)).length c5] 38).swap
  obtain ⟨x11, hx11⟩ : ∃ x, w5.heap.size = x := ⟨_, rfl⟩
  rw [hx11] at h8
  (try clear x0 x1 x2 xl Hx)
  have hx_ := (h9.fr.block (W.heap.size) (by first | (simp; done) | (simp; omega)) (by simp)).trans (show _ = some (.cells #[.int .i64 X, .int .i64 Y, .int .i64 L] 25 (0, 0)) by (repeat (first | rw [if_pos (by omega)] | rw [if_neg (by omega)] | rw [hp_drew] | rw [hp_drewN] | rw [hp_alloc_size] | rw [hp_setCell_size] | rw [hp_alloc] | rw [hp_setCell] | rw [Option.map_some] | rw [upd_cells] | rw [List.set_cons_zero] | rw [List.set_cons_succ] | rfl)))
  have x0 := heap_eq_cell hx_ 0
  have x1 := heap_eq_cell hx_ 1
  have x2 := heap_eq_cell hx_ 2
  have xl := lt_of_block hx_
  have Hx := Lib.hid hx_
  clear hx_
  have H5 := Lib.hid h8
  clear h9 h8 H4
  simp only [bvV]
  go_wp2
  clear x0 x1 x2 xl Hx
  (try clear x0 x1 x2 xl Hx)
  have hx_ := (H5.out.fr.block (W.heap.size) (by first | (simp; done) | (simp; omega)) (by simp)).trans (show _ = some (.cells #[.int .i64 X, .int .i64 Y, .int .i64 L] 25 (0, 0)) by (repeat (first | rw [if_pos (by omega)] | rw [if_neg (by omega)] | rw [hp_drew] | rw [hp_drewN] | rw [hp_alloc_size] | rw [hp_setCell_size] | rw [hp_alloc] | rw [hp_setCell] | rw [Option.map_some] | rw [upd_cells] | rw [List.set_cons_zero] | rw [List.set_cons_succ] | rfl)))
  have x0 := heap_eq_cell hx_ 0
  have x1 := heap_eq_cell hx_ 1
  have x2 := heap_eq_cell hx_ 2
  have xl := lt_of_block hx_
  have Hx := Lib.hid hx_
  clear hx_
  refine wp_region_segs [([0, 1, 2, 3, 4, 5, 6, 7, 8, 10, 11, 9], [11]), ([12, 13, 14, 15, 16, 17, 18, 19, 20, 21, 22, 23], [20]), ([24, 25, 26, 27, 28, 29], [])] (by kernel_rfl) (by kernel_rfl) ?_
  (simp only [wpSegs, pick, Array.getD_eq_getD_getElem?, List.getElem?_toArray, List.getElem?_cons_succ, List.getElem?_cons_zero, Option.getD_some])
  go_wp2_with fail
  refine (Level_has (H5.out.step (by (repeat (first | exact Fr.refl _ _ | assumption | apply Fr.drewN | apply Fr.drew | apply Fr.alloc | refine Fr.setCell ?_ (Or.inr (by simp; try omega)) _)))) id).mono ?_
  rw [HLV.out]
  rintro e w6 ⟨rfl, h9, _⟩
  (try clear x0 x1 x2 xl Hx)
  have hx_ := (h9.fr.block (W.heap.size) (by first | (simp; done) | (simp; omega)) (by simp)).trans (show _ = some (.cells #[.int .i64 X, .int .i64 Y, .int .i64 L] 25 (0, 0)) by (repeat (first | rw [if_pos (by omega)] | rw [if_neg (by omega)] | rw [hp_drew] | rw [hp_drewN] | rw [hp_alloc_size] | rw [hp_setCell_size] | rw [hp_alloc] | rw [hp_setCell] | rw [Option.map_some] | rw [upd_cells] | rw [List.set_cons_zero] | rw [List.set_cons_succ] | rfl)))
  have x0 := heap_eq_cell hx_ 0
  have x1 := heap_eq_cell hx_ 1
  have x2 := heap_eq_cell hx_ 2
  have xl := lt_of_block hx_
  have Hx := Lib.hid hx_
  clear hx_
  have H6 := Lib.hid h9
  clear h9
  go_wp2
  refine Mid.intro ⟨⟨again_cell (T := 3) rfl rfl rfl Try.underlying3 rfl x2 rfl, trivial⟩, ?_⟩
  obtain ⟨x11', hx11'⟩ : ∃ x, x = x11 := ⟨_, rfl⟩
  have hp4 := H6.out.ord 4 [3]
  simp only [List.filterMap_cons, List.filterMap_nil, List.getElem?_cons_zero, List.getElem?_cons_succ, List.drop_succ_cons, List.drop_zero, List.cons_append, List.nil_append] at hp4
  have HROW := Lib.hid (show ∀ w1, Fr [] w6 w1 → CellsAt w1 (.slice av p.length cv) p from fun w1 hf => CellsAt.fr (Reads.of_owns hp4.row) hf)
  clear hp4
  go_wp2_with fail
  refine (Same_p (HROW.out _ (by (repeat (first | exact Fr.refl _ _ | assumption | apply Fr.drewN | apply Fr.drew | apply Fr.alloc | refine Fr.setCell ?_ (Or.inr (by simp; try omega)) _)))) (HP.out.fr (Fr.trans0 (by (repeat (first | exact Fr.refl _ _ | assumption | apply Fr.drewN | apply Fr.drew | apply Fr.alloc | refine Fr.setCell ?_ (Or.inr (by simp; try omega)) _))) H6.out.fr)) (by omega) (by omega)).mono ?_
  rw [decide_eq_true rfl]
  rintro e w7 ⟨rfl, hf⟩
  have h9 := H6.out.step (Fr.trans0 (by (repeat (first | exact Fr.refl _ _ | assumption | apply Fr.drewN | apply Fr.drew | apply Fr.alloc | refine Fr.setCell ?_ (Or.inr (by simp; try omega)) _))) hf)
  (try clear x0 x1 x2 xl Hx)
  have hx_ := (h9.fr.block (W.heap.size) (by first | (simp; done) | (simp; omega)) (by simp)).trans (show _ = some (.cells #[.int .i64 X, .int .i64 Y, .int .i64 L] 25 (0, 0)) by (repeat (first | rw [if_pos (by omega)] | rw [if_neg (by omega)] | rw [hp_drew] | rw [hp_drewN] | rw [hp_alloc_size] | rw [hp_setCell_size] | rw [hp_alloc] | rw [hp_setCell] | rw [Option.map_some] | rw [upd_cells] | rw [List.set_cons_zero] | rw [List.set_cons_succ] | rfl)))
  have x0 := heap_eq_cell hx_ 0
  have x1 := heap_eq_cell hx_ 1
  have x2 := heap_eq_cell hx_ 2
  have xl := lt_of_block hx_
  have Hx := Lib.hid hx_
  clear hx_
  have hb := h9.swap.blk
  have y0 := heap_eq_cell hb 0
  have y1 := heap_eq_cell hb 1
  have yl := lt_of_block hb
  have HYB := Lib.hid hb
  have H7 := Lib.hid h9
  clear h9 hf hb H6 H5 hx11'
  go_wp2_with fail
  refine (RFrom_z (x := (p.length : Nat)) (by omega) (by omega)).mono ?_
  rintro e w8 ⟨v8, rfl, hb8, hf8⟩
  obtain ⟨a8, c8, rfl, h9⟩ := has_big (H7.out.step (by (repeat (first | exact Fr.refl _ _ | assumption | apply Fr.drewN | apply Fr.drew | apply Fr.alloc | refine Fr.setCell ?_ (Or.inr (by simp; try omega)) _)))) hf8 hb8 (zok_int (by omega) (by omega))
  rw [show decide (((p.length : Nat) : Int) < 0) = false by simp] at h9 ⊢
  (try clear x0 x1 x2 xl Hx)
  have hx_ := (h9.fr.block (W.heap.size) (by first | (simp; done) | (simp; omega)) (by simp)).trans (show _ = some (.cells #[.int .i64 X, .int .i64 Y, .int .i64 L] 25 (0, 0)) by (repeat (first | rw [if_pos (by omega)] | rw [if_neg (by omega)] | rw [hp_drew] | rw [hp_drewN] | rw [hp_alloc_size] | rw [hp_setCell_size] | rw [hp_alloc] | rw [hp_setCell] | rw [Option.map_some] | rw [upd_cells] | rw [List.set_cons_zero] | rw [List.set_cons_succ] | rfl)))
  have x0 := heap_eq_cell hx_ 0
  have x1 := heap_eq_cell hx_ 1
  have x2 := heap_eq_cell hx_ 2
  have xl := lt_of_block hx_
  have Hx := Lib.hid hx_
  clear hx_
  have hb := (h9.ord 3 [2]).blk
  clear y0 y1 yl HYB
  have y0 := heap_eq_cell hb 0
  have y1 := heap_eq_cell hb 1
  have yl := lt_of_block hb
  have HYB := Lib.hid hb
  have H8 := Lib.hid h9
  clear h9 hf8 hb8 hb H7
  go_wp2
  refine Mid.intro ⟨⟨again_row (T := 38) (cs := [.bool false, .slice a5 (zd ((p.length : Nat) : Int)).length c5]) rfl rfl rfl Try.underlying38 rfl (by kernel_rfl) (fun j v hj => ?rng) rfl, trivial⟩, ?_⟩
  case rng =>
    rw [Nat.zero_add, heap_eq_cell HYB.out, ← hj]
    exact (Array.getElem?_toList (xs := #[Value.bool false, .slice a5 (zd ((p.length : Nat) : Int)).length c5])).symm
  have HEQ := Lib.hid (fun w1 (hf : Fr [] w8 w1) => equal_n (x := (p.length, a5, c5)) (y := (p.length, a8, c8)) (big_mem (H8.out.step hf) (by simp)) (big_mem (H8.out.step hf) (by simp)) (zok_int (by omega) (by omega)))
  simp only [bvV, decide_true] at HEQ
  go_wp2_with fail
  refine (HEQ.out _ (by (repeat (first | exact Fr.refl _ _ | assumption | apply Fr.drewN | apply Fr.drew | apply Fr.alloc | refine Fr.setCell ?_ (Or.inr (by simp; try omega)) _)))).mono ?_
  rintro e w9 ⟨rfl, hf9⟩
  have HF9 := Lib.hid (H8.out.fr.trans0 (Fr.trans0 (by (repeat (first | exact Fr.refl _ _ | assumption | apply Fr.drewN | apply Fr.drew | apply Fr.alloc | refine Fr.setCell ?_ (Or.inr (by simp; try omega)) _))) hf9))
  clear hf9 H8 HEQ HYB y0 y1 yl x0 x1 x2 xl Hx
  go_wp2_with fail
  refine (awake_q _).mono ?_
  rintro e w10 ⟨rfl, hf10⟩
  have HF10 := Lib.hid (Fr.trans0 (by (repeat (first | exact Fr.refl _ _ | assumption | apply Fr.drewN | apply Fr.drew | apply Fr.alloc | refine Fr.setCell ?_ (Or.inr (by simp; try omega)) _)) : Fr [] W _) (HF9.out.trans0 (Fr.trans0 (by (repeat (first | exact Fr.refl _ _ | assumption | apply Fr.drewN | apply Fr.drew | apply Fr.alloc | refine Fr.setCell ?_ (Or.inr (by simp; try omega)) _))) hf10)))
  clear hf10 HF9
  go_wp2
  refine Mid.intro ⟨trivial, Strict.intro rfl ?_⟩
  go_wp2
  go_ret
  exact ⟨rfl, HF10.out⟩
end Go.Proofs.Ytdanghnadbkhfaa
end

section
/- The frame of a law that answers true and leaves old memory as it was; slices opened into their cells. No condition on a program. -/
namespace Go.Proofs.Lw
open Go Go.ChangeShapes Go.WideShapes Go.ChangeAt Go.RowKit Go.Proofs.Hp
set_option linter.unusedVariables false
set_option linter.unusedSimpArgs false
/-- behind a call that left old memory as it was, each argument reads as it did -/
theorem args_stay {H : Type} {enc : TypeId × Value → H} {P : Program} (hl : laidOutB P = true) {W W' : World} (hb : Below W.heap.size W W') :
    ∀ {ts : List TypeId} {vs : List Value} {ds : List (DataW H)} {ps : List MemPlace}, ts.all (fun t => P.readableRec t && decide (t < P.types.size)) = true → DataW.TrodAll enc P W 0 (fun _ => true) true ts vs ds ps →
      (∀ x ∈ ps, x.block < W.heap.size) → DataW.TrodAll enc P W' 0 (fun b => decide (b < W.heap.size)) true ts vs ds ps := by
  intro ts
  induction ts with
  | nil => intro vs ds ps _ h _; obtain ⟨rfl, rfl, rfl⟩ := trodAll_nil h; exact trodAll_mk0
  | cons t ts ih =>
    intro vs ds ps hok h hlt
    obtain ⟨v, vs1, d, ds1, p, q, rfl, rfl, rfl, h1, h2⟩ := trodAll_cons h
    simp only [List.all_cons, Bool.and_eq_true, decide_eq_true_eq] at hok
    exact trodAll_cons_mk (Below.trod hl hok.1.1 hok.1.2 h1 hb fun x hx => hlt x (List.mem_append_left _ hx)) (ih (by simpa only [List.all_eq_true, Bool.and_eq_true, decide_eq_true_eq] using hok.2) h2 fun x hx => hlt x (List.mem_append_right _ hx))
/-- the answer of such a law -/
theorem law_post {H : Type} {enc : TypeId × Value → H} {P : Program} (hl : laidOutB P = true) {f : Func} {s : ChangeSpec} {ts : List TypeId} {tb : TypeId} (hf : f.params.toList = ts) (hr : f.resultTypes = #[tb])
    (hb : P.underlying tb = some .bool) (hv : s.vars = []) (hok : ts.all (fun t => P.readableRec t && decide (t < P.types.size)) = true)
    (hfn : ∀ ds : List (DataW H), ds.length = ts.length → s.fn H ds = { results := [.lit (.bool true)], args := ds }) {W W' : World} {args : Array Value} {ds gs : List (DataW H)} {before : List MemPlace}
    (hW : DataW.Whole enc P f.params.toList s.vars false W args.toList ds gs before) (hB : Fr [] W W') : s.post enc P f false true false false W args (.bool true) W' := by
  have hW' := hW
  obtain ⟨p, q, hA, hV, rfl, hfz, hnd⟩ := hW
  rw [hf] at hA
  rw [hv] at hV
  obtain ⟨rfl, rfl⟩ := trodVars_none hV
  have hlen : ∀ {ts : List TypeId} {vs : List Value} {ds : List (DataW H)} {ps : List MemPlace}, DataW.TrodAll enc P W 0 (fun _ => true) true ts vs ds ps → ds.length = ts.length := by
    intro ts
    induction ts with
    | nil => intro vs ds ps h; obtain ⟨rfl, rfl, rfl⟩ := trodAll_nil h; rfl
    | cons t ts ih => intro vs ds ps h; obtain ⟨v, vs1, d, ds1, p, q, rfl, rfl, rfl, h1, h2⟩ := trodAll_cons h; simp [ih h2]
  have e := hfn (ds ++ []) (by simpa using hlen hA)
  refine ⟨ds, [], p ++ [], [], p, [], hW', ?_, ?_, ?_, hB.below.frame _ |> World.keptBut_mono (w := W) (w' := W') (fun x hx => hx), fun h => by cases h⟩
  · rw [e, hr]
    exact trodAll_mk1 (shut_bool hb true)
  · rw [e, hf, List.append_nil]
    exact args_stay hl hB.below hok hA fun x hx => by simpa using hW'.lt x (by simpa using hx)
  · rw [e, hv]
    exact rfl
/-- a slice whose elements are some cells each, read whole: its elements' cells -/
theorem open_rows {H : Type} {enc : TypeId × Value → H} {P : Program} {W : World} {t e : TypeId} {sz fuel n c : Nat} {a : Option Addr} {x : DataW H × List MemPlace} (ht : P.underlying t = some (.slice e)) (hsz : P.cellsOf e = sz) (hpos : 0 < sz)
    (h : DataW.trod enc P W 0 (fun _ => true) true fuel t [.slice a n c] = some x) :
    n ≤ c ∧ c ≤ maxLen ∧ ∃ xs : List (List Value), xs.length = n ∧ (∀ cs' ∈ xs, cs'.length = sz ∧ ∃ fuel y, DataW.trod enc P W 0 (fun _ => true) true fuel e cs' = some y) ∧
      (a = none → n = 0 ∧ c = 0) ∧ (0 < n → ∃ g off, a = some ⟨g, off, none⟩ ∧ g < W.heap.size ∧ ∀ j u, xs.flatten[j]? = some u → W.cell? ⟨g, off + j, none⟩ = some u) := by
  rcases Go.Deep.open_slice ht h with ⟨h0, _⟩ | ⟨ad, len, cap, m, k, D, Pl, hcs, _, hlc, hcm, hm, _, hx⟩
  · simp only [List.cons.injEq, Value.slice.injEq, and_true] at h0
    obtain ⟨rfl, rfl, rfl⟩ := h0
    exact ⟨Nat.le_refl _, Nat.zero_le _, [], rfl, by simp, by simp, by omega⟩
  · simp only [List.cons.injEq, Value.slice.injEq, and_true] at hcs
    obtain ⟨rfl, rfl, rfl⟩ := hcs
    simp only [if_true] at hm
    subst hm
    rw [hsz] at hx
    obtain ⟨C, hC⟩ := Go.Deep.choose_lt (α := List Value) (n := m) (p := fun i cs' => W.cells? 0 (ad.add (i * sz)) sz = some cs' ∧ DataW.trod enc P W 0 (fun _ => true) true k e cs' = some (D i, Pl i)) hx
    have hlen : ∀ i, i < n → (C i).length = sz := fun i hi => (World.cells?_some (hC i (by omega)).1).2.1
    refine ⟨hlc, hcm, (List.range n).map C, by simp, ?_, by simp, ?_⟩
    · intro cs' hm'
      obtain ⟨i, hi, rfl⟩ := List.mem_map.1 hm'
      have hi' := List.mem_range.1 hi
      exact ⟨hlen i hi', k, _, (hC i (by omega)).2⟩
    · intro hn
      have h0 := (hC 0 (by omega)).1
      have hblock := World.cells?_block h0 hpos
      obtain ⟨g, off, spot⟩ := ad
      have hsp : spot = none := by
        have hl0 := (World.cells?_some h0).2.1
        have hc0 := (World.cells?_some h0).2.2 0 (by omega)
        rw [List.getElem?_eq_getElem (by omega)] at hc0
        simpa [Addr.add] using World.cell?_spot hc0
      subst hsp
      refine ⟨g, off, rfl, by simpa [Addr.add] using hblock, ?_⟩
      have key : ∀ k, k ≤ n → ∀ j u, ((List.range k).map C).flatten[j]? = some u → W.cell? ⟨g, off + j, none⟩ = some u := by
        intro k
        induction k with
        | zero => intro _ j u hj; simp at hj
        | succ k ih =>
          intro hk j u hj
          have hfl : ∀ q, q ≤ n → ((List.range q).map C).flatten.length = q * sz := by
            intro q
            induction q with
            | zero => intro _; simp
            | succ q iq => intro hq; rw [List.range_succ, List.map_append, List.flatten_append, List.length_append, iq (by omega)]; simp [hlen q (by omega), Nat.succ_mul]
          rw [List.range_succ, List.map_append, List.flatten_append] at hj
          rcases Nat.lt_or_ge j (k * sz) with h1 | h1
          · rw [List.getElem?_append_left (by rw [hfl k (by omega)]; exact h1)] at hj
            exact ih (by omega) j u hj
          · rw [List.getElem?_append_right (by rw [hfl k (by omega)]; exact h1), hfl k (by omega)] at hj
            simp only [List.map_cons, List.map_nil, List.flatten_cons, List.flatten_nil, List.append_nil] at hj
            have hjl := (List.getElem?_eq_some_iff.1 hj).1
            rw [hlen k (by omega)] at hjl
            have := (World.cells?_some (hC k (by omega)).1).2.2 (j - k * sz) (by omega)
            rw [hj, add_plain, add_plain] at this
            rw [show off + j = off + k * sz + (j - k * sz) by omega]
            exact this
      exact key n (Nat.le_refl _)
/-- one witness for each member -/
theorem map_of_all {α β : Type} {f : β → α} : ∀ {xs : List α}, (∀ x ∈ xs, ∃ k, x = f k) → ∃ ks : List β, xs = ks.map f
  | [], _ => ⟨[], rfl⟩
  | x :: xs, h => by
    obtain ⟨k, rfl⟩ := h x (by simp)
    obtain ⟨ks, rfl⟩ := map_of_all (xs := xs) fun y hy => h y (by simp [hy])
    exact ⟨k :: ks, rfl⟩
end Go.Proofs.Lw
end
