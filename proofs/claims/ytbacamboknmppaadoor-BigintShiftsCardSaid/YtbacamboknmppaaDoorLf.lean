/- BigintShifts: the walk. -/
import Derived.Test.YtbacamboknmppaaDoorLb
import Derived.Test.YtbacamboknmppaaDoorLd
import Derived.Test.YtbacamboknmppaaDoorKo
namespace Go.Proofs.YtbacamboknmppaaDoor
open Go Go.RowKit Go.Proofs.Rg Go.Proofs.Hp Go.Proofs.Bn
set_option linter.unusedVariables false
set_option linter.unusedSimpArgs false
theorem same_self (b : Bool) (l : List Nat) : ((b == b) && decide (l = l)) = true := by simp
set_option maxHeartbeats 8000000 in
set_option maxRecDepth 100000 in
theorem Shifts_calls {w : World} {na : Bool} {da : List Nat} {a : Option Addr} {ac : Nat} {k : Int} (ha : Reads w (.slice a da.length ac) da.length 1 (u32s da)) (hDa : Dig 4294967296 da) (hc : da.length ≤ ac) (hk1 : -9223372036854775808 ≤ k) (hk2 : k < 9223372036854775808) :
    Calls Tryd.prog 5 #[.agg #[.bool na, .slice a da.length ac], .int .i64 k] w fun e w' => e = .returned (.bool true) ∧ Fr [] w w' := by
  have HA := Lib.hid ha
  have HDa := Lib.hid hDa
  clear ha hDa
  by_cases hla : da.length ≤ 100
  · have hd1 : decide (da.length ≤ 100) = true := by simpa using hla
    obtain ⟨hrD, hrL⟩ := shiftS_dig (neg := na) (ds := da) (k := k)
    obtain ⟨r, hS⟩ : ∃ r, shiftS na da k = r := ⟨_, rfl⟩
    rw [hS] at hrD hrL
    have HM := Lib.hid (fun w1 (hf : Fr [] w w1) => hS ▸ Shift_calls (neg := na) (k := k) (HA.out.fr hf) HDa.out (by omega) hc hk1 hk2)
    have HR := Lib.hid (fun w1 (hf : Fr [] w w1) => hS ▸ RShift_calls (neg := na) (k := k) (HA.out.fr hf) HDa.out (by omega) hk1 hk2)
    have HS := Lib.hid hS
    clear hS
    obtain ⟨r1, r2, r3⟩ := r
    simp only at hrD hrL
    have HrL := Lib.hid hrL
    have HrD := Lib.hid hrD
    clear hrD hrL
    go_enter Tryd.func5, Tryd.ntmps5
    go_wp2_with fail
    refine short_calls.mono ?_
    rintro e w1 ⟨rfl, hf⟩
    have ha_ := (hf.block (w.heap.size) (by first | (simp; done) | (simp; omega)) (by simp)).trans (show _ = some (.cells #[.bool na, .slice a da.length ac] 24 (0, 0)) by (repeat (first | rw [if_pos (by omega)] | rw [if_neg (by omega)] | rw [hp_drew] | rw [hp_drewN] | rw [hp_alloc_size] | rw [hp_setCell_size] | rw [hp_alloc] | rw [hp_setCell] | rw [Option.map_some] | rw [upd_cells] | rw [List.set_cons_zero] | rw [List.set_cons_succ] | rfl)))
    have a0 := heap_eq_cell ha_ 0
    have a1 := heap_eq_cell ha_ 1
    have al := lt_of_block ha_
    have Ha := Lib.hid ha_
    clear ha_
    have hf01 : Fr [] w w1 := Fr.trans0 (by (repeat (first | exact Fr.refl _ _ | assumption | apply Fr.drewN | apply Fr.drew | apply Fr.alloc | refine Fr.setCell ?_ (Or.inr (by simp; try omega)) _))) hf
    have Hf := Lib.hid hf01
    have HA := Lib.hid (HA.out.fr hf01)
    clear hf hf01
    rw [hd1]
    clear hd1
    go_wp2_with fail
    refine (HM.out _ (by have := Hf.out; (repeat (first | exact Fr.refl _ _ | assumption | apply Fr.drewN | apply Fr.drew | apply Fr.alloc | refine Fr.setCell ?_ (Or.inr (by simp; try omega)) _)))).mono ?_
    rintro e w3 ⟨xa, xc, hlo, rfl, hr, hf⟩
    have hfk : Fr [] w1 w3 := Fr.trans0 (by (repeat (first | exact Fr.refl _ _ | assumption | apply Fr.drewN | apply Fr.drew | apply Fr.alloc | refine Fr.setCell ?_ (Or.inr (by simp; try omega)) _))) hf
    (try clear a0)
    (try clear a1)
    (try clear al)
    have ha_ := (hfk.block _ (lt_of_block Ha.out) (by simp)).trans Ha.out
    clear Ha
    have a0 := heap_eq_cell ha_ 0
    have a1 := heap_eq_cell ha_ 1
    have al := lt_of_block ha_
    have Ha := Lib.hid ha_
    clear ha_
    have Hf := Lib.hid (Hf.out.trans0 hfk)
    have HA := Lib.hid (HA.out.fr hfk)
    have HX := Lib.hid hr
    have Hxc := Lib.hid hlo.1
    clear hf hfk hr hlo
    go_wp2_with fail
    refine (HR.out _ (by have := Hf.out; (repeat (first | exact Fr.refl _ _ | assumption | apply Fr.drewN | apply Fr.drew | apply Fr.alloc | refine Fr.setCell ?_ (Or.inr (by simp; try omega)) _)))).mono ?_
    rintro e w4 ⟨ya, yc, hlo, rfl, hr, hf⟩
    have hx_ := (hf.block (w3.heap.size) (by first | (simp; done) | (simp; omega)) (by simp)).trans (show _ = some (.cells #[.bool r1, .slice xa r2.length xc] 24 (0, 0)) by (repeat (first | rw [if_pos (by omega)] | rw [if_neg (by omega)] | rw [hp_drew] | rw [hp_drewN] | rw [hp_alloc_size] | rw [hp_setCell_size] | rw [hp_alloc] | rw [hp_setCell] | rw [Option.map_some] | rw [upd_cells] | rw [List.set_cons_zero] | rw [List.set_cons_succ] | rfl)))
    have x0 := heap_eq_cell hx_ 0
    have x1 := heap_eq_cell hx_ 1
    have xl := lt_of_block hx_
    have Hx := Lib.hid hx_
    clear hx_
    have hfk : Fr [] w3 w4 := Fr.trans0 (by (repeat (first | exact Fr.refl _ _ | assumption | apply Fr.drewN | apply Fr.drew | apply Fr.alloc | refine Fr.setCell ?_ (Or.inr (by simp; try omega)) _))) hf
    (try clear a0)
    (try clear a1)
    (try clear al)
    have ha_ := (hfk.block _ (lt_of_block Ha.out) (by simp)).trans Ha.out
    clear Ha
    have a0 := heap_eq_cell ha_ 0
    have a1 := heap_eq_cell ha_ 1
    have al := lt_of_block ha_
    have Ha := Lib.hid ha_
    clear ha_
    have Hf := Lib.hid (Hf.out.trans0 hfk)
    have HX := Lib.hid (HX.out.fr hfk)
    have HA := Lib.hid (HA.out.fr hfk)
    have HY := Lib.hid hr
    clear hf hfk hr hlo
    go_wp2_with fail
    refine (Same_calls (HX.out.fr (by (repeat (first | exact Fr.refl _ _ | assumption | apply Fr.drewN | apply Fr.drew | apply Fr.alloc | refine Fr.setCell ?_ (Or.inr (by simp; try omega)) _)))) (HY.out.fr (by (repeat (first | exact Fr.refl _ _ | assumption | apply Fr.drewN | apply Fr.drew | apply Fr.alloc | refine Fr.setCell ?_ (Or.inr (by simp; try omega)) _)))) (by have := HrL.out; omega) (by have := HrL.out; omega)).mono ?_
    rintro e w5 ⟨rfl, hf⟩
    rw [same_self]
    have hfk : Fr [] w4 w5 := Fr.trans0 (by (repeat (first | exact Fr.refl _ _ | assumption | apply Fr.drewN | apply Fr.drew | apply Fr.alloc | refine Fr.setCell ?_ (Or.inr (by simp; try omega)) _))) hf
    (try clear a0)
    (try clear a1)
    (try clear al)
    have ha_ := (hfk.block _ (lt_of_block Ha.out) (by simp)).trans Ha.out
    clear Ha
    have a0 := heap_eq_cell ha_ 0
    have a1 := heap_eq_cell ha_ 1
    have al := lt_of_block ha_
    have Ha := Lib.hid ha_
    clear ha_
    (try clear x0)
    (try clear x1)
    (try clear xl)
    have hx_ := (hfk.block _ (lt_of_block Hx.out) (by simp)).trans Hx.out
    clear Hx
    have x0 := heap_eq_cell hx_ 0
    have x1 := heap_eq_cell hx_ 1
    have xl := lt_of_block hx_
    have Hx := Lib.hid hx_
    clear hx_
    have Hf := Lib.hid (Hf.out.trans0 hfk)
    have HX := Lib.hid (HX.out.fr hfk)
    have HA := Lib.hid (HA.out.fr hfk)
    clear hf hfk
    by_cases hr3 : r3 = 0
    · subst hr3
      by_cases hk : k < 0
      ·
        go_wp2_with fail
        refine (alive_calls _).mono ?_
        rintro e w9 ⟨rfl, hf⟩
        have Hf := Lib.hid (Hf.out.trans0 (Fr.trans0 (by (repeat (first | exact Fr.refl _ _ | assumption | apply Fr.drewN | apply Fr.drew | apply Fr.alloc | refine Fr.setCell ?_ (Or.inr (by simp; try omega)) _)) : Fr [] w5 _) hf))
        clear hf
        go_wp2
        go_ret
        exact ⟨rfl, Hf.out⟩
      · have hback := shift_back HDa.out (by omega) HS.out
        have HB := Lib.hid (fun w1 (hf : Fr [] w5 w1) => hback ▸ Shift_calls (neg := r1) (k := -k) (HX.out.fr hf) HrD.out (by have := HrL.out; omega) Hxc.out (by omega) (by omega))
        clear hback
        go_wp2_with fail
        refine (HB.out _ (by (repeat (first | exact Fr.refl _ _ | assumption | apply Fr.drewN | apply Fr.drew | apply Fr.alloc | refine Fr.setCell ?_ (Or.inr (by simp; try omega)) _)))).mono ?_
        rintro e w6 ⟨za, zc, hlo, rfl, hr, hf⟩
        have hfk : Fr [] w5 w6 := Fr.trans0 (by (repeat (first | exact Fr.refl _ _ | assumption | apply Fr.drewN | apply Fr.drew | apply Fr.alloc | refine Fr.setCell ?_ (Or.inr (by simp; try omega)) _))) hf
        (try clear a0)
        (try clear a1)
        (try clear al)
        have ha_ := (hfk.block _ (lt_of_block Ha.out) (by simp)).trans Ha.out
        clear Ha
        have a0 := heap_eq_cell ha_ 0
        have a1 := heap_eq_cell ha_ 1
        have al := lt_of_block ha_
        have Ha := Lib.hid ha_
        clear ha_
        have Hf := Lib.hid (Hf.out.trans0 hfk)
        have HA := Lib.hid (HA.out.fr hfk)
        have HZ := Lib.hid hr
        clear hf hfk hr hlo
        go_wp2_with fail
        refine (Same_calls (HZ.out.fr (by (repeat (first | exact Fr.refl _ _ | assumption | apply Fr.drewN | apply Fr.drew | apply Fr.alloc | refine Fr.setCell ?_ (Or.inr (by simp; try omega)) _)))) (HA.out.fr (by (repeat (first | exact Fr.refl _ _ | assumption | apply Fr.drewN | apply Fr.drew | apply Fr.alloc | refine Fr.setCell ?_ (Or.inr (by simp; try omega)) _)))) (by omega) (by omega)).mono ?_
        rintro e w7 ⟨rfl, hf⟩
        rw [same_self]
        have hfk : Fr [] w6 w7 := Fr.trans0 (by (repeat (first | exact Fr.refl _ _ | assumption | apply Fr.drewN | apply Fr.drew | apply Fr.alloc | refine Fr.setCell ?_ (Or.inr (by simp; try omega)) _))) hf
        (try clear a0)
        (try clear a1)
        (try clear al)
        have ha_ := (hfk.block _ (lt_of_block Ha.out) (by simp)).trans Ha.out
        clear Ha
        have a0 := heap_eq_cell ha_ 0
        have a1 := heap_eq_cell ha_ 1
        have al := lt_of_block ha_
        have Ha := Lib.hid ha_
        clear ha_
        have Hf := Lib.hid (Hf.out.trans0 hfk)
        clear hf hfk
        go_wp2_with fail
        refine (alive_calls _).mono ?_
        rintro e w9 ⟨rfl, hf⟩
        have Hf := Lib.hid (Hf.out.trans0 (Fr.trans0 (by (repeat (first | exact Fr.refl _ _ | assumption | apply Fr.drewN | apply Fr.drew | apply Fr.alloc | refine Fr.setCell ?_ (Or.inr (by simp; try omega)) _)) : Fr [] w7 _) hf))
        clear hf
        go_wp2
        go_ret
        exact ⟨rfl, Hf.out⟩
    ·
      go_wp2_with fail
      refine (alive_calls _).mono ?_
      rintro e w9 ⟨rfl, hf⟩
      have Hf := Lib.hid (Hf.out.trans0 (Fr.trans0 (by (repeat (first | exact Fr.refl _ _ | assumption | apply Fr.drewN | apply Fr.drew | apply Fr.alloc | refine Fr.setCell ?_ (Or.inr (by simp; try omega)) _)) : Fr [] w5 _) hf))
      clear hf
      go_wp2
      go_ret
      exact ⟨rfl, Hf.out⟩
  · have hd1 : decide (da.length ≤ 100) = false := by simpa using hla
    go_enter Tryd.func5, Tryd.ntmps5
    go_wp2_with fail
    refine short_calls.mono ?_
    rintro e w1 ⟨rfl, hf⟩
    have ha_ := (hf.block (w.heap.size) (by first | (simp; done) | (simp; omega)) (by simp)).trans (show _ = some (.cells #[.bool na, .slice a da.length ac] 24 (0, 0)) by (repeat (first | rw [if_pos (by omega)] | rw [if_neg (by omega)] | rw [hp_drew] | rw [hp_drewN] | rw [hp_alloc_size] | rw [hp_setCell_size] | rw [hp_alloc] | rw [hp_setCell] | rw [Option.map_some] | rw [upd_cells] | rw [List.set_cons_zero] | rw [List.set_cons_succ] | rfl)))
    have a0 := heap_eq_cell ha_ 0
    have a1 := heap_eq_cell ha_ 1
    have al := lt_of_block ha_
    have Ha := Lib.hid ha_
    clear ha_
    have hf01 : Fr [] w w1 := Fr.trans0 (by (repeat (first | exact Fr.refl _ _ | assumption | apply Fr.drewN | apply Fr.drew | apply Fr.alloc | refine Fr.setCell ?_ (Or.inr (by simp; try omega)) _))) hf
    have Hf := Lib.hid hf01
    have HA := Lib.hid (HA.out.fr hf01)
    clear hf hf01
    rw [hd1]
    clear hd1
    go_wp2_with fail
    refine (alive_calls _).mono ?_
    rintro e w9 ⟨rfl, hf⟩
    have Hf := Lib.hid (Hf.out.trans0 (Fr.trans0 (by (repeat (first | exact Fr.refl _ _ | assumption | apply Fr.drewN | apply Fr.drew | apply Fr.alloc | refine Fr.setCell ?_ (Or.inr (by simp; try omega)) _)) : Fr [] w1 _) hf))
    clear hf
    go_wp2
    go_ret
    exact ⟨rfl, Hf.out⟩
end Go.Proofs.YtbacamboknmppaaDoor
