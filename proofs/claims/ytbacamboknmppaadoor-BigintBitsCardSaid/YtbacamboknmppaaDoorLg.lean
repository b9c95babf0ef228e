/- BigintBits: the walk. -/
import Derived.Test.YtbacamboknmppaaDoorLb
import Derived.Test.YtbacamboknmppaaDoorLe
namespace Go.Proofs.YtbacamboknmppaaDoor
open Go Go.RowKit Go.Proofs.Rg Go.Proofs.Hp Go.Proofs.Bn
set_option linter.unusedVariables false
set_option linter.unusedSimpArgs false
theorem bitS_zero {na : Bool} {da : List Nat} {k : Int} (h : k < 0 ∨ RightB na da = false) : bitS na da k = 0 := by
  unfold bitS
  rw [if_pos (by rcases h with h | h <;> simp [h])]
set_option maxHeartbeats 8000000 in
set_option maxRecDepth 100000 in
theorem Bits_calls {w : World} {na : Bool} {da : List Nat} {a : Option Addr} {ac : Nat} {k : Int} (ha : Reads w (.slice a da.length ac) da.length 1 (u32s da)) (hDa : Dig 4294967296 da) (hc : da.length ≤ ac) (hk1 : -9223372036854775808 ≤ k) (hk2 : k < 9223372036854775808) :
    Calls Tryd.prog 7 #[.agg #[.bool na, .slice a da.length ac], .int .i64 k] w fun e w' => e = .returned (.bool true) ∧ Fr [] w w' := by
  have HA := Lib.hid ha
  have HDa := Lib.hid hDa
  clear ha hDa
  by_cases hla : da.length ≤ 100
  · have hd1 : decide (da.length ≤ 100) = true := by simpa using hla
    have h0 := fun h => bitS_zero (na := na) (da := da) (k := k) h
    have hbs := fun h1 (h2 : 0 ≤ k) => bit_shift (neg := na) (k := k) HDa.out h1 h2
    have HB := Lib.hid (fun w1 (hf : Fr [] w w1) => Bit_calls (neg := na) (k := k) (HA.out.fr hf) HDa.out (by omega) hc hk1 hk2)
    have HR := Lib.hid (fun w1 (hf : Fr [] w w1) => RBit_calls (neg := na) (k := k) (HA.out.fr hf) HDa.out (by omega) hk2)
    have HRR := Lib.hid (fun w1 (hf : Fr [] w w1) => RRight_calls (neg := na) (HA.out.fr hf) (by omega))
    generalize bitS na da k = B at h0 hbs HB HR
    have H0 := Lib.hid h0
    have Hbs := Lib.hid hbs
    clear h0 hbs
    go_enter Tryd.func7, Tryd.ntmps7
    go_wp2_with fail
    refine short_calls.mono ?_
    rintro e w1 ⟨rfl, hf⟩
    have ha_ := (hf.block (w.heap.size) (by first | (simp; done) | (simp; omega)) (by simp)).trans (show _ = some (.cells #[.bool na, .slice a da.length ac] 24 (0, 0)) by (repeat (first | rw [if_pos (by omega)] | rw [if_neg (by omega)] | rw [hp_drew] | rw [hp_drewN] | rw [hp_alloc_size] | rw [hp_setCell_size] | rw [hp_alloc] | rw [hp_setCell] | rw [Option.map_some] | rw [upd_cells] | rw [List.set_cons_zero] | rw [List.set_cons_succ] | rfl)))
    have a0 := heap_eq_cell ha_ 0
    have a1 := heap_eq_cell ha_ 1
    have al := lt_of_block ha_
    have Ha := Lib.hid ha_
    clear ha_
    have hf01 : Fr [] w w1 := Fr.trans0 (by (repeat (first | exact Fr.refl _ _ | assumption | apply Fr.drewN | apply Fr.drew | apply Fr.alloc | refine Fr.setCell ?_ (Or.inr (by simp; try omega)) _))) hf
    have Hf := Lib.hid hf01
    have HA := Lib.hid (HA.out.fr hf01)
    clear hf hf01
    rw [hd1]
    clear hd1
    go_wp2_with fail
    refine (HB.out _ (by have := Hf.out; (repeat (first | exact Fr.refl _ _ | assumption | apply Fr.drewN | apply Fr.drew | apply Fr.alloc | refine Fr.setCell ?_ (Or.inr (by simp; try omega)) _)))).mono ?_
    rintro e w3 ⟨rfl, hf⟩
    have hfk : Fr [] w1 w3 := Fr.trans0 (by (repeat (first | exact Fr.refl _ _ | assumption | apply Fr.drewN | apply Fr.drew | apply Fr.alloc | refine Fr.setCell ?_ (Or.inr (by simp; try omega)) _))) hf
    (try clear a0)
    (try clear a1)
    (try clear al)
    have ha_ := (hfk.block _ (lt_of_block Ha.out) (by simp)).trans Ha.out
    clear Ha
    have a0 := heap_eq_cell ha_ 0
    have a1 := heap_eq_cell ha_ 1
    have al := lt_of_block ha_
    have Ha := Lib.hid ha_
    clear ha_
    have Hf := Lib.hid (Hf.out.trans0 hfk)
    have HA := Lib.hid (HA.out.fr hfk)
    clear hf hfk
    go_wp2_with fail
    refine (HR.out _ (by have := Hf.out; (repeat (first | exact Fr.refl _ _ | assumption | apply Fr.drewN | apply Fr.drew | apply Fr.alloc | refine Fr.setCell ?_ (Or.inr (by simp; try omega)) _)))).mono ?_
    rintro e w4 ⟨rfl, hf⟩
    have hfk : Fr [] w3 w4 := Fr.trans0 (by (repeat (first | exact Fr.refl _ _ | assumption | apply Fr.drewN | apply Fr.drew | apply Fr.alloc | refine Fr.setCell ?_ (Or.inr (by simp; try omega)) _))) hf
    (try clear a0)
    (try clear a1)
    (try clear al)
    have ha_ := (hfk.block _ (lt_of_block Ha.out) (by simp)).trans Ha.out
    clear Ha
    have a0 := heap_eq_cell ha_ 0
    have a1 := heap_eq_cell ha_ 1
    have al := lt_of_block ha_
    have Ha := Lib.hid ha_
    clear ha_
    have Hf := Lib.hid (Hf.out.trans0 hfk)
    have HA := Lib.hid (HA.out.fr hfk)
    clear hf hfk
    by_cases hk : k < 0
    · obtain rfl : B = 0 := H0.out (.inl hk)
      go_wp2_with fail
      refine (alive_calls _).mono ?_
      rintro e w9 ⟨rfl, hf⟩
      have Hf := Lib.hid (Hf.out.trans0 (Fr.trans0 (by (repeat (first | exact Fr.refl _ _ | assumption | apply Fr.drewN | apply Fr.drew | apply Fr.alloc | refine Fr.setCell ?_ (Or.inr (by simp; try omega)) _)) : Fr [] w4 _) hf))
      clear hf
      go_wp2
      go_ret
      exact ⟨rfl, Hf.out⟩
    · go_wp2_with fail
      refine (HRR.out _ (by have := Hf.out; (repeat (first | exact Fr.refl _ _ | assumption | apply Fr.drewN | apply Fr.drew | apply Fr.alloc | refine Fr.setCell ?_ (Or.inr (by simp; try omega)) _)))).mono ?_
      rintro e w5 ⟨rfl, hf⟩
      have hfk : Fr [] w4 w5 := Fr.trans0 (by (repeat (first | exact Fr.refl _ _ | assumption | apply Fr.drewN | apply Fr.drew | apply Fr.alloc | refine Fr.setCell ?_ (Or.inr (by simp; try omega)) _))) hf
      (try clear a0)
      (try clear a1)
      (try clear al)
      have ha_ := (hfk.block _ (lt_of_block Ha.out) (by simp)).trans Ha.out
      clear Ha
      have a0 := heap_eq_cell ha_ 0
      have a1 := heap_eq_cell ha_ 1
      have al := lt_of_block ha_
      have Ha := Lib.hid ha_
      clear ha_
      have Hf := Lib.hid (Hf.out.trans0 hfk)
      have HA := Lib.hid (HA.out.fr hfk)
      clear hf hfk
      cases hR : RightB na da with
      | false =>
        obtain rfl : B = 0 := H0.out (.inr hR)
        clear hR
        go_wp2_with fail
        refine (alive_calls _).mono ?_
        rintro e w9 ⟨rfl, hf⟩
        have Hf := Lib.hid (Hf.out.trans0 (Fr.trans0 (by (repeat (first | exact Fr.refl _ _ | assumption | apply Fr.drewN | apply Fr.drew | apply Fr.alloc | refine Fr.setCell ?_ (Or.inr (by simp; try omega)) _)) : Fr [] w5 _) hf))
        clear hf
        go_wp2
        go_ret
        exact ⟨rfl, Hf.out⟩
      | true =>
        obtain ⟨hb1, hb2, hb3⟩ := Hbs.out hR (by omega)
        obtain ⟨hrD, hrL⟩ := shiftS_dig (neg := na) (ds := da) (k := -k)
        obtain ⟨r, hS⟩ : ∃ r, shiftS na da (-k) = r := ⟨_, rfl⟩
        rw [hS] at hrD hrL hb1 hb2 hb3
        have HM := Lib.hid (fun w1 (hf : Fr [] w5 w1) => hS ▸ Shift_calls (neg := na) (k := -k) (HA.out.fr hf) HDa.out (by omega) hc (by omega) (by omega))
        clear hS hR
        obtain ⟨r1, r2, r3⟩ := r
        simp only at hrD hrL hb1 hb2 hb3
        subst hb1
        have HrL := Lib.hid hrL
        have HrD := Lib.hid hrD
        clear hrD hrL
        go_wp2_with fail
        refine (HM.out _ (by (repeat (first | exact Fr.refl _ _ | assumption | apply Fr.drewN | apply Fr.drew | apply Fr.alloc | refine Fr.setCell ?_ (Or.inr (by simp; try omega)) _)))).mono ?_
        rintro e w6 ⟨xa, xc, hlo, rfl, hr, hf⟩
        have hfk : Fr [] w5 w6 := Fr.trans0 (by (repeat (first | exact Fr.refl _ _ | assumption | apply Fr.drewN | apply Fr.drew | apply Fr.alloc | refine Fr.setCell ?_ (Or.inr (by simp; try omega)) _))) hf
        (try clear a0)
        (try clear a1)
        (try clear al)
        have ha_ := (hfk.block _ (lt_of_block Ha.out) (by simp)).trans Ha.out
        clear Ha
        have a0 := heap_eq_cell ha_ 0
        have a1 := heap_eq_cell ha_ 1
        have al := lt_of_block ha_
        have Ha := Lib.hid ha_
        clear ha_
        have Hf := Lib.hid (Hf.out.trans0 hfk)
        have HX := Lib.hid hr
        obtain ⟨q, hQ⟩ : ∃ q, divS r1 r2 2 = q := ⟨_, rfl⟩
        have HD := Lib.hid (fun w1 (hf : Fr [] w6 w1) => hQ ▸ Div_calls (neg := r1) (ds := r2) (n := 2) (HX.out.fr hf) HrD.out (by have := HrL.out; omega) (by omega) (by omega))
        rw [hQ] at hb2 hb3
        obtain ⟨⟨q1, q2, q3⟩, q4⟩ := q
        simp only at hb2 hb3
        subst hb2
        subst hb3
        clear hf hfk hr hlo hQ
        go_wp2_with fail
        refine (HD.out _ (by (repeat (first | exact Fr.refl _ _ | assumption | apply Fr.drewN | apply Fr.drew | apply Fr.alloc | refine Fr.setCell ?_ (Or.inr (by simp; try omega)) _)))).mono ?_
        rintro e w7 ⟨ya, yc, hlo, rfl, hr, hf⟩
        have hfk : Fr [] w6 w7 := Fr.trans0 (by (repeat (first | exact Fr.refl _ _ | assumption | apply Fr.drewN | apply Fr.drew | apply Fr.alloc | refine Fr.setCell ?_ (Or.inr (by simp; try omega)) _))) hf
        (try clear a0)
        (try clear a1)
        (try clear al)
        have ha_ := (hfk.block _ (lt_of_block Ha.out) (by simp)).trans Ha.out
        clear Ha
        have a0 := heap_eq_cell ha_ 0
        have a1 := heap_eq_cell ha_ 1
        have al := lt_of_block ha_
        have Ha := Lib.hid ha_
        clear ha_
        have Hf := Lib.hid (Hf.out.trans0 hfk)
        clear hf hfk hr hlo
        go_wp2_with fail
        refine (alive_calls _).mono ?_
        rintro e w9 ⟨rfl, hf⟩
        have Hf := Lib.hid (Hf.out.trans0 (Fr.trans0 (by (repeat (first | exact Fr.refl _ _ | assumption | apply Fr.drewN | apply Fr.drew | apply Fr.alloc | refine Fr.setCell ?_ (Or.inr (by simp; try omega)) _)) : Fr [] w7 _) hf))
        clear hf
        go_wp2
        go_ret
        exact ⟨rfl, Hf.out⟩
  · have hd1 : decide (da.length ≤ 100) = false := by simpa using hla
    go_enter Tryd.func7, Tryd.ntmps7
    go_wp2_with fail
    refine short_calls.mono ?_
    rintro e w1 ⟨rfl, hf⟩
    have ha_ := (hf.block (w.heap.size) (by first | (simp; done) | (simp; omega)) (by simp)).trans (show _ = some (.cells #[.bool na, .slice a da.length ac] 24 (0, 0)) by (repeat (first | rw [if_pos (by omega)] | rw [if_neg (by omega)] | rw [hp_drew] | rw [hp_drewN] | rw [hp_alloc_size] | rw [hp_setCell_size] | rw [hp_alloc] | rw [hp_setCell] | rw [Option.map_some] | rw [upd_cells] | rw [List.set_cons_zero] | rw [List.set_cons_succ] | rfl)))
    have a0 := heap_eq_cell ha_ 0
    have a1 := heap_eq_cell ha_ 1
    have al := lt_of_block ha_
    have Ha := Lib.hid ha_
    clear ha_
    have hf01 : Fr [] w w1 := Fr.trans0 (by (repeat (first | exact Fr.refl _ _ | assumption | apply Fr.drewN | apply Fr.drew | apply Fr.alloc | refine Fr.setCell ?_ (Or.inr (by simp; try omega)) _))) hf
    have Hf := Lib.hid hf01
    have HA := Lib.hid (HA.out.fr hf01)
    clear hf hf01
    rw [hd1]
    clear hd1
    go_wp2_with fail
    refine (alive_calls _).mono ?_
    rintro e w9 ⟨rfl, hf⟩
    have Hf := Lib.hid (Hf.out.trans0 (Fr.trans0 (by (repeat (first | exact Fr.refl _ _ | assumption | apply Fr.drewN | apply Fr.drew | apply Fr.alloc | refine Fr.setCell ?_ (Or.inr (by simp; try omega)) _)) : Fr [] w1 _) hf))
    clear hf
    go_wp2
    go_ret
    exact ⟨rfl, Hf.out⟩
end Go.Proofs.YtbacamboknmppaaDoor
