/- BigintMultiplies: the walk. -/
import Derived.Test.YtbacamboknmppaaDoorLb
import Derived.Test.YtbacamboknmppaaDoorKm
import Derived.Test.YtbacamboknmppaaDoorJg
namespace Go.Proofs.YtbacamboknmppaaDoor
open Go Go.RowKit Go.Proofs.Rg Go.Proofs.Hp Go.Proofs.Bn
set_option linter.unusedVariables false
set_option linter.unusedSimpArgs false
theorem mulS_comm (na nb : Bool) (da db : List Nat) : mulS nb db na da = mulS na da nb db := by
  unfold mulS
  rw [Bool.and_comm, Nat.mul_comm, show (nb != na) = (na != nb) by cases na <;> cases nb <;> rfl]
theorem mulS_dig (na nb : Bool) (da db : List Nat) : Dig 4294967296 (mulS na da nb db).2.1 ∧ (mulS na da nb db).2.1.length ≤ 64 := by
  unfold mulS
  split
  · exact ⟨Dig.nil, by simp⟩
  · exact ⟨mkN_dig, mkN_len⟩
theorem same_self (b : Bool) (l : List Nat) : ((b == b) && decide (l = l)) = true := by simp
set_option maxHeartbeats 8000000 in
set_option maxRecDepth 100000 in
theorem Multiplies_calls {w : World} {na nb : Bool} {da db : List Nat} {va vb : Value} (ha : Reads w va da.length 1 (u32s da)) (hb : Reads w vb db.length 1 (u32s db)) (hDa : Dig 4294967296 da) (hDb : Dig 4294967296 db) :
    Calls Tryd.prog 4 #[.agg #[.bool na, va], .agg #[.bool nb, vb]] w fun e w' => e = .returned (.bool true) ∧ Fr [] w w' := by
  have HA := Lib.hid ha
  have HB := Lib.hid hb
  obtain ⟨_, a, ac, rfl, _⟩ := ha
  obtain ⟨_, b, bc, rfl, _⟩ := hb
  have HDa := Lib.hid hDa
  have HDb := Lib.hid hDb
  clear hDa hDb
  by_cases hla : da.length ≤ 100
  · have hd1 : decide (da.length ≤ 100) = true := by simpa using hla
    by_cases hlb : db.length ≤ 100
    · have hd2 : decide (db.length ≤ 100) = true := by simpa using hlb
      go_enter Tryd.func4, Tryd.ntmps4
      go_wp2_with fail
      refine short_calls.mono ?_
      rintro e w1 ⟨rfl, hf⟩
      have ha_ := (hf.block (w.heap.size) (by first | (simp; done) | (simp; omega)) (by simp)).trans (show _ = some (.cells #[.bool na, .slice a da.length ac] 24 (0, 0)) by (repeat (first | rw [if_pos (by omega)] | rw [if_neg (by omega)] | rw [hp_drew] | rw [hp_drewN] | rw [hp_alloc_size] | rw [hp_setCell_size] | rw [hp_alloc] | rw [hp_setCell] | rw [Option.map_some] | rw [upd_cells] | rw [List.set_cons_zero] | rw [List.set_cons_succ] | rfl)))
      have a0 := heap_eq_cell ha_ 0
      have a1 := heap_eq_cell ha_ 1
      have al := lt_of_block ha_
      have Ha := Lib.hid ha_
      clear ha_
      have hb_ := (hf.block (w.heap.size + 1) (by first | (simp; done) | (simp; omega)) (by simp)).trans (show _ = some (.cells #[.bool nb, .slice b db.length bc] 24 (0, 0)) by (repeat (first | rw [if_pos (by omega)] | rw [if_neg (by omega)] | rw [hp_drew] | rw [hp_drewN] | rw [hp_alloc_size] | rw [hp_setCell_size] | rw [hp_alloc] | rw [hp_setCell] | rw [Option.map_some] | rw [upd_cells] | rw [List.set_cons_zero] | rw [List.set_cons_succ] | rfl)))
      have b0 := heap_eq_cell hb_ 0
      have b1 := heap_eq_cell hb_ 1
      have bl := lt_of_block hb_
      have Hb := Lib.hid hb_
      clear hb_
      have hf01 : Fr [] w w1 := Fr.trans0 (by (repeat (first | exact Fr.refl _ _ | assumption | apply Fr.drewN | apply Fr.drew | apply Fr.alloc | refine Fr.setCell ?_ (Or.inr (by simp; try omega)) _))) hf
      have Hf := Lib.hid hf01
      have HA := Lib.hid (HA.out.fr hf01)
      have HB := Lib.hid (HB.out.fr hf01)
      clear hf hf01
      rw [hd1]
      go_wp2_with fail
      refine short_calls.mono ?_
      rintro e w2 ⟨rfl, hf⟩
      rw [hd2]
      have hfk : Fr [] w1 w2 := Fr.trans0 (by (repeat (first | exact Fr.refl _ _ | assumption | apply Fr.drewN | apply Fr.drew | apply Fr.alloc | refine Fr.setCell ?_ (Or.inr (by simp; try omega)) _))) hf
      (try clear a0)
      (try clear a1)
      (try clear al)
      have ha_ := (hfk.block _ (lt_of_block Ha.out) (by simp)).trans Ha.out
      clear Ha
      have a0 := heap_eq_cell ha_ 0
      have a1 := heap_eq_cell ha_ 1
      have al := lt_of_block ha_
      have Ha := Lib.hid ha_
      clear ha_
      (try clear b0)
      (try clear b1)
      (try clear bl)
      have hb_ := (hfk.block _ (lt_of_block Hb.out) (by simp)).trans Hb.out
      clear Hb
      have b0 := heap_eq_cell hb_ 0
      have b1 := heap_eq_cell hb_ 1
      have bl := lt_of_block hb_
      have Hb := Lib.hid hb_
      clear hb_
      have Hf := Lib.hid (Hf.out.trans0 hfk)
      have HA := Lib.hid (HA.out.fr hfk)
      have HB := Lib.hid (HB.out.fr hfk)
      clear hf hfk hd1 hd2
      obtain ⟨hrD, hrL⟩ := mulS_dig na nb da db
      obtain ⟨r, hS⟩ : ∃ r, mulS na da nb db = r := ⟨_, rfl⟩
      have hS2 : mulS nb db na da = r := by rw [mulS_comm]; exact hS
      rw [hS] at hrD hrL
      have HM := Lib.hid (fun w1 (hf : Fr [] w2 w1) => hS ▸ Mul_calls (na := na) (nb := nb) (HA.out.fr hf) (HB.out.fr hf) HDa.out HDb.out (by omega) (by omega))
      have HM2 := Lib.hid (fun w1 (hf : Fr [] w2 w1) => hS2 ▸ Mul_calls (na := nb) (nb := na) (HB.out.fr hf) (HA.out.fr hf) HDb.out HDa.out (by omega) (by omega))
      have HR := Lib.hid (fun w1 (hf : Fr [] w2 w1) => hS ▸ RMul_calls (na := na) (nb := nb) (HA.out.fr hf) (HB.out.fr hf) HDa.out HDb.out (by omega) (by omega))
      clear hS hS2
      obtain ⟨r1, r2, r3⟩ := r
      simp only at hrD hrL
      have HrL := Lib.hid hrL
      clear hrD hrL
      go_wp2_with fail
      refine (HM.out _ (by (repeat (first | exact Fr.refl _ _ | assumption | apply Fr.drewN | apply Fr.drew | apply Fr.alloc | refine Fr.setCell ?_ (Or.inr (by simp; try omega)) _)))).mono ?_
      rintro e w3 ⟨xa, xc, hlo, rfl, hr, hf⟩
      have H2 := Lib.hid (show Fr [] w2 w3 from Fr.trans0 (by (repeat (first | exact Fr.refl _ _ | assumption | apply Fr.drewN | apply Fr.drew | apply Fr.alloc | refine Fr.setCell ?_ (Or.inr (by simp; try omega)) _))) hf)
      have hfk : Fr [] w2 w3 := Fr.trans0 (by (repeat (first | exact Fr.refl _ _ | assumption | apply Fr.drewN | apply Fr.drew | apply Fr.alloc | refine Fr.setCell ?_ (Or.inr (by simp; try omega)) _))) hf
      (try clear a0)
      (try clear a1)
      (try clear al)
      have ha_ := (hfk.block _ (lt_of_block Ha.out) (by simp)).trans Ha.out
      clear Ha
      have a0 := heap_eq_cell ha_ 0
      have a1 := heap_eq_cell ha_ 1
      have al := lt_of_block ha_
      have Ha := Lib.hid ha_
      clear ha_
      (try clear b0)
      (try clear b1)
      (try clear bl)
      have hb_ := (hfk.block _ (lt_of_block Hb.out) (by simp)).trans Hb.out
      clear Hb
      have b0 := heap_eq_cell hb_ 0
      have b1 := heap_eq_cell hb_ 1
      have bl := lt_of_block hb_
      have Hb := Lib.hid hb_
      clear hb_
      have Hf := Lib.hid (Hf.out.trans0 hfk)
      have HX := Lib.hid hr
      clear hf hfk hr hlo
      go_wp2_with fail
      refine (HR.out _ (by have := H2.out; (repeat (first | exact Fr.refl _ _ | assumption | apply Fr.drewN | apply Fr.drew | apply Fr.alloc | refine Fr.setCell ?_ (Or.inr (by simp; try omega)) _)))).mono ?_
      rintro e w4 ⟨ya, yc, hlo, rfl, hr, hf⟩
      have hx_ := (hf.block (w3.heap.size) (by first | (simp; done) | (simp; omega)) (by simp)).trans (show _ = some (.cells #[.bool r1, .slice xa r2.length xc] 24 (0, 0)) by (repeat (first | rw [if_pos (by omega)] | rw [if_neg (by omega)] | rw [hp_drew] | rw [hp_drewN] | rw [hp_alloc_size] | rw [hp_setCell_size] | rw [hp_alloc] | rw [hp_setCell] | rw [Option.map_some] | rw [upd_cells] | rw [List.set_cons_zero] | rw [List.set_cons_succ] | rfl)))
      have x0 := heap_eq_cell hx_ 0
      have x1 := heap_eq_cell hx_ 1
      have xl := lt_of_block hx_
      have Hx := Lib.hid hx_
      clear hx_
      have hfk : Fr [] w3 w4 := Fr.trans0 (by (repeat (first | exact Fr.refl _ _ | assumption | apply Fr.drewN | apply Fr.drew | apply Fr.alloc | refine Fr.setCell ?_ (Or.inr (by simp; try omega)) _))) hf
      (try clear a0)
      (try clear a1)
      (try clear al)
      have ha_ := (hfk.block _ (lt_of_block Ha.out) (by simp)).trans Ha.out
      clear Ha
      have a0 := heap_eq_cell ha_ 0
      have a1 := heap_eq_cell ha_ 1
      have al := lt_of_block ha_
      have Ha := Lib.hid ha_
      clear ha_
      (try clear b0)
      (try clear b1)
      (try clear bl)
      have hb_ := (hfk.block _ (lt_of_block Hb.out) (by simp)).trans Hb.out
      clear Hb
      have b0 := heap_eq_cell hb_ 0
      have b1 := heap_eq_cell hb_ 1
      have bl := lt_of_block hb_
      have Hb := Lib.hid hb_
      clear hb_
      have Hf := Lib.hid (Hf.out.trans0 hfk)
      have HX := Lib.hid (HX.out.fr hfk)
      have H2 := Lib.hid (H2.out.trans0 hfk)
      have HY := Lib.hid hr
      clear hf hfk hr hlo
      go_wp2_with fail
      refine (HM2.out _ (by have := H2.out; (repeat (first | exact Fr.refl _ _ | assumption | apply Fr.drewN | apply Fr.drew | apply Fr.alloc | refine Fr.setCell ?_ (Or.inr (by simp; try omega)) _)))).mono ?_
      rintro e w5 ⟨za, zc, hlo, rfl, hr, hf⟩
      have hy_ := (hf.block (w4.heap.size) (by first | (simp; done) | (simp; omega)) (by simp)).trans (show _ = some (.cells #[.bool r1, .slice ya r2.length yc] 24 (0, 0)) by (repeat (first | rw [if_pos (by omega)] | rw [if_neg (by omega)] | rw [hp_drew] | rw [hp_drewN] | rw [hp_alloc_size] | rw [hp_setCell_size] | rw [hp_alloc] | rw [hp_setCell] | rw [Option.map_some] | rw [upd_cells] | rw [List.set_cons_zero] | rw [List.set_cons_succ] | rfl)))
      have y0 := heap_eq_cell hy_ 0
      have y1 := heap_eq_cell hy_ 1
      have yl := lt_of_block hy_
      have Hy := Lib.hid hy_
      clear hy_
      have hfk : Fr [] w4 w5 := Fr.trans0 (by (repeat (first | exact Fr.refl _ _ | assumption | apply Fr.drewN | apply Fr.drew | apply Fr.alloc | refine Fr.setCell ?_ (Or.inr (by simp; try omega)) _))) hf
      (try clear x0)
      (try clear x1)
      (try clear xl)
      have hx_ := (hfk.block _ (lt_of_block Hx.out) (by simp)).trans Hx.out
      clear Hx
      have x0 := heap_eq_cell hx_ 0
      have x1 := heap_eq_cell hx_ 1
      have xl := lt_of_block hx_
      have Hx := Lib.hid hx_
      clear hx_
      have Hf := Lib.hid (Hf.out.trans0 hfk)
      have HX := Lib.hid (HX.out.fr hfk)
      have HY := Lib.hid (HY.out.fr hfk)
      have HZ := Lib.hid hr
      (try clear a0 a1 al b0 b1 bl)
      clear hf hfk hr hlo
      go_wp2_with fail
      refine (Same_calls (HX.out.fr (by (repeat (first | exact Fr.refl _ _ | assumption | apply Fr.drewN | apply Fr.drew | apply Fr.alloc | refine Fr.setCell ?_ (Or.inr (by simp; try omega)) _)))) (HY.out.fr (by (repeat (first | exact Fr.refl _ _ | assumption | apply Fr.drewN | apply Fr.drew | apply Fr.alloc | refine Fr.setCell ?_ (Or.inr (by simp; try omega)) _)))) (by have := HrL.out; omega) (by have := HrL.out; omega)).mono ?_
      rintro e w6 ⟨rfl, hf⟩
      rw [same_self]
      have hz_ := (hf.block (w5.heap.size) (by first | (simp; done) | (simp; omega)) (by simp)).trans (show _ = some (.cells #[.bool r1, .slice za r2.length zc] 24 (0, 0)) by (repeat (first | rw [if_pos (by omega)] | rw [if_neg (by omega)] | rw [hp_drew] | rw [hp_drewN] | rw [hp_alloc_size] | rw [hp_setCell_size] | rw [hp_alloc] | rw [hp_setCell] | rw [Option.map_some] | rw [upd_cells] | rw [List.set_cons_zero] | rw [List.set_cons_succ] | rfl)))
      have z0 := heap_eq_cell hz_ 0
      have z1 := heap_eq_cell hz_ 1
      have zl := lt_of_block hz_
      have Hz := Lib.hid hz_
      clear hz_
      have hfk : Fr [] w5 w6 := Fr.trans0 (by (repeat (first | exact Fr.refl _ _ | assumption | apply Fr.drewN | apply Fr.drew | apply Fr.alloc | refine Fr.setCell ?_ (Or.inr (by simp; try omega)) _))) hf
      (try clear x0)
      (try clear x1)
      (try clear xl)
      have hx_ := (hfk.block _ (lt_of_block Hx.out) (by simp)).trans Hx.out
      clear Hx
      have x0 := heap_eq_cell hx_ 0
      have x1 := heap_eq_cell hx_ 1
      have xl := lt_of_block hx_
      have Hx := Lib.hid hx_
      clear hx_
      (try clear y0)
      (try clear y1)
      (try clear yl)
      have hy_ := (hfk.block _ (lt_of_block Hy.out) (by simp)).trans Hy.out
      clear Hy
      have y0 := heap_eq_cell hy_ 0
      have y1 := heap_eq_cell hy_ 1
      have yl := lt_of_block hy_
      have Hy := Lib.hid hy_
      clear hy_
      have Hf := Lib.hid (Hf.out.trans0 hfk)
      have HX := Lib.hid (HX.out.fr hfk)
      have HZ := Lib.hid (HZ.out.fr hfk)
      clear hf hfk
      go_wp2_with fail
      refine (Same_calls (HX.out.fr (by (repeat (first | exact Fr.refl _ _ | assumption | apply Fr.drewN | apply Fr.drew | apply Fr.alloc | refine Fr.setCell ?_ (Or.inr (by simp; try omega)) _)))) (HZ.out.fr (by (repeat (first | exact Fr.refl _ _ | assumption | apply Fr.drewN | apply Fr.drew | apply Fr.alloc | refine Fr.setCell ?_ (Or.inr (by simp; try omega)) _)))) (by have := HrL.out; omega) (by have := HrL.out; omega)).mono ?_
      rintro e w7 ⟨rfl, hf⟩
      rw [same_self]
      have hfk : Fr [] w6 w7 := Fr.trans0 (by (repeat (first | exact Fr.refl _ _ | assumption | apply Fr.drewN | apply Fr.drew | apply Fr.alloc | refine Fr.setCell ?_ (Or.inr (by simp; try omega)) _))) hf
      (try clear x0)
      (try clear x1)
      (try clear xl)
      have hx_ := (hfk.block _ (lt_of_block Hx.out) (by simp)).trans Hx.out
      clear Hx
      have x0 := heap_eq_cell hx_ 0
      have x1 := heap_eq_cell hx_ 1
      have xl := lt_of_block hx_
      have Hx := Lib.hid hx_
      clear hx_
      have Hf := Lib.hid (Hf.out.trans0 hfk)
      clear hf hfk
      go_wp2_with fail
      refine (alive_calls _).mono ?_
      rintro e w9 ⟨rfl, hf⟩
      have Hf := Lib.hid (Hf.out.trans0 (Fr.trans0 (by (repeat (first | exact Fr.refl _ _ | assumption | apply Fr.drewN | apply Fr.drew | apply Fr.alloc | refine Fr.setCell ?_ (Or.inr (by simp; try omega)) _)) : Fr [] w7 _) hf))
      clear hf
      go_wp2
      go_ret
      exact ⟨rfl, Hf.out⟩
    · have hd2 : decide (db.length ≤ 100) = false := by simpa using hlb
      go_enter Tryd.func4, Tryd.ntmps4
      go_wp2_with fail
      refine short_calls.mono ?_
      rintro e w1 ⟨rfl, hf⟩
      have ha_ := (hf.block (w.heap.size) (by first | (simp; done) | (simp; omega)) (by simp)).trans (show _ = some (.cells #[.bool na, .slice a da.length ac] 24 (0, 0)) by (repeat (first | rw [if_pos (by omega)] | rw [if_neg (by omega)] | rw [hp_drew] | rw [hp_drewN] | rw [hp_alloc_size] | rw [hp_setCell_size] | rw [hp_alloc] | rw [hp_setCell] | rw [Option.map_some] | rw [upd_cells] | rw [List.set_cons_zero] | rw [List.set_cons_succ] | rfl)))
      have a0 := heap_eq_cell ha_ 0
      have a1 := heap_eq_cell ha_ 1
      have al := lt_of_block ha_
      have Ha := Lib.hid ha_
      clear ha_
      have hb_ := (hf.block (w.heap.size + 1) (by first | (simp; done) | (simp; omega)) (by simp)).trans (show _ = some (.cells #[.bool nb, .slice b db.length bc] 24 (0, 0)) by (repeat (first | rw [if_pos (by omega)] | rw [if_neg (by omega)] | rw [hp_drew] | rw [hp_drewN] | rw [hp_alloc_size] | rw [hp_setCell_size] | rw [hp_alloc] | rw [hp_setCell] | rw [Option.map_some] | rw [upd_cells] | rw [List.set_cons_zero] | rw [List.set_cons_succ] | rfl)))
      have b0 := heap_eq_cell hb_ 0
      have b1 := heap_eq_cell hb_ 1
      have bl := lt_of_block hb_
      have Hb := Lib.hid hb_
      clear hb_
      have hf01 : Fr [] w w1 := Fr.trans0 (by (repeat (first | exact Fr.refl _ _ | assumption | apply Fr.drewN | apply Fr.drew | apply Fr.alloc | refine Fr.setCell ?_ (Or.inr (by simp; try omega)) _))) hf
      have Hf := Lib.hid hf01
      have HA := Lib.hid (HA.out.fr hf01)
      have HB := Lib.hid (HB.out.fr hf01)
      clear hf hf01
      rw [hd1]
      go_wp2_with fail
      refine short_calls.mono ?_
      rintro e w2 ⟨rfl, hf⟩
      rw [hd2]
      have Hf := Lib.hid (Hf.out.trans0 (Fr.trans0 (by (repeat (first | exact Fr.refl _ _ | assumption | apply Fr.drewN | apply Fr.drew | apply Fr.alloc | refine Fr.setCell ?_ (Or.inr (by simp; try omega)) _)) : Fr [] w1 _) hf))
      clear hf
      go_wp2_with fail
      refine (alive_calls _).mono ?_
      rintro e w9 ⟨rfl, hf⟩
      have Hf := Lib.hid (Hf.out.trans0 (Fr.trans0 (by (repeat (first | exact Fr.refl _ _ | assumption | apply Fr.drewN | apply Fr.drew | apply Fr.alloc | refine Fr.setCell ?_ (Or.inr (by simp; try omega)) _)) : Fr [] w2 _) hf))
      clear hf
      go_wp2
      go_ret
      exact ⟨rfl, Hf.out⟩
  · have hd1 : decide (da.length ≤ 100) = false := by simpa using hla
    go_enter Tryd.func4, Tryd.ntmps4
    go_wp2_with fail
    refine short_calls.mono ?_
    rintro e w1 ⟨rfl, hf⟩
    have ha_ := (hf.block (w.heap.size) (by first | (simp; done) | (simp; omega)) (by simp)).trans (show _ = some (.cells #[.bool na, .slice a da.length ac] 24 (0, 0)) by (repeat (first | rw [if_pos (by omega)] | rw [if_neg (by omega)] | rw [hp_drew] | rw [hp_drewN] | rw [hp_alloc_size] | rw [hp_setCell_size] | rw [hp_alloc] | rw [hp_setCell] | rw [Option.map_some] | rw [upd_cells] | rw [List.set_cons_zero] | rw [List.set_cons_succ] | rfl)))
    have a0 := heap_eq_cell ha_ 0
    have a1 := heap_eq_cell ha_ 1
    have al := lt_of_block ha_
    have Ha := Lib.hid ha_
    clear ha_
    have hb_ := (hf.block (w.heap.size + 1) (by first | (simp; done) | (simp; omega)) (by simp)).trans (show _ = some (.cells #[.bool nb, .slice b db.length bc] 24 (0, 0)) by (repeat (first | rw [if_pos (by omega)] | rw [if_neg (by omega)] | rw [hp_drew] | rw [hp_drewN] | rw [hp_alloc_size] | rw [hp_setCell_size] | rw [hp_alloc] | rw [hp_setCell] | rw [Option.map_some] | rw [upd_cells] | rw [List.set_cons_zero] | rw [List.set_cons_succ] | rfl)))
    have b0 := heap_eq_cell hb_ 0
    have b1 := heap_eq_cell hb_ 1
    have bl := lt_of_block hb_
    have Hb := Lib.hid hb_
    clear hb_
    have hf01 : Fr [] w w1 := Fr.trans0 (by (repeat (first | exact Fr.refl _ _ | assumption | apply Fr.drewN | apply Fr.drew | apply Fr.alloc | refine Fr.setCell ?_ (Or.inr (by simp; try omega)) _))) hf
    have Hf := Lib.hid hf01
    have HA := Lib.hid (HA.out.fr hf01)
    have HB := Lib.hid (HB.out.fr hf01)
    clear hf hf01
    rw [hd1]
    go_wp2_with fail
    refine (alive_calls _).mono ?_
    rintro e w9 ⟨rfl, hf⟩
    have Hf := Lib.hid (Hf.out.trans0 (Fr.trans0 (by (repeat (first | exact Fr.refl _ _ | assumption | apply Fr.drewN | apply Fr.drew | apply Fr.alloc | refine Fr.setCell ?_ (Or.inr (by simp; try omega)) _)) : Fr [] w1 _) hf))
    clear hf
    go_wp2
    go_ret
    exact ⟨rfl, Hf.out⟩
end Go.Proofs.YtbacamboknmppaaDoor
