/- BigintConverts: the walk. -/
import Derived.Test.YtbacamboknmppaaDoorLb
import Derived.Test.YtbacamboknmppaaDoorLd
import Derived.Test.YtbacamboknmppaaDoorKj
namespace Go.Proofs.YtbacamboknmppaaDoor
open Go Go.RowKit Go.Proofs.Rg Go.Proofs.Hp Go.Proofs.Bn
set_option linter.unusedVariables false
set_option linter.unusedSimpArgs false
set_option maxHeartbeats 8000000 in
set_option maxRecDepth 100000 in
theorem Converts_calls {w : World} {n : Int} {na : Bool} {da : List Nat} {a : Option Addr} {ac : Nat} (ha : Reads w (.slice a da.length ac) da.length 1 (u32s da)) (hDa : Dig 4294967296 da) (hk1 : -9223372036854775808 ≤ n) (hk2 : n < 9223372036854775808) :
    Calls Tryd.prog 3 #[.int .i64 n, .agg #[.bool na, .slice a da.length ac]] w fun e w' => e = .returned (.bool true) ∧ Fr [] w w' := by
  have HA := Lib.hid ha
  have HDa := Lib.hid hDa
  clear ha hDa
  by_cases hla : da.length ≤ 100
  · have hd1 : decide (da.length ≤ 100) = true := by simpa using hla
    obtain ⟨hrD, hrL⟩ := fromS_dig n
    have hint := int_from hk1 hk2
    have HFm := Lib.hid (fun w1 => From_calls (w := w1) hk1 hk2)
    have HRF := Lib.hid (fun w1 => RFrom_calls (w := w1) hk1 hk2)
    have HI := Lib.hid (fun w1 (hf : Fr [] w w1) => Int_calls (neg := na) (HA.out.fr hf) HDa.out (by omega))
    have HRI := Lib.hid (fun w1 (hf : Fr [] w w1) => RInt_calls (neg := na) (HA.out.fr hf) HDa.out (by omega))
    have HR := Lib.hid (fun w1 (hf : Fr [] w w1) => Right_calls (neg := na) (HA.out.fr hf) (by omega))
    have HRR := Lib.hid (fun w1 (hf : Fr [] w w1) => RRight_calls (neg := na) (HA.out.fr hf) (by omega))
    generalize fromS n = r at hrD hrL hint HFm HRF
    generalize intS na da = q at HI HRI
    generalize RightB na da = rb at HR HRR
    obtain ⟨r1, r2, r3⟩ := r
    obtain ⟨q1, q2⟩ := q
    simp only at hrD hrL hint
    have HrL := Lib.hid hrL
    have HrD := Lib.hid hrD
    have Hint := Lib.hid hint
    clear hrD hrL hint
    go_enter Tryd.func3, Tryd.ntmps3
    go_wp2_with fail
    refine short_calls.mono ?_
    rintro e w1 ⟨rfl, hf⟩
    have ha_ := (hf.block (w.heap.size) (by first | (simp; done) | (simp; omega)) (by simp)).trans (show _ = some (.cells #[.bool na, .slice a da.length ac] 24 (0, 0)) by (repeat (first | rw [if_pos (by omega)] | rw [if_neg (by omega)] | rw [hp_drew] | rw [hp_drewN] | rw [hp_alloc_size] | rw [hp_setCell_size] | rw [hp_alloc] | rw [hp_setCell] | rw [Option.map_some] | rw [upd_cells] | rw [List.set_cons_zero] | rw [List.set_cons_succ] | rfl)))
    have a0 := heap_eq_cell ha_ 0
    have a1 := heap_eq_cell ha_ 1
    have al := lt_of_block ha_
    have Ha := Lib.hid ha_
    clear ha_
    have hf01 : Fr [] w w1 := Fr.trans0 (by (repeat (first | exact Fr.refl _ _ | assumption | apply Fr.drewN | apply Fr.drew | apply Fr.alloc | refine Fr.setCell ?_ (Or.inr (by simp; try omega)) _))) hf
    have Hf := Lib.hid hf01
    have HA := Lib.hid (HA.out.fr hf01)
    clear hf hf01
    rw [hd1]
    clear hd1
    go_wp2_with fail
    refine (HFm.out _).mono ?_
    rintro e w2 ⟨xa, xc, hlo, rfl, hr, hf⟩
    have hfk : Fr [] w1 w2 := Fr.trans0 (by (repeat (first | exact Fr.refl _ _ | assumption | apply Fr.drewN | apply Fr.drew | apply Fr.alloc | refine Fr.setCell ?_ (Or.inr (by simp; try omega)) _))) hf
    (try clear a0)
    (try clear a1)
    (try clear al)
    have ha_ := (hfk.block _ (lt_of_block Ha.out) (by simp)).trans Ha.out
    clear Ha
    have a0 := heap_eq_cell ha_ 0
    have a1 := heap_eq_cell ha_ 1
    have al := lt_of_block ha_
    have Ha := Lib.hid ha_
    clear ha_
    have Hf := Lib.hid (Hf.out.trans0 hfk)
    have HX := Lib.hid hr
    clear hf hfk hr hlo
    have HXI := Lib.hid (fun w1 (hf : Fr [] w2 w1) => Hint.out ▸ Int_calls (neg := r1) (ds := r2) (HX.out.fr hf) HrD.out (by have := HrL.out; omega))
    go_wp2_with fail
    refine (HXI.out _ (by (repeat (first | exact Fr.refl _ _ | assumption | apply Fr.drewN | apply Fr.drew | apply Fr.alloc | refine Fr.setCell ?_ (Or.inr (by simp; try omega)) _)))).mono ?_
    rintro e w3 ⟨rfl, hf⟩
    have hx_ := (hf.block (w2.heap.size) (by first | (simp; done) | (simp; omega)) (by simp)).trans (show _ = some (.cells #[.bool r1, .slice xa r2.length xc] 24 (0, 0)) by (repeat (first | rw [if_pos (by omega)] | rw [if_neg (by omega)] | rw [hp_drew] | rw [hp_drewN] | rw [hp_alloc_size] | rw [hp_setCell_size] | rw [hp_alloc] | rw [hp_setCell] | rw [Option.map_some] | rw [upd_cells] | rw [List.set_cons_zero] | rw [List.set_cons_succ] | rfl)))
    have x0 := heap_eq_cell hx_ 0
    have x1 := heap_eq_cell hx_ 1
    have xl := lt_of_block hx_
    have Hx := Lib.hid hx_
    clear hx_
    have hfk : Fr [] w2 w3 := Fr.trans0 (by (repeat (first | exact Fr.refl _ _ | assumption | apply Fr.drewN | apply Fr.drew | apply Fr.alloc | refine Fr.setCell ?_ (Or.inr (by simp; try omega)) _))) hf
    (try clear a0)
    (try clear a1)
    (try clear al)
    have ha_ := (hfk.block _ (lt_of_block Ha.out) (by simp)).trans Ha.out
    clear Ha
    have a0 := heap_eq_cell ha_ 0
    have a1 := heap_eq_cell ha_ 1
    have al := lt_of_block ha_
    have Ha := Lib.hid ha_
    clear ha_
    have Hf := Lib.hid (Hf.out.trans0 hfk)
    have HX := Lib.hid (HX.out.fr hfk)
    clear hf hfk HXI
    go_wp2_with fail
    refine (HI.out _ (by have := Hf.out; (repeat (first | exact Fr.refl _ _ | assumption | apply Fr.drewN | apply Fr.drew | apply Fr.alloc | refine Fr.setCell ?_ (Or.inr (by simp; try omega)) _)))).mono ?_
    rintro e w4 ⟨rfl, hf⟩
    have hfk : Fr [] w3 w4 := Fr.trans0 (by (repeat (first | exact Fr.refl _ _ | assumption | apply Fr.drewN | apply Fr.drew | apply Fr.alloc | refine Fr.setCell ?_ (Or.inr (by simp; try omega)) _))) hf
    (try clear a0)
    (try clear a1)
    (try clear al)
    have ha_ := (hfk.block _ (lt_of_block Ha.out) (by simp)).trans Ha.out
    clear Ha
    have a0 := heap_eq_cell ha_ 0
    have a1 := heap_eq_cell ha_ 1
    have al := lt_of_block ha_
    have Ha := Lib.hid ha_
    clear ha_
    (try clear x0)
    (try clear x1)
    (try clear xl)
    have hx_ := (hfk.block _ (lt_of_block Hx.out) (by simp)).trans Hx.out
    clear Hx
    have x0 := heap_eq_cell hx_ 0
    have x1 := heap_eq_cell hx_ 1
    have xl := lt_of_block hx_
    have Hx := Lib.hid hx_
    clear hx_
    have Hf := Lib.hid (Hf.out.trans0 hfk)
    have HX := Lib.hid (HX.out.fr hfk)
    clear hf hfk
    go_wp2_with fail
    refine (HRI.out _ (by have := Hf.out; (repeat (first | exact Fr.refl _ _ | assumption | apply Fr.drewN | apply Fr.drew | apply Fr.alloc | refine Fr.setCell ?_ (Or.inr (by simp; try omega)) _)))).mono ?_
    rintro e w5 ⟨rfl, hf⟩
    have hfk : Fr [] w4 w5 := Fr.trans0 (by (repeat (first | exact Fr.refl _ _ | assumption | apply Fr.drewN | apply Fr.drew | apply Fr.alloc | refine Fr.setCell ?_ (Or.inr (by simp; try omega)) _))) hf
    (try clear a0)
    (try clear a1)
    (try clear al)
    have ha_ := (hfk.block _ (lt_of_block Ha.out) (by simp)).trans Ha.out
    clear Ha
    have a0 := heap_eq_cell ha_ 0
    have a1 := heap_eq_cell ha_ 1
    have al := lt_of_block ha_
    have Ha := Lib.hid ha_
    clear ha_
    (try clear x0)
    (try clear x1)
    (try clear xl)
    have hx_ := (hfk.block _ (lt_of_block Hx.out) (by simp)).trans Hx.out
    clear Hx
    have x0 := heap_eq_cell hx_ 0
    have x1 := heap_eq_cell hx_ 1
    have xl := lt_of_block hx_
    have Hx := Lib.hid hx_
    clear hx_
    have Hf := Lib.hid (Hf.out.trans0 hfk)
    have HX := Lib.hid (HX.out.fr hfk)
    clear hf hfk
    go_wp2_with fail
    refine wp_region_segs [([0, 1, 2], [0]), ([3, 4, 5, 6, 7, 8, 9, 10, 11, 12, 13, 15, 14], [15]), ([16, 17, 18, 19, 20, 21, 22, 23, 24, 25, 26, 27, 28, 29, 30, 31, 32], [])] (by kernel_rfl) (by kernel_rfl) ?_
    (simp only [wpSegs, pick, Array.getD_eq_getD_getElem?, List.getElem?_toArray, List.getElem?_cons_succ, List.getElem?_cons_zero, Option.getD_some])
    go_wp2_with fail
    refine (HRF.out _).mono ?_
    rintro e w6 ⟨ya, yc, hlo, rfl, hr, hf⟩
    have hfk : Fr [] w5 w6 := Fr.trans0 (by (repeat (first | exact Fr.refl _ _ | assumption | apply Fr.drewN | apply Fr.drew | apply Fr.alloc | refine Fr.setCell ?_ (Or.inr (by simp; try omega)) _))) hf
    (try clear a0)
    (try clear a1)
    (try clear al)
    have ha_ := (hfk.block _ (lt_of_block Ha.out) (by simp)).trans Ha.out
    clear Ha
    have a0 := heap_eq_cell ha_ 0
    have a1 := heap_eq_cell ha_ 1
    have al := lt_of_block ha_
    have Ha := Lib.hid ha_
    clear ha_
    (try clear x0)
    (try clear x1)
    (try clear xl)
    have hx_ := (hfk.block _ (lt_of_block Hx.out) (by simp)).trans Hx.out
    clear Hx
    have x0 := heap_eq_cell hx_ 0
    have x1 := heap_eq_cell hx_ 1
    have xl := lt_of_block hx_
    have Hx := Lib.hid hx_
    clear hx_
    have Hf := Lib.hid (Hf.out.trans0 hfk)
    have HX := Lib.hid (HX.out.fr hfk)
    have HY := Lib.hid hr
    clear hf hfk hr hlo
    go_wp2
    refine Mid.intro ⟨⟨again_row (T := 24) (cs := [Value.bool r1, .slice xa r2.length xc]) rfl rfl rfl Tryd.underlying24 rfl (by kernel_rfl) (fun j v hj => ?rng) rfl, trivial⟩, ?_⟩
    case rng =>
      rw [Nat.zero_add, heap_eq_cell Hx.out, ← hj]
      exact (Array.getElem?_toList (xs := #[Value.bool r1, .slice xa r2.length xc])).symm
    go_wp2_with fail
    refine (Same_calls (HX.out.fr (by (repeat (first | exact Fr.refl _ _ | assumption | apply Fr.drewN | apply Fr.drew | apply Fr.alloc | refine Fr.setCell ?_ (Or.inr (by simp; try omega)) _)))) (HY.out.fr (by (repeat (first | exact Fr.refl _ _ | assumption | apply Fr.drewN | apply Fr.drew | apply Fr.alloc | refine Fr.setCell ?_ (Or.inr (by simp; try omega)) _)))) (by have := HrL.out; omega) (by have := HrL.out; omega)).mono ?_
    rintro e w7 ⟨rfl, hf⟩
    rw [same_self]
    have hfk : Fr [] w6 w7 := Fr.trans0 (by (repeat (first | exact Fr.refl _ _ | assumption | apply Fr.drewN | apply Fr.drew | apply Fr.alloc | refine Fr.setCell ?_ (Or.inr (by simp; try omega)) _))) hf
    (try clear a0)
    (try clear a1)
    (try clear al)
    have ha_ := (hfk.block _ (lt_of_block Ha.out) (by simp)).trans Ha.out
    clear Ha
    have a0 := heap_eq_cell ha_ 0
    have a1 := heap_eq_cell ha_ 1
    have al := lt_of_block ha_
    have Ha := Lib.hid ha_
    clear ha_
    (try clear x0)
    (try clear x1)
    (try clear xl)
    have hx_ := (hfk.block _ (lt_of_block Hx.out) (by simp)).trans Hx.out
    clear Hx
    have x0 := heap_eq_cell hx_ 0
    have x1 := heap_eq_cell hx_ 1
    have xl := lt_of_block hx_
    have Hx := Lib.hid hx_
    clear hx_
    have Hf := Lib.hid (Hf.out.trans0 hfk)
    clear hf hfk
    go_wp2_with fail
    refine (HR.out _ (by have := Hf.out; (repeat (first | exact Fr.refl _ _ | assumption | apply Fr.drewN | apply Fr.drew | apply Fr.alloc | refine Fr.setCell ?_ (Or.inr (by simp; try omega)) _)))).mono ?_
    rintro e w8 ⟨rfl, hf⟩
    have hfk : Fr [] w7 w8 := Fr.trans0 (by (repeat (first | exact Fr.refl _ _ | assumption | apply Fr.drewN | apply Fr.drew | apply Fr.alloc | refine Fr.setCell ?_ (Or.inr (by simp; try omega)) _))) hf
    (try clear a0)
    (try clear a1)
    (try clear al)
    have ha_ := (hfk.block _ (lt_of_block Ha.out) (by simp)).trans Ha.out
    clear Ha
    have a0 := heap_eq_cell ha_ 0
    have a1 := heap_eq_cell ha_ 1
    have al := lt_of_block ha_
    have Ha := Lib.hid ha_
    clear ha_
    (try clear x0)
    (try clear x1)
    (try clear xl)
    have hx_ := (hfk.block _ (lt_of_block Hx.out) (by simp)).trans Hx.out
    clear Hx
    have x0 := heap_eq_cell hx_ 0
    have x1 := heap_eq_cell hx_ 1
    have xl := lt_of_block hx_
    have Hx := Lib.hid hx_
    clear hx_
    have Hf := Lib.hid (Hf.out.trans0 hfk)
    clear hf hfk
    go_wp2
    refine Mid.intro ⟨⟨again_row (T := 24) (cs := [Value.bool na, .slice a da.length ac]) rfl rfl rfl Tryd.underlying24 rfl (by kernel_rfl) (fun j v hj => ?rng) rfl, trivial⟩, ?_⟩
    case rng =>
      rw [Nat.zero_add, heap_eq_cell Ha.out, ← hj]
      exact (Array.getElem?_toList (xs := #[Value.bool na, .slice a da.length ac])).symm
    go_wp2_with fail
    refine (HRR.out _ (by have := Hf.out; (repeat (first | exact Fr.refl _ _ | assumption | apply Fr.drewN | apply Fr.drew | apply Fr.alloc | refine Fr.setCell ?_ (Or.inr (by simp; try omega)) _)))).mono ?_
    rintro e w10 ⟨rfl, hf⟩
    have hfk : Fr [] w8 w10 := Fr.trans0 (by (repeat (first | exact Fr.refl _ _ | assumption | apply Fr.drewN | apply Fr.drew | apply Fr.alloc | refine Fr.setCell ?_ (Or.inr (by simp; try omega)) _))) hf
    (try clear a0)
    (try clear a1)
    (try clear al)
    have ha_ := (hfk.block _ (lt_of_block Ha.out) (by simp)).trans Ha.out
    clear Ha
    have a0 := heap_eq_cell ha_ 0
    have a1 := heap_eq_cell ha_ 1
    have al := lt_of_block ha_
    have Ha := Lib.hid ha_
    clear ha_
    (try clear x0)
    (try clear x1)
    (try clear xl)
    have hx_ := (hfk.block _ (lt_of_block Hx.out) (by simp)).trans Hx.out
    clear Hx
    have x0 := heap_eq_cell hx_ 0
    have x1 := heap_eq_cell hx_ 1
    have xl := lt_of_block hx_
    have Hx := Lib.hid hx_
    clear hx_
    have Hf := Lib.hid (Hf.out.trans0 hfk)
    clear hf hfk
    go_wp2_with fail
    refine (alive_calls _).mono ?_
    rintro e w9 ⟨rfl, hf⟩
    have Hf := Lib.hid (Hf.out.trans0 (Fr.trans0 (by (repeat (first | exact Fr.refl _ _ | assumption | apply Fr.drewN | apply Fr.drew | apply Fr.alloc | refine Fr.setCell ?_ (Or.inr (by simp; try omega)) _)) : Fr [] w10 _) hf))
    clear hf
    go_wp2
    refine Mid.intro ⟨trivial, Strict.intro rfl ?_⟩
    go_wp2
    go_ret
    exact ⟨rfl, Hf.out⟩
  · have hd1 : decide (da.length ≤ 100) = false := by simpa using hla
    go_enter Tryd.func3, Tryd.ntmps3
    go_wp2_with fail
    refine short_calls.mono ?_
    rintro e w1 ⟨rfl, hf⟩
    have ha_ := (hf.block (w.heap.size) (by first | (simp; done) | (simp; omega)) (by simp)).trans (show _ = some (.cells #[.bool na, .slice a da.length ac] 24 (0, 0)) by (repeat (first | rw [if_pos (by omega)] | rw [if_neg (by omega)] | rw [hp_drew] | rw [hp_drewN] | rw [hp_alloc_size] | rw [hp_setCell_size] | rw [hp_alloc] | rw [hp_setCell] | rw [Option.map_some] | rw [upd_cells] | rw [List.set_cons_zero] | rw [List.set_cons_succ] | rfl)))
    have a0 := heap_eq_cell ha_ 0
    have a1 := heap_eq_cell ha_ 1
    have al := lt_of_block ha_
    have Ha := Lib.hid ha_
    clear ha_
    have hf01 : Fr [] w w1 := Fr.trans0 (by (repeat (first | exact Fr.refl _ _ | assumption | apply Fr.drewN | apply Fr.drew | apply Fr.alloc | refine Fr.setCell ?_ (Or.inr (by simp; try omega)) _))) hf
    have Hf := Lib.hid hf01
    have HA := Lib.hid (HA.out.fr hf01)
    clear hf hf01
    rw [hd1]
    clear hd1
    go_wp2_with fail
    refine (alive_calls _).mono ?_
    rintro e w9 ⟨rfl, hf⟩
    have Hf := Lib.hid (Hf.out.trans0 (Fr.trans0 (by (repeat (first | exact Fr.refl _ _ | assumption | apply Fr.drewN | apply Fr.drew | apply Fr.alloc | refine Fr.setCell ?_ (Or.inr (by simp; try omega)) _)) : Fr [] w1 _) hf))
    clear hf
    go_wp2
    go_ret
    exact ⟨rfl, Hf.out⟩
end Go.Proofs.YtbacamboknmppaaDoor
