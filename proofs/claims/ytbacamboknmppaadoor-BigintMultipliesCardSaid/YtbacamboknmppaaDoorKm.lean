/- The reference of big integers: Mul. -/
import Derived.Test.YtbacamboknmppaaDoorKf
namespace Go.Proofs.YtbacamboknmppaaDoor
open Go Go.RowKit Go.Proofs.Rg Go.Proofs.Hp Go.Proofs.Bn
set_option linter.unusedVariables false
set_option linter.unusedSimpArgs false
theorem mul_lt_pow {x y a b : Nat} (hx : x < 256 ^ a) (hy : y < 256 ^ b) : x * y < 256 ^ (a + b) := by
  rw [Nat.pow_add]
  exact Nat.mul_lt_mul'' hx hy
theorem rmul_r {R0 x P Q v y : Nat} : R0 + P * (x * v) + P * Q * (x * y) = R0 + P * (x * (v + Q * y)) := by
  rw [Nat.mul_add x, Nat.mul_add P, Nat.mul_assoc P Q, Nat.mul_left_comm x Q]
  omega
set_option maxHeartbeats 8000000 in
set_option maxRecDepth 100000 in
theorem RMul_calls {w : World} {na nb : Bool} {da db : List Nat} {va vb : Value} (ha : Reads w va da.length 1 (u32s da)) (hb : Reads w vb db.length 1 (u32s db)) (hDa : Dig 4294967296 da) (hDb : Dig 4294967296 db) (hla : da.length ≤ 10000) (hlb : db.length ≤ 10000) :
    Calls Tryd.prog 20 #[.agg #[.bool na, va], .agg #[.bool nb, vb]] w (BigPost w (w.heap.size ≤ ·) (mulS na da nb db)) := by
  have hra := fun w1 (hf : Fr [] w w1) => RRight_calls (neg := na) (ha.fr hf) (by omega)
  have hrb := fun w1 (hf : Fr [] w w1) => RRight_calls (neg := nb) (hb.fr hf) (by omega)
  have Ha0 := Lib.hid ha
  have Hb0 := Lib.hid hb
  obtain ⟨_, a, ac, rfl, _⟩ := ha
  obtain ⟨_, b, bc, rfl, _⟩ := hb
  have HDa := Lib.hid hDa
  have HDb := Lib.hid hDb
  obtain ⟨r, hS⟩ : ∃ r, r = mulS na da nb db := ⟨_, rfl⟩
  rw [← hS]
  unfold mulS at hS
  clear hDa hDb
  cases hR1 : RightB na da with
  | false =>
    rw [hR1] at hra hS
    simp only [Bool.false_and, if_true] at hS
    subst hS
    have Hra := Lib.hid hra
    clear hR1 hra hrb
    go_enter Tryd.func20, Tryd.ntmps20
    go_wp2_with fail
    refine (Hra.out _ (by (repeat (first | exact Fr.refl _ _ | assumption | apply Fr.drewN | apply Fr.drew | apply Fr.alloc | refine Fr.setCell ?_ (Or.inr (by simp; try omega)) _)))).mono ?_
    rintro e w1 ⟨rfl, hf⟩
    have ha_ := (hf.block (w.heap.size) (by first | (simp; done) | (simp; omega)) (by simp)).trans (show _ = some (.cells #[.bool na, .slice a da.length ac] 24 (0, 0)) by (repeat (first | rw [if_pos (by omega)] | rw [if_neg (by omega)] | rw [hp_drew] | rw [hp_drewN] | rw [hp_alloc_size] | rw [hp_setCell_size] | rw [hp_alloc] | rw [hp_setCell] | rw [Option.map_some] | rw [upd_cells] | rw [List.set_cons_zero] | rw [List.set_cons_succ] | rfl)))
    have a0 := heap_eq_cell ha_ 0
    have a1 := heap_eq_cell ha_ 1
    have al := lt_of_block ha_
    have Ha := Lib.hid ha_
    clear ha_
    have hb_ := (hf.block (w.heap.size + 1) (by first | (simp; done) | (simp; omega)) (by simp)).trans (show _ = some (.cells #[.bool nb, .slice b db.length bc] 24 (0, 0)) by (repeat (first | rw [if_pos (by omega)] | rw [if_neg (by omega)] | rw [hp_drew] | rw [hp_drewN] | rw [hp_alloc_size] | rw [hp_setCell_size] | rw [hp_alloc] | rw [hp_setCell] | rw [Option.map_some] | rw [upd_cells] | rw [List.set_cons_zero] | rw [List.set_cons_succ] | rfl)))
    have b0 := heap_eq_cell hb_ 0
    have b1 := heap_eq_cell hb_ 1
    have bl := lt_of_block hb_
    have Hb := Lib.hid hb_
    clear hb_
    have hc_ := (hf.block (w.heap.size + 1 + 1) (by first | (simp; done) | (simp; omega)) (by simp)).trans (show _ = some (.cells #[.bool false, .slice none 0 0] 24 (0, 0)) by (repeat (first | rw [if_pos (by omega)] | rw [if_neg (by omega)] | rw [hp_drew] | rw [hp_drewN] | rw [hp_alloc_size] | rw [hp_setCell_size] | rw [hp_alloc] | rw [hp_setCell] | rw [Option.map_some] | rw [upd_cells] | rw [List.set_cons_zero] | rw [List.set_cons_succ] | rfl)))
    have c0 := heap_eq_cell hc_ 0
    have c0z := heap_eq_frozen hc_ 0
    have c1 := heap_eq_cell hc_ 1
    have c1z := heap_eq_frozen hc_ 1
    have cl := lt_of_block hc_
    have Hc := Lib.hid hc_
    clear hc_
    have Hf := Lib.hid (Fr.trans0 (by (repeat (first | exact Fr.refl _ _ | assumption | apply Fr.drewN | apply Fr.drew | apply Fr.alloc | refine Fr.setCell ?_ (Or.inr (by simp; try omega)) _)) : Fr [] w _) hf)
    clear hf
    go_wp2
    (try simp only [Exit.inBlock, Exit.then])
    refine bodyPost_ret (big_result rfl (b := w.heap.size + 1 + 1) (x := .bool false) (y := .slice none 0 0) rfl ?_ rfl) rfl ⟨_, _, ⟨Nat.le_refl _, fun g hg => (by cases hg)⟩, rfl, reads_nil _, ?_⟩
    · have h := Hc.out
      (repeat (first | rw [if_pos (by omega)] | rw [if_neg (by omega)] | rw [hp_drew] | rw [hp_drewN] | rw [hp_alloc_size] | rw [hp_setCell_size] | rw [hp_alloc] | rw [hp_setCell] | rw [Option.map_some] | rw [upd_cells] | rw [List.set_cons_zero] | rw [List.set_cons_succ] | rfl))
      rw [h]
      (repeat (first | rw [if_pos (by omega)] | rw [if_neg (by omega)] | rw [hp_drew] | rw [hp_drewN] | rw [hp_alloc_size] | rw [hp_setCell_size] | rw [hp_alloc] | rw [hp_setCell] | rw [Option.map_some] | rw [upd_cells] | rw [List.set_cons_zero] | rw [List.set_cons_succ] | rfl))
    · exact (Hf.out.setCell (.inr (by simp; try omega)) _).setCell (.inr (by simp; try omega)) _
  | true =>
    rw [hR1] at hra
    have Hra := Lib.hid hra
    obtain ⟨cA, lA, nA⟩ := right_canon hR1
    rw [hR1] at hS
    clear hR1 hra nA
    cases hR2 : RightB nb db with
    | false =>
      rw [hR2] at hrb hS
      simp only [Bool.and_false, if_true] at hS
      subst hS
      have Hrb := Lib.hid hrb
      clear hR2 hrb
      go_enter Tryd.func20, Tryd.ntmps20
      go_wp2_with fail
      refine (Hra.out _ (by (repeat (first | exact Fr.refl _ _ | assumption | apply Fr.drewN | apply Fr.drew | apply Fr.alloc | refine Fr.setCell ?_ (Or.inr (by simp; try omega)) _)))).mono ?_
      rintro e w1 ⟨rfl, hf⟩
      have ha_ := (hf.block (w.heap.size) (by first | (simp; done) | (simp; omega)) (by simp)).trans (show _ = some (.cells #[.bool na, .slice a da.length ac] 24 (0, 0)) by (repeat (first | rw [if_pos (by omega)] | rw [if_neg (by omega)] | rw [hp_drew] | rw [hp_drewN] | rw [hp_alloc_size] | rw [hp_setCell_size] | rw [hp_alloc] | rw [hp_setCell] | rw [Option.map_some] | rw [upd_cells] | rw [List.set_cons_zero] | rw [List.set_cons_succ] | rfl)))
      have a0 := heap_eq_cell ha_ 0
      have a1 := heap_eq_cell ha_ 1
      have al := lt_of_block ha_
      have Ha := Lib.hid ha_
      clear ha_
      have hb_ := (hf.block (w.heap.size + 1) (by first | (simp; done) | (simp; omega)) (by simp)).trans (show _ = some (.cells #[.bool nb, .slice b db.length bc] 24 (0, 0)) by (repeat (first | rw [if_pos (by omega)] | rw [if_neg (by omega)] | rw [hp_drew] | rw [hp_drewN] | rw [hp_alloc_size] | rw [hp_setCell_size] | rw [hp_alloc] | rw [hp_setCell] | rw [Option.map_some] | rw [upd_cells] | rw [List.set_cons_zero] | rw [List.set_cons_succ] | rfl)))
      have b0 := heap_eq_cell hb_ 0
      have b1 := heap_eq_cell hb_ 1
      have bl := lt_of_block hb_
      have Hb := Lib.hid hb_
      clear hb_
      have hc_ := (hf.block (w.heap.size + 1 + 1) (by first | (simp; done) | (simp; omega)) (by simp)).trans (show _ = some (.cells #[.bool false, .slice none 0 0] 24 (0, 0)) by (repeat (first | rw [if_pos (by omega)] | rw [if_neg (by omega)] | rw [hp_drew] | rw [hp_drewN] | rw [hp_alloc_size] | rw [hp_setCell_size] | rw [hp_alloc] | rw [hp_setCell] | rw [Option.map_some] | rw [upd_cells] | rw [List.set_cons_zero] | rw [List.set_cons_succ] | rfl)))
      have c0 := heap_eq_cell hc_ 0
      have c0z := heap_eq_frozen hc_ 0
      have c1 := heap_eq_cell hc_ 1
      have c1z := heap_eq_frozen hc_ 1
      have cl := lt_of_block hc_
      have Hc := Lib.hid hc_
      clear hc_
      have Hf := Lib.hid (Fr.trans0 (by (repeat (first | exact Fr.refl _ _ | assumption | apply Fr.drewN | apply Fr.drew | apply Fr.alloc | refine Fr.setCell ?_ (Or.inr (by simp; try omega)) _)) : Fr [] w _) hf)
      clear hf
      go_wp2_with fail
      refine (Hrb.out _ Hf.out).mono ?_
      rintro e w2 ⟨rfl, hf⟩
      (try clear a0)
      (try clear a1)
      (try clear al)
      have ha_ := (hf.block _ (lt_of_block Ha.out) (by simp)).trans Ha.out
      clear Ha
      have a0 := heap_eq_cell ha_ 0
      have a1 := heap_eq_cell ha_ 1
      have al := lt_of_block ha_
      have Ha := Lib.hid ha_
      clear ha_
      (try clear b0)
      (try clear b1)
      (try clear bl)
      have hb_ := (hf.block _ (lt_of_block Hb.out) (by simp)).trans Hb.out
      clear Hb
      have b0 := heap_eq_cell hb_ 0
      have b1 := heap_eq_cell hb_ 1
      have bl := lt_of_block hb_
      have Hb := Lib.hid hb_
      clear hb_
      (try clear c0)
      (try clear c1)
      (try clear c0z)
      (try clear c1z)
      (try clear cl)
      have hc_ := (hf.block _ (lt_of_block Hc.out) (by simp)).trans Hc.out
      clear Hc
      have c0 := heap_eq_cell hc_ 0
      have c0z := heap_eq_frozen hc_ 0
      have c1 := heap_eq_cell hc_ 1
      have c1z := heap_eq_frozen hc_ 1
      have cl := lt_of_block hc_
      have Hc := Lib.hid hc_
      clear hc_
      have Hf := Lib.hid (Hf.out.trans0 hf)
      clear hf
      go_wp2
      (try simp only [Exit.inBlock, Exit.then])
      refine bodyPost_ret (big_result rfl (b := w.heap.size + 1 + 1) (x := .bool false) (y := .slice none 0 0) rfl ?_ rfl) rfl ⟨_, _, ⟨Nat.le_refl _, fun g hg => (by cases hg)⟩, rfl, reads_nil _, ?_⟩
      · have h := Hc.out
        (repeat (first | rw [if_pos (by omega)] | rw [if_neg (by omega)] | rw [hp_drew] | rw [hp_drewN] | rw [hp_alloc_size] | rw [hp_setCell_size] | rw [hp_alloc] | rw [hp_setCell] | rw [Option.map_some] | rw [upd_cells] | rw [List.set_cons_zero] | rw [List.set_cons_succ] | rfl))
        rw [h]
        (repeat (first | rw [if_pos (by omega)] | rw [if_neg (by omega)] | rw [hp_drew] | rw [hp_drewN] | rw [hp_alloc_size] | rw [hp_setCell_size] | rw [hp_alloc] | rw [hp_setCell] | rw [Option.map_some] | rw [upd_cells] | rw [List.set_cons_zero] | rw [List.set_cons_succ] | rfl))
      · exact (Hf.out.setCell (.inr (by simp; try omega)) _).setCell (.inr (by simp; try omega)) _
    | true =>
      rw [hR2] at hrb hS
      simp only [Bool.and_self, Bool.true_eq_false, if_false] at hS
      have Hrb := Lib.hid hrb
      obtain ⟨cB, lB, nB⟩ := right_canon hR2
      have HcA := Lib.hid cA
      have HcB := Lib.hid cB
      have HS := Lib.hid hS
      clear hR2 hrb cA cB hS nB
      go_enter Tryd.func20, Tryd.ntmps20
      go_wp2_with fail
      refine (Hra.out _ (by (repeat (first | exact Fr.refl _ _ | assumption | apply Fr.drewN | apply Fr.drew | apply Fr.alloc | refine Fr.setCell ?_ (Or.inr (by simp; try omega)) _)))).mono ?_
      rintro e w1 ⟨rfl, hf⟩
      have ha_ := (hf.block (w.heap.size) (by first | (simp; done) | (simp; omega)) (by simp)).trans (show _ = some (.cells #[.bool na, .slice a da.length ac] 24 (0, 0)) by (repeat (first | rw [if_pos (by omega)] | rw [if_neg (by omega)] | rw [hp_drew] | rw [hp_drewN] | rw [hp_alloc_size] | rw [hp_setCell_size] | rw [hp_alloc] | rw [hp_setCell] | rw [Option.map_some] | rw [upd_cells] | rw [List.set_cons_zero] | rw [List.set_cons_succ] | rfl)))
      have a0 := heap_eq_cell ha_ 0
      have a1 := heap_eq_cell ha_ 1
      have al := lt_of_block ha_
      have Ha := Lib.hid ha_
      clear ha_
      have hb_ := (hf.block (w.heap.size + 1) (by first | (simp; done) | (simp; omega)) (by simp)).trans (show _ = some (.cells #[.bool nb, .slice b db.length bc] 24 (0, 0)) by (repeat (first | rw [if_pos (by omega)] | rw [if_neg (by omega)] | rw [hp_drew] | rw [hp_drewN] | rw [hp_alloc_size] | rw [hp_setCell_size] | rw [hp_alloc] | rw [hp_setCell] | rw [Option.map_some] | rw [upd_cells] | rw [List.set_cons_zero] | rw [List.set_cons_succ] | rfl)))
      have b0 := heap_eq_cell hb_ 0
      have b1 := heap_eq_cell hb_ 1
      have bl := lt_of_block hb_
      have Hb := Lib.hid hb_
      clear hb_
      have hc_ := (hf.block (w.heap.size + 1 + 1) (by first | (simp; done) | (simp; omega)) (by simp)).trans (show _ = some (.cells #[.bool false, .slice none 0 0] 24 (0, 0)) by (repeat (first | rw [if_pos (by omega)] | rw [if_neg (by omega)] | rw [hp_drew] | rw [hp_drewN] | rw [hp_alloc_size] | rw [hp_setCell_size] | rw [hp_alloc] | rw [hp_setCell] | rw [Option.map_some] | rw [upd_cells] | rw [List.set_cons_zero] | rw [List.set_cons_succ] | rfl)))
      have c0 := heap_eq_cell hc_ 0
      have c0z := heap_eq_frozen hc_ 0
      have c1 := heap_eq_cell hc_ 1
      have c1z := heap_eq_frozen hc_ 1
      have cl := lt_of_block hc_
      have Hc := Lib.hid hc_
      clear hc_
      have Hf := Lib.hid (Fr.trans0 (by (repeat (first | exact Fr.refl _ _ | assumption | apply Fr.drewN | apply Fr.drew | apply Fr.alloc | refine Fr.setCell ?_ (Or.inr (by simp; try omega)) _)) : Fr [] w _) hf)
      clear hf
      go_wp2_with fail
      refine (Hrb.out _ Hf.out).mono ?_
      rintro e w2 ⟨rfl, hf⟩
      (try clear a0)
      (try clear a1)
      (try clear al)
      have ha_ := (hf.block _ (lt_of_block Ha.out) (by simp)).trans Ha.out
      clear Ha
      have a0 := heap_eq_cell ha_ 0
      have a1 := heap_eq_cell ha_ 1
      have al := lt_of_block ha_
      have Ha := Lib.hid ha_
      clear ha_
      (try clear b0)
      (try clear b1)
      (try clear bl)
      have hb_ := (hf.block _ (lt_of_block Hb.out) (by simp)).trans Hb.out
      clear Hb
      have b0 := heap_eq_cell hb_ 0
      have b1 := heap_eq_cell hb_ 1
      have bl := lt_of_block hb_
      have Hb := Lib.hid hb_
      clear hb_
      (try clear c0)
      (try clear c1)
      (try clear c0z)
      (try clear c1z)
      (try clear cl)
      have hc_ := (hf.block _ (lt_of_block Hc.out) (by simp)).trans Hc.out
      clear Hc
      have c0 := heap_eq_cell hc_ 0
      have c0z := heap_eq_frozen hc_ 0
      have c1 := heap_eq_cell hc_ 1
      have c1z := heap_eq_frozen hc_ 1
      have cl := lt_of_block hc_
      have Hc := Lib.hid hc_
      clear hc_
      have Hf := Lib.hid (Hf.out.trans0 hf)
      clear hf
      go_wp2
      refine wp_region_segs [([0, 2, 1], [2]), ([3, 4, 5], [])] (by kernel_rfl) (by kernel_rfl) ?_
      (simp only [wpSegs, pick, Array.getD_eq_getD_getElem?, List.getElem?_toArray, List.getElem?_cons_succ, List.getElem?_cons_zero, Option.getD_some])
      go_wp2_with fail
      refine (bytes_calls (neg := na) (Ha0.out.fr (by have := Hf.out; (repeat (first | exact Fr.refl _ _ | assumption | apply Fr.drewN | apply Fr.drew | apply Fr.alloc | refine Fr.setCell ?_ (Or.inr (by simp; try omega)) _)))) HDa.out (by omega)).mono ?_
      rintro e w3 ⟨xa, xc, hlo, rfl, hr, hf0⟩
      have hf : Fr [] w2 w3 := Fr.trans0 (by (repeat (first | exact Fr.refl _ _ | assumption | apply Fr.drewN | apply Fr.drew | apply Fr.alloc | refine Fr.setCell ?_ (Or.inr (by simp; try omega)) _))) hf0
      (try clear a0)
      (try clear a1)
      (try clear al)
      have ha_ := (hf.block _ (lt_of_block Ha.out) (by simp)).trans Ha.out
      clear Ha
      have a0 := heap_eq_cell ha_ 0
      have a1 := heap_eq_cell ha_ 1
      have al := lt_of_block ha_
      have Ha := Lib.hid ha_
      clear ha_
      (try clear b0)
      (try clear b1)
      (try clear bl)
      have hb_ := (hf.block _ (lt_of_block Hb.out) (by simp)).trans Hb.out
      clear Hb
      have b0 := heap_eq_cell hb_ 0
      have b1 := heap_eq_cell hb_ 1
      have bl := lt_of_block hb_
      have Hb := Lib.hid hb_
      clear hb_
      (try clear c0)
      (try clear c1)
      (try clear c0z)
      (try clear c1z)
      (try clear cl)
      have hc_ := (hf.block _ (lt_of_block Hc.out) (by simp)).trans Hc.out
      clear Hc
      have c0 := heap_eq_cell hc_ 0
      have c0z := heap_eq_frozen hc_ 0
      have c1 := heap_eq_cell hc_ 1
      have c1z := heap_eq_frozen hc_ 1
      have cl := lt_of_block hc_
      have Hc := Lib.hid hc_
      clear hc_
      have Hf := Lib.hid (Hf.out.trans0 hf)
      have Hx := Lib.hid hr
      have Hxc := Lib.hid hlo.1
      clear hf hf0 hr hlo
      go_wp2
      refine Mid.intro ⟨⟨again_row (T := 24) (cs := [.bool nb, .slice b db.length bc]) rfl rfl rfl Tryd.underlying24 rfl (by kernel_rfl) (fun j v hj => ?rng) rfl, trivial⟩, ?_⟩
      case rng =>
        rw [Nat.zero_add, heap_eq_cell Hb.out, ← hj]
        exact (Array.getElem?_toList (xs := #[Value.bool nb, .slice b db.length bc])).symm
      go_wp2_with fail
      refine (bytes_calls (neg := nb) (Hb0.out.fr Hf.out) HDb.out (by omega)).mono ?_
      rintro e w4 ⟨ya, yc, hlo, rfl, hr, hf⟩
      (try clear a0)
      (try clear a1)
      (try clear al)
      have ha_ := (hf.block _ (lt_of_block Ha.out) (by simp)).trans Ha.out
      clear Ha
      have a0 := heap_eq_cell ha_ 0
      have a1 := heap_eq_cell ha_ 1
      have al := lt_of_block ha_
      have Ha := Lib.hid ha_
      clear ha_
      (try clear b0)
      (try clear b1)
      (try clear bl)
      have hb_ := (hf.block _ (lt_of_block Hb.out) (by simp)).trans Hb.out
      clear Hb
      have b0 := heap_eq_cell hb_ 0
      have b1 := heap_eq_cell hb_ 1
      have bl := lt_of_block hb_
      have Hb := Lib.hid hb_
      clear hb_
      (try clear c0)
      (try clear c1)
      (try clear c0z)
      (try clear c1z)
      (try clear cl)
      have hc_ := (hf.block _ (lt_of_block Hc.out) (by simp)).trans Hc.out
      clear Hc
      have c0 := heap_eq_cell hc_ 0
      have c0z := heap_eq_frozen hc_ 0
      have c1 := heap_eq_cell hc_ 1
      have c1z := heap_eq_frozen hc_ 1
      have cl := lt_of_block hc_
      have Hc := Lib.hid hc_
      clear hc_
      have Hf := Lib.hid (Hf.out.trans0 hf)
      have Hx := Lib.hid (Hx.out.fr hf)
      have Hy := Lib.hid hr
      have Hyc := Lib.hid hlo.1
      clear hf hr hlo
      go_wp2
      refine Mid.intro ⟨trivial, Strict.intro rfl ?_⟩
      obtain ⟨Va, hVa⟩ : ∃ Va, val 4294967296 da = Va := ⟨_, rfl⟩
      obtain ⟨Vb, hVb⟩ : ∃ Vb, val 4294967296 db = Vb := ⟨_, rfl⟩
      rw [hVa] at Hx HS Hxc ⊢
      rw [hVb] at Hy HS Hyc ⊢
      obtain ⟨X, hX⟩ : ∃ X, dg 256 Va = X := ⟨_, rfl⟩
      obtain ⟨Y, hY⟩ : ∃ Y, dg 256 Vb = Y := ⟨_, rfl⟩
      have hXV : val 256 X = Va := by rw [← hX]; exact val_dg (by omega) Va
      have hYV : val 256 Y = Vb := by rw [← hY]; exact val_dg (by omega) Vb
      have hXD : Dig 256 X := by rw [← hX]; exact dg_dig (by omega) Va
      have hYD : Dig 256 Y := by rw [← hY]; exact dg_dig (by omega) Vb
      have hXC : Canon X := by rw [← hX]; exact dg_canon (by omega) Va
      have hYC : Canon Y := by rw [← hY]; exact dg_canon (by omega) Vb
      have hlen : ∀ (ds : List Nat) V, Dig 4294967296 ds → ds.length ≤ 64 → val 4294967296 ds = V → (dg 256 V).length ≤ 256 := by
        intro ds V hD hl h
        rw [dg_length_le (by omega), show 256 ^ 256 = 4294967296 ^ 64 from pow256 64, ← h]
        exact Nat.lt_of_lt_of_le (val_lt hD) (Nat.pow_le_pow_right (by omega) hl)
      have hXl := hlen _ _ HDa.out lA hVa
      have hYl := hlen _ _ HDb.out lB hVb
      rw [hX] at Hx Hxc hXl ⊢
      rw [hY] at Hy Hyc hYl ⊢
      have HXV := Lib.hid hXV
      have HYV := Lib.hid hYV
      have HXD := Lib.hid hXD
      have HYD := Lib.hid hYD
      have HXC := Lib.hid hXC
      have HYC := Lib.hid hYC
      clear hVa hVb hX hY hXV hYV hXD hYD hXC hYC hlen
      have Hy0 := Hy
      obtain ⟨_, xa2, xc2, hex, hxa⟩ := Hx.out
      cases hex
      obtain ⟨_, ya2, yc2, hey, hya⟩ := Hy.out
      cases hey
      have Hxa := Lib.hid hxa
      clear hxa hya HXC HYC Hx
      have Hn := Lib.hid (show ((X.length : Int) + Y.length + 1) = ((X.length + Y.length + 1 : Nat) : Int) by omega)
      go_wp2_with (refine wpList_make1 rfl (t := 50) (e := 3) (n := X.length + Y.length + 1) (z := .int .i64 0) (bytes := 8) rfl (congrArg (Value.int .i64) Hn.out) (congrArg (Value.int .i64) Hn.out) Tryd.underlying50 info_i64 rfl (by omega) (by unfold maxLen; omega) ?_)
      intro w5 ho hf hsz
      obtain ⟨n, hn⟩ : ∃ n : Nat, X.length + Y.length + 1 = n := ⟨_, rfl⟩
      have hni : ((X.length : Int) + Y.length + 1) = n := by omega
      rw [hn] at ho
      rw [hn, hni]
      have hq4 : w.heap.size + 1 + 1 < w4.heap.size := lt_of_block Hc.out
      (try clear a0)
      (try clear a1)
      (try clear al)
      have ha_ := (hf.block _ (lt_of_block Ha.out) (by simp)).trans Ha.out
      clear Ha
      have a0 := heap_eq_cell ha_ 0
      have a1 := heap_eq_cell ha_ 1
      have al := lt_of_block ha_
      have Ha := Lib.hid ha_
      clear ha_
      (try clear b0)
      (try clear b1)
      (try clear bl)
      have hb_ := (hf.block _ (lt_of_block Hb.out) (by simp)).trans Hb.out
      clear Hb
      have b0 := heap_eq_cell hb_ 0
      have b1 := heap_eq_cell hb_ 1
      have bl := lt_of_block hb_
      have Hb := Lib.hid hb_
      clear hb_
      (try clear c0)
      (try clear c1)
      (try clear c0z)
      (try clear c1z)
      (try clear cl)
      have hc_ := (hf.block _ (lt_of_block Hc.out) (by simp)).trans Hc.out
      clear Hc
      have c0 := heap_eq_cell hc_ 0
      have c0z := heap_eq_frozen hc_ 0
      have c1 := heap_eq_cell hc_ 1
      have c1z := heap_eq_frozen hc_ 1
      have cl := lt_of_block hc_
      have Hc := Lib.hid hc_
      clear hc_
      have Hdy := Lib.hid (fun w1 (hf1 : Fr [w4.heap.size] w5 w1) i => rdigit_calls (Hy.out.keep (w' := w1) (fun x hx hl => (hf1.block x (Nat.lt_of_lt_of_le hl hf.size) (by simp; omega)).trans (hf.block x hl (by simp)))) (by omega) i)
      have Hxa : Hid (0 < X.length → ∃ g off, xa = some ⟨g, off, none⟩ ∧ g < w4.heap.size ∧ g < w5.heap.size ∧ ∀ j u, (i64s X)[j]? = some u → w5.cell? ⟨g, off + j, none⟩ = some u) := Lib.hid (fun h => by
        obtain ⟨g, off, rfl, h1, h2⟩ := Hxa.out h
        exact ⟨g, off, rfl, h1, Nat.lt_of_lt_of_le h1 hf.size, fun j u hj => (hf.cell (p := ⟨g, off + j, none⟩) h1 (by simp)).trans (h2 j u hj)⟩)
      have Hf := Lib.hid (Hf.out.trans0 hf)
      obtain ⟨q, hq⟩ : ∃ q, w4.heap.size = q := ⟨_, rfl⟩
      rw [hq] at ho
      rw [hq] at hq4 hsz Hdy Hxa ⊢
      have Ho := Lib.hid ho
      have HF5 := Lib.hid hsz
      have Hnn := Lib.hid hn
      have hn2 : n ≤ 1000 := by omega
      clear hf ho hq hni hsz hn Hy0
      go_wp2_with fail
      clear a0 a1 al b0 b1 bl c0 c1 c0z c1z cl
      go_loopw [9] (fun x9 wl => ∃ (i : Nat) (l : List Nat), x9 = .int .i64 i ∧ i ≤ X.length ∧ l.length = n ∧ Dig 256 l ∧ val 256 l = val 256 (X.take i) * Vb ∧ wl.ownsRow q 3 1 (.slice (some ⟨q, 0, none⟩) n n) n (i64s l) ∧ Fr [q] w5 wl) (fun x9 _ => X.length - (intOf x9).toNat)
      case atStart => exact ⟨0, List.replicate n 0, rfl, by omega, List.length_replicate, Dig.replicate (by omega) n, by simp [val, val_replicate], by rw [i64s_zero]; exact Ho.out, Fr.refl _ _⟩
      case round =>
        obtain ⟨i, l, rfl, hi, hl, hD, hv, ho, hf⟩ := hrel
        have HD := Lib.hid hD
        have Hl := Lib.hid hl
        have Hv := Lib.hid hv
        have Ho2 := Lib.hid ho
        have Hf2 := Lib.hid hf
        have hol := owns_lt ho rfl
        clear hD hl hv ho
        by_cases hin : i < X.length
        · obtain ⟨g1, o1, rfl, hg1, hg5, hc1⟩ := Hxa.out (by omega)
          have e2' := hc1 i _ (i64s_get hin)
          have hx : X.getD i 0 < 256 := HXD.out.getD (by omega) i
          have hbnd : val 256 (X.take i) * Vb + 256 ^ i * (X.getD i 0 * Vb) < 256 ^ (i + 1 + Y.length) := by
            have h1 : val 256 (X.take i) * Vb + 256 ^ i * (X.getD i 0 * Vb) = val 256 (X.take (i + 1)) * Vb := by
              rw [val_take_succ, Nat.add_mul, Nat.mul_assoc]
            rw [h1]
            refine mul_lt_pow ?_ (by rw [← HYV.out]; exact val_lt HYD.out)
            have h2 := val_lt (HXD.out.take (i + 1))
            rwa [List.length_take, Nat.min_eq_left (by omega)] at h2
          have Hbnd := Lib.hid hbnd
          have Hvt := Lib.hid (show val 256 (X.take (i + 1)) * Vb = val 256 (X.take i) * Vb + 256 ^ i * (X.getD i 0 * Vb) by rw [val_take_succ, Nat.add_mul, Nat.mul_assoc])
          have He2 := Lib.hid e2'
          clear hc1 hbnd e2' hf
          generalize X.getD i 0 = x at *
          go_wp2_with fail
          go_loopw [10, 11] (fun x10 x11 wl => ∃ (c k : Nat) (l : List Nat), x10 = .int .i64 c ∧ x11 = .int .i64 k ∧ k ≤ Y.length + 1 ∧ c ≤ 255 ∧ (k = Y.length + 1 → c = 0) ∧ l.length = n ∧ Dig 256 l ∧ val 256 l + 256 ^ (i + k) * c = val 256 (X.take i) * Vb + 256 ^ i * (x * val 256 (Y.take k)) ∧
            wl.ownsRow q 3 1 (.slice (some ⟨q, 0, none⟩) n n) n (i64s l) ∧ Fr [q] w5 wl) (fun _ x11 _ => Y.length + 1 - (intOf x11).toNat)
          case atStart => exact ⟨0, 0, l, rfl, rfl, by omega, by omega, by omega, Hl.out, HD.out, by rw [Hv.out]; simp [val], Ho2.out, Hf2.out⟩
          case round =>
            obtain ⟨c, k, l, rfl, rfl, hk, hc, hcz, hl, hD, hv, ho, hf⟩ := hrel
            have HD := Lib.hid hD
            have Hl := Lib.hid hl
            have Hv := Lib.hid hv
            have Ho2 := Lib.hid ho
            have Hf2 := Lib.hid hf
            have hol := owns_lt ho rfl
            have Hcz := Lib.hid hcz
            clear hD hl hv ho hcz
            by_cases hgo : k < Y.length ∨ 0 < c
            · have hkY : k ≤ Y.length := by
                rcases Nat.lt_or_ge Y.length k with h | h
                · have := Hcz.out (by omega); omega
                · exact h
              have hik : i + k < n := by have := Hnn.out; omega
              obtain ⟨g2, hg2⟩ : ∃ g2, decide ((k : Int) < Y.length) = g2 := ⟨_, rfl⟩
              obtain ⟨g3, hg3⟩ : ∃ g3, decide (0 < c) = g3 := ⟨_, rfl⟩
              have hg2' : decide (k < Y.length) = g2 := by rw [← hg2, decide_eq_decide]; omega
              have hb3 : g2 = true ∨ (g2 = false ∧ g3 = true) := by
                rcases Nat.lt_or_ge k Y.length with h | h
                · left; rw [← hg2']; exact decide_eq_true h
                · right; exact ⟨by rw [← hg2']; exact decide_eq_false (by omega), by rw [← hg3]; exact decide_eq_true (by omega)⟩
              have hgq : g1 ≠ q := by omega
              have e2 := (hf.cell (p := ⟨g1, o1 + i, none⟩) hg5 (by simpa using hgq)).trans He2.out
              have hg1r : g1 < wr.heap.size := by have := hf.size; omega
              have e1 := owns_cell Ho2.out rfl (i64s_get (l := l) (i := i + k) (by have := Hl.out; omega))
              have hfz := owns_frozen Ho2.out rfl (i + k)
              have ho9 : l.getD (i + k) 0 < 256 := HD.out.getD (by omega) _
              have hy : Y.getD k 0 < 256 := HYD.out.getD (by omega) k
              have Hyt := Lib.hid (val_take_succ 256 Y k)
              have Hdg := Lib.hid (fun w1 hf1 => Hdy.out w1 hf1 k)
              have Hset := Lib.hid (fun d => owns_set Ho2.out rfl (j := i + k) (by rw [i64s_length]; have := Hl.out; omega) (.int .i64 d))
              have Hs1 := Lib.hid (fun d => val_set (B := 256) d (show i + k < l.length by have := Hl.out; omega))
              have Hhy := Lib.hid (show Y.length ≤ k → Y.getD k 0 = 0 from fun h => by rw [List.getD_eq_getElem?_getD, List.getElem?_eq_none h]; rfl)
              have Hgo := Lib.hid hgo
              clear hgo hf
              generalize Y.getD k 0 = y at *
              generalize l.getD (i + k) 0 = o at *
              have hp : x * y ≤ 255 * 255 := Nat.mul_le_mul (by omega) (by omega)
              obtain ⟨p, hpp⟩ : ∃ p, x * y = p := ⟨_, rfl⟩
              have Ep : ((x : Int) * (y : Int)) = (p : Nat) := by rw [← Int.natCast_mul, hpp]
              rw [hpp] at hp
              obtain ⟨s, hs⟩ : ∃ s, s = p + o + c := ⟨_, rfl⟩
              have Es : ((o : Int) + p + c) = (s : Nat) := by omega
              have hsb : s ≤ 65535 := by omega
              have Eik : ((i : Int) + k) = ((i + k : Nat) : Int) := by omega
              have Hpp := Lib.hid hpp
              have Hs := Lib.hid hs
              obtain ⟨m, hm⟩ : ∃ m, i + k = m := ⟨_, rfl⟩
              rw [hm] at Eik e1 hfz hik Hset Hs1
              have Hm := Lib.hid hm
              clear hpp hs hm
              rcases hb3 with rfl | ⟨rfl, rfl⟩
              all_goals
                go_wp2_with fail
                refine wp_region_segs [([0, 1, 2, 3, 4, 5, 6, 7, 8, 9, 10, 11, 12], [5, 9]), ([13, 14, 15, 16, 17], [])] (by kernel_rfl) (by kernel_rfl) ?_
                (simp only [wpSegs, pick, Array.getD_eq_getD_getElem?, List.getElem?_toArray, List.getElem?_cons_succ, List.getElem?_cons_zero, Option.getD_some])
                go_wp2_with fail
                refine (Hdg.out _ (by have := Hf2.out; (repeat (first | exact Fr.refl _ _ | assumption | apply Fr.drewN | apply Fr.drew | apply Fr.alloc | refine Fr.setCell ?_ (Or.inr (by simp; try omega)) _)))).mono ?_
                rintro e w6 ⟨rfl, rfl⟩
                go_wp2
                refine Mid.intro ⟨⟨again_cell (T := 3) rfl rfl rfl Tryd.underlying3 rfl e1 rfl, again_cell (T := 3) rfl rfl rfl Tryd.underlying3 rfl e2 rfl, trivial⟩, ?_⟩
                go_wp2
                refine Mid.intro ⟨trivial, Strict.intro rfl ?_⟩
                go_wp2
                go_roundw
                case rel =>
                  have hmain : val 256 (l.set m (s % 256)) + 256 ^ (i + (k + 1)) * (s / 256) = val 256 (X.take i) * Vb + 256 ^ i * (x * val 256 (Y.take (k + 1))) := by
                    have h1 := Hs1.out (s % 256)
                    have h2 := Hv.out
                    rw [Hm.out] at h2
                    have h3 := mul_st h2 (show s = x * y + o + c by rw [Hpp.out]; exact Hs.out) h1
                    rw [show i + (k + 1) = m + 1 by have := Hm.out; omega, Nat.pow_succ, Hyt.out, ← rmul_r, h3, ← Hm.out, Nat.pow_add]
                  have E1 : ((s : Int) % 256) = ((s % 256 : Nat) : Int) := by omega
                  refine ⟨s / 256, k + 1, l.set m (s % 256), by go_num, by go_num, by omega, by omega, ?_, by rw [List.length_set]; exact Hl.out, HD.out.set (Nat.mod_lt _ (by omega)), ?_, ?_, ?_⟩
                  · intro h
                    have hb := Hbnd.out
                    have h2 := hmain
                    rw [show k + 1 = Y.length + 1 by omega, List.take_of_length_le (by omega : Y.length ≤ Y.length + 1), HYV.out] at h2
                    rw [← h2, show i + (Y.length + 1) = i + 1 + Y.length by omega] at hb
                    rcases Nat.eq_zero_or_pos (s / 256) with hz | hz
                    · exact hz
                    · have := Nat.le_mul_of_pos_right (256 ^ (i + 1 + Y.length)) hz
                      omega
                  · exact hmain
                  · rw [i64s_set]
                    first | exact owns_set (owns_of_block (w' := wr.drewN 1) Ho2.out (fun g _ => rfl)) rfl (j := m) (by rw [i64s_length]; have := Hl.out; omega) (.int .i64 (s % 256 : Nat)) | (rw [E1]; exact owns_set (owns_of_block (w' := wr.drewN 1) Ho2.out (fun g _ => rfl)) rfl (j := m) (by rw [i64s_length]; have := Hl.out; omega) (.int .i64 (s % 256 : Nat)))
                  · exact Fr.setCell (p := ⟨q, m, none⟩) (Hf2.out.drewN 1) (.inl (by simp)) _
                case measure => simp [intOf]; omega
            · have hc0 : c = 0 := by omega
              have hg2 : decide ((k : Int) < Y.length) = false := by rw [decide_eq_false_iff_not]; omega
              have hg2' : decide (k < Y.length) = false := by rw [decide_eq_false_iff_not]; omega
              have hv := Hv.out
              rw [hc0, Nat.mul_zero, Nat.add_zero, List.take_of_length_le (by omega : Y.length ≤ k), HYV.out, ← Hvt.out] at hv
              have Hv2 := Lib.hid hv
              subst hc0
              clear hv hgo hf
              go_wp2
              go_roundw
              case rel => exact ⟨i + 1, l, by go_num, by omega, Hl.out, HD.out, Hv2.out, Ho2.out, Hf2.out⟩
              case measure => simp [intOf]; omega
        · obtain rfl : i = X.length := by omega
          have hv := Hv.out
          rw [List.take_length, HXV.out] at hv
          have hA := (hf.block _ (lt_of_block Ha.out) (by simp; omega)).trans Ha.out
          have hB := (hf.block _ (lt_of_block Hb.out) (by simp; omega)).trans Hb.out
          have Hc := Lib.hid ((hf.block _ (lt_of_block Hc.out) (by simp; omega)).trans Hc.out)
          have a0 := heap_eq_cell hA 0
          have al := lt_of_block hA
          have b0 := heap_eq_cell hB 0
          have bl := lt_of_block hB
          have Hf9 := Lib.hid (Hf.out.trans hf (by simp; omega))
          have Hlen := Lib.hid (And.intro hn2 hq4)
          have hln := Hl.out
          have hbg := fun ng => big_calls (neg := ng) (w := wr) (ds := l) (a := some ⟨q, 0, none⟩) (c := n) (by have h := Reads.of_owns Ho2.out; rw [hln]; exact h) HD.out (by have := Hlen.out.1; omega) (by omega)
          rw [hln, hv] at hbg
          have Hbg := Lib.hid hbg
          clear hbg hv hA hB hf hln
          go_wp2_with fail
          have hbb : (!na == nb) = (na != nb) := by cases na <;> cases nb <;> rfl
          refine (Hbg.out (!na == nb)).mono ?_
          rintro e w6 ⟨ra, rc, hlo, rfl, hr, hf⟩
          rw [hbb, ← HS.out] at hlo hr
          rw [hbb, ← HS.out]
          (try clear c0)
          (try clear c1)
          (try clear c0z)
          (try clear c1z)
          (try clear cl)
          have hc_ := (hf.block _ (lt_of_block Hc.out) (by simp)).trans Hc.out
          clear Hc
          have c0 := heap_eq_cell hc_ 0
          have c0z := heap_eq_frozen hc_ 0
          have c1 := heap_eq_cell hc_ 1
          have c1z := heap_eq_frozen hc_ 1
          have cl := lt_of_block hc_
          have Hc := Lib.hid hc_
          clear hc_
          have Hf := Lib.hid (Hf9.out.trans0 hf)
          have Hlo := Lib.hid hlo
          have Hr := Lib.hid hr
          have Hs5 := Lib.hid (show w.heap.size + 1 + 1 < wr.heap.size by have := Hlen.out.2; omega)
          clear hlo hr hf
          obtain ⟨r1, r2, r3⟩ := r
          go_wp2
          (try simp only [Exit.inBlock, Exit.then])
          refine bodyPost_ret (big_result rfl (b := w.heap.size + 1 + 1) (x := .bool r1) (y := .slice ra r2.length rc) rfl ?_ rfl) rfl ⟨_, _, ⟨Hlo.out.1, fun g hg => (by have := Hlo.out.2 g hg; have := Hs5.out; omega)⟩, rfl, ?_, ?_⟩
          · have h := Hc.out
            (repeat (first | rw [if_pos (by omega)] | rw [if_neg (by omega)] | rw [hp_drew] | rw [hp_drewN] | rw [hp_alloc_size] | rw [hp_setCell_size] | rw [hp_alloc] | rw [hp_setCell] | rw [Option.map_some] | rw [upd_cells] | rw [List.set_cons_zero] | rw [List.set_cons_succ] | rfl))
            rw [h]
            (repeat (first | rw [if_pos (by omega)] | rw [if_neg (by omega)] | rw [hp_drew] | rw [hp_drewN] | rw [hp_alloc_size] | rw [hp_setCell_size] | rw [hp_alloc] | rw [hp_setCell] | rw [Option.map_some] | rw [upd_cells] | rw [List.set_cons_zero] | rw [List.set_cons_succ] | rfl))
          · refine Hr.out.keep fun x hx hl => ?_
            have := Hlo.out.2 x hx
            have := Hs5.out
            rw [setCell_else _ _ _ (by simp; omega), setCell_else _ _ _ (by simp; omega)]
          · exact (Hf.out.setCell (.inr (by simp; try omega)) _).setCell (.inr (by simp; try omega)) _
end Go.Proofs.YtbacamboknmppaaDoor
