/- The law package of big integers: alive. -/
import Derived.Test.YtbacamboknmppaaDoorLa
import Derived.Test.YtbacamboknmppaaDoorKk
import Derived.Test.YtbacamboknmppaaDoorJe
namespace Go.Proofs.YtbacamboknmppaaDoor
open Go Go.RowKit Go.Proofs.Rg Go.Proofs.Hp Go.Proofs.Bn
set_option linter.unusedVariables false
set_option linter.unusedSimpArgs false
theorem abs_calls {P : Program} {f : FuncId} {args : Array Value} {Q : Ending → World → Prop} {w : World} (F : World → Prop) (h : F w) (k : ∀ w, F w → Calls P f args w Q) : Calls P f args w Q := k w h
theorem Parse_ex (w : World) : Calls Tryd.prog 28 #[.string ⟨#[49, 56, 52, 52, 54, 55, 52, 52, 48, 55, 51, 55, 48, 57, 53, 53, 49, 54, 49, 54]⟩] w (BigPost w (w.heap.size ≤ ·) (false, [0, 0, 1], 0)) := by
  have h := Parse_calls (w := w) (s := ⟨#[49, 56, 52, 52, 54, 55, 52, 52, 48, 55, 51, 55, 48, 57, 53, 53, 49, 54, 49, 54]⟩) (by decide)
  rwa [show parseS (⟨#[49, 56, 52, 52, 54, 55, 52, 52, 48, 55, 51, 55, 48, 57, 53, 53, 49, 54, 49, 54]⟩ : ByteArray).data.toList = (false, [0, 0, 1], 0) from ex_parse] at h
theorem Parse_ex0 (w : World) : Calls Tryd.prog 28 #[.string ⟨#[45, 48]⟩] w (BigPost w (w.heap.size ≤ ·) (false, [], 15)) := by
  have h := Parse_calls (w := w) (s := ⟨#[45, 48]⟩) (by decide)
  rwa [show parseS (⟨#[45, 48]⟩ : ByteArray).data.toList = (false, [], 15) from ex_parse0] at h
set_option maxHeartbeats 8000000 in
set_option maxRecDepth 100000 in
theorem alive_calls (w : World) : Calls Tryd.prog 11 #[] w fun e w' => e = .returned (.bool true) ∧ Fr [] w w' := by
  go_enter Tryd.func11, Tryd.ntmps11
  go_wp2_with fail
  refine (From_calls (n := 1) (by omega) (by omega)).mono ?_
  rintro e w1 ⟨a1, c1, hlo, rfl, hr, hf⟩
  rw [ex_from1] at hr hlo ⊢
  have Hf := Lib.hid hf
  have Hr := Lib.hid hr
  have Hlo := Lib.hid hlo
  clear hf hr hlo
  go_wp2_with fail
  refine (Shift_calls (neg := false) (ds := [1]) (k := 64) Hr.out (dig1 1 (by omega)) (by decide) Hlo.out.1 (by omega) (by omega)).mono ?_
  rintro e w2 ⟨a2, c2, hlo, rfl, hr, hf⟩
  rw [ex_shift] at hr hlo ⊢
  have Hf := Lib.hid (Hf.out.trans0 hf)
  have HrA := Lib.hid hr
  have HcA := Lib.hid hlo.1
  clear hf hr hlo Hr Hlo
  go_wp2_with fail
  refine (Parse_ex _).mono ?_
  rintro e w3 ⟨a3, c3, hlo, rfl, hr, hf⟩
  have ha_ := (hf.block (w2.heap.size) (by first | (simp; done) | (simp; omega)) (by simp)).trans (show _ = some (.cells #[.bool false, .slice a2 3 c2] 24 (0, 0)) by (repeat (first | rw [if_pos (by omega)] | rw [if_neg (by omega)] | rw [hp_drew] | rw [hp_drewN] | rw [hp_alloc_size] | rw [hp_setCell_size] | rw [hp_alloc] | rw [hp_setCell] | rw [Option.map_some] | rw [upd_cells] | rw [List.set_cons_zero] | rw [List.set_cons_succ] | rfl)))
  have a0 := heap_eq_cell ha_ 0
  have a1 := heap_eq_cell ha_ 1
  have al := lt_of_block ha_
  have Ha := Lib.hid ha_
  clear ha_
  have hf23 : Fr [] w2 w3 := Fr.trans0 (by (repeat (first | exact Fr.refl _ _ | assumption | apply Fr.drewN | apply Fr.drew | apply Fr.alloc | refine Fr.setCell ?_ (Or.inr (by simp; try omega)) _))) hf
  have Hf := Lib.hid (Hf.out.trans0 hf23)
  have HrA := Lib.hid (HrA.out.fr hf23)
  have HrB := Lib.hid hr
  clear hf hr hlo hf23
  obtain ⟨bA, hbA⟩ : ∃ bA, w2.heap.size = bA := ⟨_, rfl⟩
  rw [hbA] at Ha a0 a1 al ⊢
  clear hbA
  go_wp2
  obtain ⟨bB, hbB⟩ : ∃ bB, w3.heap.size = bB := ⟨_, rfl⟩
  refine abs_world (fun W => W.heap[bA]? = some (.cells #[.bool false, .slice a2 3 c2] 24 (0, 0)) ∧ W.heap[bB]? = some (.cells #[.bool false, .slice a3 3 c3] 24 (0, 0)) ∧ Fr [] w3 W) ⟨?g1, ?g2, ?g3⟩ ?_
  case g1 =>
    have h := Ha.out
    (repeat (first | rw [if_pos (by omega)] | rw [if_neg (by omega)] | rw [hp_drew] | rw [hp_drewN] | rw [hp_alloc_size] | rw [hp_setCell_size] | rw [hp_alloc] | rw [hp_setCell] | rw [Option.map_some] | rw [upd_cells] | rw [List.set_cons_zero] | rw [List.set_cons_succ] | rfl))
    first | exact h | (rw [h])
  case g2 =>
    rw [← hbB]
    (repeat (first | rw [if_pos (by omega)] | rw [if_neg (by omega)] | rw [hp_drew] | rw [hp_drewN] | rw [hp_alloc_size] | rw [hp_setCell_size] | rw [hp_alloc] | rw [hp_setCell] | rw [Option.map_some] | rw [upd_cells] | rw [List.set_cons_zero] | rw [List.set_cons_succ] | rfl))
  case g3 => (repeat (first | exact Fr.refl _ _ | assumption | apply Fr.drewN | apply Fr.drew | apply Fr.alloc | refine Fr.setCell ?_ (Or.inr (by simp; try omega)) _))
  rintro w4 ⟨hA, hB, hf34⟩
  rw [hbB]
  clear hbB
  (try clear a0 a1 al)
  clear Ha
  have Hf := Lib.hid (Hf.out.trans0 hf34)
  have HrA := Lib.hid (HrA.out.fr hf34)
  have HrB := Lib.hid (HrB.out.fr hf34)
  have a0 := heap_eq_cell hA 0
  have a1 := heap_eq_cell hA 1
  have al := lt_of_block hA
  have Ha := Lib.hid hA
  have Hb := Lib.hid hB
  have n10 := World.new_ne w4 _ a0
  have n11 := World.new_ne w4 _ a1
  have HFm := Lib.hid (fun w1 => ex_fromm1 ▸ From_calls (w := w1) (n := -1) (by omega) (by omega))
  have HAd := Lib.hid (fun (w1 : World) (pa : Option Addr) (pc : Nat) (hr : Reads w1 (.slice pa 1 pc) 1 1 (u32s [1])) (hf1 : Fr [] w4 w1) => ex_add ▸ Add_calls (na := false) (nb := true) (da := [0, 0, 1]) (db := [1]) (HrA.out.fr hf1) hr ex_dig001 (dig1 1 (by omega)) (by decide) (by decide))
  clear hA hB hf34
  go_region_held3 (fun w' => w'.cell? ⟨bA, 0, none⟩ = some (.bool false) ∧ w'.cell? ⟨bA, 1, none⟩ = some (.slice a2 3 c2)) (first | go_keep | exact ⟨k20, k21⟩ | exact ⟨k30, k31⟩)
      (first | (go_at_call 12; refine (HFm.out _).mono ?_; rintro e w5 ⟨pa, pc, hlo5, rfl, hr5, hf0⟩; have h45 : Fr [] w4 w5 := Fr.trans0 (by (repeat (first | exact Fr.refl _ _ | assumption | apply Fr.drewN | apply Fr.drew | apply Fr.alloc | refine Fr.setCell ?_ (Or.inl (by simp)) _))) hf0; have k20 := (h45.cell (p := ⟨bA, 0, none⟩) al (by simp)).trans a0; have k21 := (h45.cell (p := ⟨bA, 1, none⟩) al (by simp)).trans a1; have n20 := World.new_ne w5 _ k20; have n21 := World.new_ne w5 _ k21; obtain ⟨c5, z5⟩ := frcell hf0; (try (have s2 : w4.heap.size < w5.heap.size := by have h := hf0.size; simp at h; omega))) | (go_at_call 25; refine (HAd.out _ _ _ (hr5.fr ?_) ?_).mono ?_; (· (repeat (first | exact Fr.refl _ _ | assumption | apply Fr.drewN | apply Fr.drew | apply Fr.alloc | refine Fr.setCell ?_ (Or.inl (by simp)) _))); (· refine Fr.trans0 h45 ?_; (repeat (first | exact Fr.refl _ _ | assumption | apply Fr.drewN | apply Fr.drew | apply Fr.alloc | refine Fr.setCell ?_ (Or.inl (by simp)) _))); rintro e w6 ⟨ra, rc, hlo6, rfl, hr6, hf6⟩; have h46 : Fr [] w4 w6 := Fr.trans0 (Fr.trans0 h45 (by (repeat (first | exact Fr.refl _ _ | assumption | apply Fr.drewN | apply Fr.drew | apply Fr.alloc | refine Fr.setCell ?_ (Or.inl (by simp)) _)) : Fr [] w5 _)) hf6; have k30 := (h46.cell (p := ⟨bA, 0, none⟩) al (by simp)).trans a0; have k31 := (h46.cell (p := ⟨bA, 1, none⟩) al (by simp)).trans a1; have n30 := World.new_ne w6 _ k30; have n31 := World.new_ne w6 _ k31; obtain ⟨c6, z6⟩ := frcell hf6; (try (have s3 : w5.heap.size < w6.heap.size := by have h := hf6.size; simp at h; omega)); (try (have s4 : w4.heap.size < w6.heap.size := by have h := hf6.size; simp at h; omega))))
  · have hC : Hid True := Lib.hid trivial
    have H46 := Lib.hid h46
    have Hr6 := Lib.hid hr6
    have Hlo6 := Lib.hid hlo6
    have Hsz := Lib.hid (And.intro h45.size hf6.size)
    have Hs45 := h45.size
    have Hs46 := h46.size
    clear h46 h45 hr6 hlo6 hf0 hf6 hr5 hlo5 n10 n11 n20 n21 n30 n31 k20 k21 a0 a1
    go_wp2_with fail
    obtain ⟨bC, hbC⟩ : ∃ bC, w6.heap.size = bC := ⟨_, rfl⟩
    refine abs_calls (fun W => W.heap[bA]? = some (.cells #[.bool false, .slice a2 3 c2] 24 (0, 0)) ∧ W.heap[bB]? = some (.cells #[.bool false, .slice a3 3 c3] 24 (0, 0)) ∧ W.heap[bC]? = some (.cells #[.bool false, .slice ra 2 rc] 24 (0, 0)) ∧ Reads W (.slice ra 2 rc) 2 1 (u32s [4294967295, 4294967295]) ∧ Fr [] w4 W) ?g9 ?_
    case g9 =>
      have hC1 := hC.out
      have h1 := (H46.out.block bA al (by simp)).trans Ha.out
      have h2 := (H46.out.block bB (lt_of_block Hb.out) (by simp)).trans Hb.out
      have al2 := lt_of_block Hb.out
      refine ⟨?_, ?_, ?_, ?_, ?_⟩
      · rw [← h1]; (repeat (first | rw [if_pos (by omega)] | rw [if_neg (by omega)] | rw [hp_drew] | rw [hp_drewN] | rw [hp_alloc_size] | rw [hp_setCell_size] | rw [hp_alloc] | rw [hp_setCell] | rw [Option.map_some] | rw [upd_cells] | rw [List.set_cons_zero] | rw [List.set_cons_succ] | rfl))
      · rw [← h2]; (repeat (first | rw [if_pos (by omega)] | rw [if_neg (by omega)] | rw [hp_drew] | rw [hp_drewN] | rw [hp_alloc_size] | rw [hp_setCell_size] | rw [hp_alloc] | rw [hp_setCell] | rw [Option.map_some] | rw [upd_cells] | rw [List.set_cons_zero] | rw [List.set_cons_succ] | rfl))
      · rw [← hbC]
        first
          | ((repeat (first | rw [if_pos (by omega)] | rw [if_neg (by omega)] | rw [hp_drew] | rw [hp_drewN] | rw [hp_alloc_size] | rw [hp_setCell_size] | rw [hp_alloc] | rw [hp_setCell] | rw [Option.map_some] | rw [upd_cells] | rw [List.set_cons_zero] | rw [List.set_cons_succ] | rfl)); done)
          | ((repeat (first | rw [if_pos (by omega)] | rw [if_neg (by omega)] | rw [hp_drew] | rw [hp_drewN] | rw [hp_alloc_size] | rw [hp_setCell_size] | rw [hp_alloc] | rw [hp_setCell] | rw [Option.map_some] | rw [upd_cells] | rw [List.set_cons_zero] | rw [List.set_cons_succ] | rfl)); rw [hC1]; (repeat (first | rw [if_pos (by omega)] | rw [if_neg (by omega)] | rw [hp_drew] | rw [hp_drewN] | rw [hp_alloc_size] | rw [hp_setCell_size] | rw [hp_alloc] | rw [hp_setCell] | rw [Option.map_some] | rw [upd_cells] | rw [List.set_cons_zero] | rw [List.set_cons_succ] | rfl)))
      · refine Hr6.out.keep fun x hx hl => ?_
        have hlx := Hlo6.out.2 x hx
        have hsz := Hsz.out
        (try simp at hlx)
        (try simp at hsz)
        repeat (first | rw [setCell_else _ _ _ (by simp; omega)] | rw [heap_alloc_else _ _ _ hl] | rw [heap_alloc_else _ _ _ (by simp; omega)])
      · have := H46.out
        repeat (first | exact this | refine Fr.alloc ?_ _ | refine Fr.setCell ?_ (.inr (by first | (simp; done) | (simp; omega))) _)
    rw [hbC]
    rintro W ⟨hA, hB, hCC, hrC, hf4⟩
    clear hbC hC H46 Hr6 Hlo6 Hsz Hs45 Hs46 c5 z5 c6 z6
    (try clear s2)
    (try clear s3)
    (try clear s4)
    clear Ha Hb
    have HrA := Lib.hid (HrA.out.fr hf4)
    have HrB := Lib.hid (HrB.out.fr hf4)
    have HrC := Lib.hid hrC
    have Hf := Lib.hid (Hf.out.trans0 hf4)
    have Ha := Lib.hid hA
    have Hb := Lib.hid hB
    have Hc := Lib.hid hCC
    clear hA hB hCC hrC hf4
    refine (From_calls (n := -7) (by omega) (by omega)).mono ?_
    rintro e w7 ⟨a7, c7, hlo, rfl, hr, hf⟩
    rw [ex_fromm7] at hr hlo ⊢
    have hfk : Fr [] W w7 := Fr.trans0 (by (repeat (first | exact Fr.refl _ _ | assumption | apply Fr.drewN | apply Fr.drew | apply Fr.alloc | refine Fr.setCell ?_ (Or.inr (by simp; try omega)) _))) hf
    (try clear a0)
    (try clear a1)
    (try clear al)
    have ha_ := (hfk.block _ (lt_of_block Ha.out) (by simp)).trans Ha.out
    clear Ha
    have a0 := heap_eq_cell ha_ 0
    have a1 := heap_eq_cell ha_ 1
    have al := lt_of_block ha_
    have Ha := Lib.hid ha_
    clear ha_
    (try clear b0)
    (try clear b1)
    (try clear bl)
    have hb_ := (hfk.block _ (lt_of_block Hb.out) (by simp)).trans Hb.out
    clear Hb
    have b0 := heap_eq_cell hb_ 0
    have b1 := heap_eq_cell hb_ 1
    have bl := lt_of_block hb_
    have Hb := Lib.hid hb_
    clear hb_
    (try clear c0)
    (try clear c1)
    (try clear cl)
    have hc_ := (hfk.block _ (lt_of_block Hc.out) (by simp)).trans Hc.out
    clear Hc
    have c0 := heap_eq_cell hc_ 0
    have c1 := heap_eq_cell hc_ 1
    have cl := lt_of_block hc_
    have Hc := Lib.hid hc_
    clear hc_
    have Hf := Lib.hid (Hf.out.trans0 hfk)
    have HrA := Lib.hid (HrA.out.fr hfk)
    have HrB := Lib.hid (HrB.out.fr hfk)
    have HrC := Lib.hid (HrC.out.fr hfk)
    clear hfk
    have Hr7 := Lib.hid hr
    clear hr hlo hf
    go_wp2_with fail
    refine (Div_calls (neg := true) (ds := [7]) (n := 2) Hr7.out (dig1 7 (by omega)) (by decide) (by omega) (by omega)).mono ?_
    rintro e w8 ⟨a8, c8, hlo, rfl, hr, hf⟩
    rw [ex_div] at hr hlo ⊢
    have hfk : Fr [] w7 w8 := Fr.trans0 (by (repeat (first | exact Fr.refl _ _ | assumption | apply Fr.drewN | apply Fr.drew | apply Fr.alloc | refine Fr.setCell ?_ (Or.inr (by simp; try omega)) _))) hf
    (try clear a0)
    (try clear a1)
    (try clear al)
    have ha_ := (hfk.block _ (lt_of_block Ha.out) (by simp)).trans Ha.out
    clear Ha
    have a0 := heap_eq_cell ha_ 0
    have a1 := heap_eq_cell ha_ 1
    have al := lt_of_block ha_
    have Ha := Lib.hid ha_
    clear ha_
    (try clear b0)
    (try clear b1)
    (try clear bl)
    have hb_ := (hfk.block _ (lt_of_block Hb.out) (by simp)).trans Hb.out
    clear Hb
    have b0 := heap_eq_cell hb_ 0
    have b1 := heap_eq_cell hb_ 1
    have bl := lt_of_block hb_
    have Hb := Lib.hid hb_
    clear hb_
    (try clear c0)
    (try clear c1)
    (try clear cl)
    have hc_ := (hfk.block _ (lt_of_block Hc.out) (by simp)).trans Hc.out
    clear Hc
    have c0 := heap_eq_cell hc_ 0
    have c1 := heap_eq_cell hc_ 1
    have cl := lt_of_block hc_
    have Hc := Lib.hid hc_
    clear hc_
    have Hf := Lib.hid (Hf.out.trans0 hfk)
    have HrA := Lib.hid (HrA.out.fr hfk)
    have HrB := Lib.hid (HrB.out.fr hfk)
    have HrC := Lib.hid (HrC.out.fr hfk)
    clear hfk
    have Hr8 := Lib.hid hr
    clear hr hlo hf Hr7
    go_wp2_with fail
    refine (Int_calls (neg := true) (ds := [4]) (Hr8.out.fr (by (repeat (first | exact Fr.refl _ _ | assumption | apply Fr.drewN | apply Fr.drew | apply Fr.alloc | refine Fr.setCell ?_ (Or.inr (by simp; try omega)) _)))) (dig1 4 (by omega)) (by decide)).mono ?_
    rintro e w9 ⟨rfl, hf⟩
    rw [ex_int]
    have hfk : Fr [] w8 w9 := Fr.trans0 (by (repeat (first | exact Fr.refl _ _ | assumption | apply Fr.drewN | apply Fr.drew | apply Fr.alloc | refine Fr.setCell ?_ (Or.inr (by simp; try omega)) _))) hf
    (try clear a0)
    (try clear a1)
    (try clear al)
    have ha_ := (hfk.block _ (lt_of_block Ha.out) (by simp)).trans Ha.out
    clear Ha
    have a0 := heap_eq_cell ha_ 0
    have a1 := heap_eq_cell ha_ 1
    have al := lt_of_block ha_
    have Ha := Lib.hid ha_
    clear ha_
    (try clear b0)
    (try clear b1)
    (try clear bl)
    have hb_ := (hfk.block _ (lt_of_block Hb.out) (by simp)).trans Hb.out
    clear Hb
    have b0 := heap_eq_cell hb_ 0
    have b1 := heap_eq_cell hb_ 1
    have bl := lt_of_block hb_
    have Hb := Lib.hid hb_
    clear hb_
    (try clear c0)
    (try clear c1)
    (try clear cl)
    have hc_ := (hfk.block _ (lt_of_block Hc.out) (by simp)).trans Hc.out
    clear Hc
    have c0 := heap_eq_cell hc_ 0
    have c1 := heap_eq_cell hc_ 1
    have cl := lt_of_block hc_
    have Hc := Lib.hid hc_
    clear hc_
    have Hf := Lib.hid (Hf.out.trans0 hfk)
    have HrA := Lib.hid (HrA.out.fr hfk)
    have HrB := Lib.hid (HrB.out.fr hfk)
    have HrC := Lib.hid (HrC.out.fr hfk)
    clear hfk
    clear hf Hr8
    go_wp2_with fail
    refine (Parse_ex0 _).mono ?_
    rintro e w10 ⟨a10, c10, hlo, rfl, hr, hf⟩
    have hfk : Fr [] w9 w10 := Fr.trans0 (by (repeat (first | exact Fr.refl _ _ | assumption | apply Fr.drewN | apply Fr.drew | apply Fr.alloc | refine Fr.setCell ?_ (Or.inr (by simp; try omega)) _))) hf
    (try clear a0)
    (try clear a1)
    (try clear al)
    have ha_ := (hfk.block _ (lt_of_block Ha.out) (by simp)).trans Ha.out
    clear Ha
    have a0 := heap_eq_cell ha_ 0
    have a1 := heap_eq_cell ha_ 1
    have al := lt_of_block ha_
    have Ha := Lib.hid ha_
    clear ha_
    (try clear b0)
    (try clear b1)
    (try clear bl)
    have hb_ := (hfk.block _ (lt_of_block Hb.out) (by simp)).trans Hb.out
    clear Hb
    have b0 := heap_eq_cell hb_ 0
    have b1 := heap_eq_cell hb_ 1
    have bl := lt_of_block hb_
    have Hb := Lib.hid hb_
    clear hb_
    (try clear c0)
    (try clear c1)
    (try clear cl)
    have hc_ := (hfk.block _ (lt_of_block Hc.out) (by simp)).trans Hc.out
    clear Hc
    have c0 := heap_eq_cell hc_ 0
    have c1 := heap_eq_cell hc_ 1
    have cl := lt_of_block hc_
    have Hc := Lib.hid hc_
    clear hc_
    have Hf := Lib.hid (Hf.out.trans0 hfk)
    have HrA := Lib.hid (HrA.out.fr hfk)
    have HrB := Lib.hid (HrB.out.fr hfk)
    have HrC := Lib.hid (HrC.out.fr hfk)
    clear hfk
    clear hr hlo hf
    go_wp2_with fail
    refine (Mul_calls (na := false) (nb := true) (da := [0, 0, 1]) (db := []) (HrA.out.fr (by (repeat (first | exact Fr.refl _ _ | assumption | apply Fr.drewN | apply Fr.drew | apply Fr.alloc | refine Fr.setCell ?_ (Or.inr (by simp; try omega)) _)))) (reads_nil _) ex_dig001 Dig.nil (by decide) (by decide)).mono ?_
    rintro e w11 ⟨a11, c11, hlo, rfl, hr, hf⟩
    rw [ex_mul] at hr hlo ⊢
    have hfk : Fr [] w10 w11 := Fr.trans0 (by (repeat (first | exact Fr.refl _ _ | assumption | apply Fr.drewN | apply Fr.drew | apply Fr.alloc | refine Fr.setCell ?_ (Or.inr (by simp; try omega)) _))) hf
    (try clear a0)
    (try clear a1)
    (try clear al)
    have ha_ := (hfk.block _ (lt_of_block Ha.out) (by simp)).trans Ha.out
    clear Ha
    have a0 := heap_eq_cell ha_ 0
    have a1 := heap_eq_cell ha_ 1
    have al := lt_of_block ha_
    have Ha := Lib.hid ha_
    clear ha_
    (try clear b0)
    (try clear b1)
    (try clear bl)
    have hb_ := (hfk.block _ (lt_of_block Hb.out) (by simp)).trans Hb.out
    clear Hb
    have b0 := heap_eq_cell hb_ 0
    have b1 := heap_eq_cell hb_ 1
    have bl := lt_of_block hb_
    have Hb := Lib.hid hb_
    clear hb_
    (try clear c0)
    (try clear c1)
    (try clear cl)
    have hc_ := (hfk.block _ (lt_of_block Hc.out) (by simp)).trans Hc.out
    clear Hc
    have c0 := heap_eq_cell hc_ 0
    have c1 := heap_eq_cell hc_ 1
    have cl := lt_of_block hc_
    have Hc := Lib.hid hc_
    clear hc_
    have Hf := Lib.hid (Hf.out.trans0 hfk)
    have HrA := Lib.hid (HrA.out.fr hfk)
    have HrB := Lib.hid (HrB.out.fr hfk)
    have HrC := Lib.hid (HrC.out.fr hfk)
    clear hfk
    clear hr hlo hf
    go_wp2_with fail
    refine (Same_calls (na := false) (nb := false) (da := [0, 0, 1]) (db := [0, 0, 1]) (HrA.out.fr (by (repeat (first | exact Fr.refl _ _ | assumption | apply Fr.drewN | apply Fr.drew | apply Fr.alloc | refine Fr.setCell ?_ (Or.inr (by simp; try omega)) _)))) (HrB.out.fr (by (repeat (first | exact Fr.refl _ _ | assumption | apply Fr.drewN | apply Fr.drew | apply Fr.alloc | refine Fr.setCell ?_ (Or.inr (by simp; try omega)) _)))) (by decide) (by decide)).mono ?_
    rintro e w12 ⟨rfl, hf⟩
    rw [show ((false == false) && decide (([0, 0, 1] : List Nat) = [0, 0, 1])) = true from rfl]
    have hfk : Fr [] w11 w12 := Fr.trans0 (by (repeat (first | exact Fr.refl _ _ | assumption | apply Fr.drewN | apply Fr.drew | apply Fr.alloc | refine Fr.setCell ?_ (Or.inr (by simp; try omega)) _))) hf
    (try clear a0)
    (try clear a1)
    (try clear al)
    have ha_ := (hfk.block _ (lt_of_block Ha.out) (by simp)).trans Ha.out
    clear Ha
    have a0 := heap_eq_cell ha_ 0
    have a1 := heap_eq_cell ha_ 1
    have al := lt_of_block ha_
    have Ha := Lib.hid ha_
    clear ha_
    (try clear b0)
    (try clear b1)
    (try clear bl)
    have hb_ := (hfk.block _ (lt_of_block Hb.out) (by simp)).trans Hb.out
    clear Hb
    have b0 := heap_eq_cell hb_ 0
    have b1 := heap_eq_cell hb_ 1
    have bl := lt_of_block hb_
    have Hb := Lib.hid hb_
    clear hb_
    (try clear c0)
    (try clear c1)
    (try clear cl)
    have hc_ := (hfk.block _ (lt_of_block Hc.out) (by simp)).trans Hc.out
    clear Hc
    have c0 := heap_eq_cell hc_ 0
    have c1 := heap_eq_cell hc_ 1
    have cl := lt_of_block hc_
    have Hc := Lib.hid hc_
    clear hc_
    have Hf := Lib.hid (Hf.out.trans0 hfk)
    have HrA := Lib.hid (HrA.out.fr hfk)
    have HrB := Lib.hid (HrB.out.fr hfk)
    have HrC := Lib.hid (HrC.out.fr hfk)
    clear hfk
    clear hf
    go_wp2_with fail
    refine (Text_calls (neg := false) (ds := [0, 0, 1]) HrA.out ex_dig001 (by decide)).mono ?_
    rintro e w13 ⟨rfl, hf⟩
    rw [ex_text, show strB [49, 56, 52, 52, 54, 55, 52, 52, 48, 55, 51, 55, 48, 57, 53, 53, 49, 54, 49, 54] = ⟨#[49, 56, 52, 52, 54, 55, 52, 52, 48, 55, 51, 55, 48, 57, 53, 53, 49, 54, 49, 54]⟩ from rfl]
    have hfk : Fr [] w12 w13 := Fr.trans0 (by (repeat (first | exact Fr.refl _ _ | assumption | apply Fr.drewN | apply Fr.drew | apply Fr.alloc | refine Fr.setCell ?_ (Or.inr (by simp; try omega)) _))) hf
    (try clear a0)
    (try clear a1)
    (try clear al)
    have ha_ := (hfk.block _ (lt_of_block Ha.out) (by simp)).trans Ha.out
    clear Ha
    have a0 := heap_eq_cell ha_ 0
    have a1 := heap_eq_cell ha_ 1
    have al := lt_of_block ha_
    have Ha := Lib.hid ha_
    clear ha_
    (try clear b0)
    (try clear b1)
    (try clear bl)
    have hb_ := (hfk.block _ (lt_of_block Hb.out) (by simp)).trans Hb.out
    clear Hb
    have b0 := heap_eq_cell hb_ 0
    have b1 := heap_eq_cell hb_ 1
    have bl := lt_of_block hb_
    have Hb := Lib.hid hb_
    clear hb_
    (try clear c0)
    (try clear c1)
    (try clear cl)
    have hc_ := (hfk.block _ (lt_of_block Hc.out) (by simp)).trans Hc.out
    clear Hc
    have c0 := heap_eq_cell hc_ 0
    have c1 := heap_eq_cell hc_ 1
    have cl := lt_of_block hc_
    have Hc := Lib.hid hc_
    clear hc_
    have Hf := Lib.hid (Hf.out.trans0 hfk)
    have HrA := Lib.hid (HrA.out.fr hfk)
    have HrB := Lib.hid (HrB.out.fr hfk)
    have HrC := Lib.hid (HrC.out.fr hfk)
    clear hfk
    clear hf
    go_wp2_with fail
    refine (Compare_calls (na := false) (nb := false) (da := [0, 0, 1]) (db := [4294967295, 4294967295]) HrA.out HrC.out ex_dig001 (fun y hy => by simp at hy; omega) (by decide) (by decide)).mono ?_
    rintro e w14 ⟨rfl, hf⟩
    rw [ex_cmp]
    have hfk : Fr [] w13 w14 := Fr.trans0 (by (repeat (first | exact Fr.refl _ _ | assumption | apply Fr.drewN | apply Fr.drew | apply Fr.alloc | refine Fr.setCell ?_ (Or.inr (by simp; try omega)) _))) hf
    (try clear a0)
    (try clear a1)
    (try clear al)
    have ha_ := (hfk.block _ (lt_of_block Ha.out) (by simp)).trans Ha.out
    clear Ha
    have a0 := heap_eq_cell ha_ 0
    have a1 := heap_eq_cell ha_ 1
    have al := lt_of_block ha_
    have Ha := Lib.hid ha_
    clear ha_
    (try clear b0)
    (try clear b1)
    (try clear bl)
    have hb_ := (hfk.block _ (lt_of_block Hb.out) (by simp)).trans Hb.out
    clear Hb
    have b0 := heap_eq_cell hb_ 0
    have b1 := heap_eq_cell hb_ 1
    have bl := lt_of_block hb_
    have Hb := Lib.hid hb_
    clear hb_
    (try clear c0)
    (try clear c1)
    (try clear cl)
    have hc_ := (hfk.block _ (lt_of_block Hc.out) (by simp)).trans Hc.out
    clear Hc
    have c0 := heap_eq_cell hc_ 0
    have c1 := heap_eq_cell hc_ 1
    have cl := lt_of_block hc_
    have Hc := Lib.hid hc_
    clear hc_
    have Hf := Lib.hid (Hf.out.trans0 hfk)
    have HrA := Lib.hid (HrA.out.fr hfk)
    have HrB := Lib.hid (HrB.out.fr hfk)
    have HrC := Lib.hid (HrC.out.fr hfk)
    clear hfk
    clear hf
    go_wp2_with fail
    refine (From_calls (n := -1) (by omega) (by omega)).mono ?_
    rintro e w15 ⟨a15, c15, hlo, rfl, hr, hf⟩
    rw [ex_fromm1] at hr hlo ⊢
    have hfk : Fr [] w14 w15 := Fr.trans0 (by (repeat (first | exact Fr.refl _ _ | assumption | apply Fr.drewN | apply Fr.drew | apply Fr.alloc | refine Fr.setCell ?_ (Or.inr (by simp; try omega)) _))) hf
    (try clear a0)
    (try clear a1)
    (try clear al)
    have ha_ := (hfk.block _ (lt_of_block Ha.out) (by simp)).trans Ha.out
    clear Ha
    have a0 := heap_eq_cell ha_ 0
    have a1 := heap_eq_cell ha_ 1
    have al := lt_of_block ha_
    have Ha := Lib.hid ha_
    clear ha_
    (try clear b0)
    (try clear b1)
    (try clear bl)
    have hb_ := (hfk.block _ (lt_of_block Hb.out) (by simp)).trans Hb.out
    clear Hb
    have b0 := heap_eq_cell hb_ 0
    have b1 := heap_eq_cell hb_ 1
    have bl := lt_of_block hb_
    have Hb := Lib.hid hb_
    clear hb_
    (try clear c0)
    (try clear c1)
    (try clear cl)
    have hc_ := (hfk.block _ (lt_of_block Hc.out) (by simp)).trans Hc.out
    clear Hc
    have c0 := heap_eq_cell hc_ 0
    have c1 := heap_eq_cell hc_ 1
    have cl := lt_of_block hc_
    have Hc := Lib.hid hc_
    clear hc_
    have Hf := Lib.hid (Hf.out.trans0 hfk)
    have HrA := Lib.hid (HrA.out.fr hfk)
    have HrB := Lib.hid (HrB.out.fr hfk)
    have HrC := Lib.hid (HrC.out.fr hfk)
    clear hfk
    have Hr15 := Lib.hid hr
    have Hc15 := Lib.hid hlo.1
    clear hr hlo hf
    go_wp2_with fail
    refine (Bit_calls (neg := true) (ds := [1]) (k := 1000) Hr15.out (dig1 1 (by omega)) (by decide) Hc15.out (by omega) (by omega)).mono ?_
    rintro e w16 ⟨rfl, hf⟩
    rw [ex_bit]
    have hfk : Fr [] w15 w16 := Fr.trans0 (by (repeat (first | exact Fr.refl _ _ | assumption | apply Fr.drewN | apply Fr.drew | apply Fr.alloc | refine Fr.setCell ?_ (Or.inr (by simp; try omega)) _))) hf
    (try clear a0)
    (try clear a1)
    (try clear al)
    have ha_ := (hfk.block _ (lt_of_block Ha.out) (by simp)).trans Ha.out
    clear Ha
    have a0 := heap_eq_cell ha_ 0
    have a1 := heap_eq_cell ha_ 1
    have al := lt_of_block ha_
    have Ha := Lib.hid ha_
    clear ha_
    (try clear b0)
    (try clear b1)
    (try clear bl)
    have hb_ := (hfk.block _ (lt_of_block Hb.out) (by simp)).trans Hb.out
    clear Hb
    have b0 := heap_eq_cell hb_ 0
    have b1 := heap_eq_cell hb_ 1
    have bl := lt_of_block hb_
    have Hb := Lib.hid hb_
    clear hb_
    (try clear c0)
    (try clear c1)
    (try clear cl)
    have hc_ := (hfk.block _ (lt_of_block Hc.out) (by simp)).trans Hc.out
    clear Hc
    have c0 := heap_eq_cell hc_ 0
    have c1 := heap_eq_cell hc_ 1
    have cl := lt_of_block hc_
    have Hc := Lib.hid hc_
    clear hc_
    have Hf := Lib.hid (Hf.out.trans0 hfk)
    have HrA := Lib.hid (HrA.out.fr hfk)
    have HrB := Lib.hid (HrB.out.fr hfk)
    have HrC := Lib.hid (HrC.out.fr hfk)
    clear hfk
    clear hf Hr15 Hc15
    go_wp2_with fail
    refine (Right_calls (neg := false) (ds := [0, 0, 1]) HrA.out (by decide)).mono ?_
    rintro e w17 ⟨rfl, hf⟩
    rw [show RightB false [0, 0, 1] = true from rfl]
    have hfk : Fr [] w16 w17 := Fr.trans0 (by (repeat (first | exact Fr.refl _ _ | assumption | apply Fr.drewN | apply Fr.drew | apply Fr.alloc | refine Fr.setCell ?_ (Or.inr (by simp; try omega)) _))) hf
    (try clear a0)
    (try clear a1)
    (try clear al)
    have ha_ := (hfk.block _ (lt_of_block Ha.out) (by simp)).trans Ha.out
    clear Ha
    have a0 := heap_eq_cell ha_ 0
    have a1 := heap_eq_cell ha_ 1
    have al := lt_of_block ha_
    have Ha := Lib.hid ha_
    clear ha_
    (try clear b0)
    (try clear b1)
    (try clear bl)
    have hb_ := (hfk.block _ (lt_of_block Hb.out) (by simp)).trans Hb.out
    clear Hb
    have b0 := heap_eq_cell hb_ 0
    have b1 := heap_eq_cell hb_ 1
    have bl := lt_of_block hb_
    have Hb := Lib.hid hb_
    clear hb_
    (try clear c0)
    (try clear c1)
    (try clear cl)
    have hc_ := (hfk.block _ (lt_of_block Hc.out) (by simp)).trans Hc.out
    clear Hc
    have c0 := heap_eq_cell hc_ 0
    have c1 := heap_eq_cell hc_ 1
    have cl := lt_of_block hc_
    have Hc := Lib.hid hc_
    clear hc_
    have Hf := Lib.hid (Hf.out.trans0 hfk)
    have HrA := Lib.hid (HrA.out.fr hfk)
    have HrB := Lib.hid (HrB.out.fr hfk)
    have HrC := Lib.hid (HrC.out.fr hfk)
    clear hfk
    clear hf
    go_wp2_with fail
    refine (Right_calls (neg := false) (ds := [0]) (reads_blk (cs := u32s [0]) (by (repeat (first | rw [if_pos (by omega)] | rw [if_neg (by omega)] | rw [hp_drew] | rw [hp_drewN] | rw [hp_alloc_size] | rw [hp_setCell_size] | rw [hp_alloc] | rw [hp_setCell] | rw [Option.map_some] | rw [upd_cells] | rw [List.set_cons_zero] | rw [List.set_cons_succ] | rfl))) rfl) (by decide)).mono ?_
    rintro e w18 ⟨rfl, hf⟩
    rw [show RightB false [0] = false from rfl]
    have Hf := Lib.hid (Hf.out.trans0 (Fr.trans0 (by (repeat (first | exact Fr.refl _ _ | assumption | apply Fr.drewN | apply Fr.drew | apply Fr.alloc | refine Fr.setCell ?_ (Or.inr (by simp; try omega)) _)) : Fr [] w17 _) hf))
    clear hf
    go_wp2
    go_ret
    exact ⟨rfl, Hf.out⟩
  · have hblk : w6.heap[w5.heap.size]? = some (.cells #[.bool false, .slice none 0 0] 24 (0, 0)) := (hf6.block w5.heap.size (by simp) (by simp)).trans (by (repeat (first | rw [if_pos (by omega)] | rw [if_neg (by omega)] | rw [hp_drew] | rw [hp_drewN] | rw [hp_alloc_size] | rw [hp_setCell_size] | rw [hp_alloc] | rw [hp_setCell] | rw [Option.map_some] | rw [upd_cells] | rw [List.set_cons_zero] | rw [List.set_cons_succ] | rfl)))
    have hC := Lib.hid hblk
    clear hblk
    have H46 := Lib.hid h46
    have Hr6 := Lib.hid hr6
    have Hlo6 := Lib.hid hlo6
    have Hsz := Lib.hid (And.intro h45.size hf6.size)
    have Hs45 := h45.size
    have Hs46 := h46.size
    clear h46 h45 hr6 hlo6 hf0 hf6 hr5 hlo5 n10 n11 n20 n21 n30 n31 k20 k21 a0 a1
    go_wp2_with fail
    obtain ⟨bC, hbC⟩ : ∃ bC, w5.heap.size = bC := ⟨_, rfl⟩
    refine abs_calls (fun W => W.heap[bA]? = some (.cells #[.bool false, .slice a2 3 c2] 24 (0, 0)) ∧ W.heap[bB]? = some (.cells #[.bool false, .slice a3 3 c3] 24 (0, 0)) ∧ W.heap[bC]? = some (.cells #[.bool false, .slice ra 2 rc] 24 (0, 0)) ∧ Reads W (.slice ra 2 rc) 2 1 (u32s [4294967295, 4294967295]) ∧ Fr [] w4 W) ?g9 ?_
    case g9 =>
      have hC1 := hC.out
      have h1 := (H46.out.block bA al (by simp)).trans Ha.out
      have h2 := (H46.out.block bB (lt_of_block Hb.out) (by simp)).trans Hb.out
      have al2 := lt_of_block Hb.out
      refine ⟨?_, ?_, ?_, ?_, ?_⟩
      · rw [← h1]; (repeat (first | rw [if_pos (by omega)] | rw [if_neg (by omega)] | rw [hp_drew] | rw [hp_drewN] | rw [hp_alloc_size] | rw [hp_setCell_size] | rw [hp_alloc] | rw [hp_setCell] | rw [Option.map_some] | rw [upd_cells] | rw [List.set_cons_zero] | rw [List.set_cons_succ] | rfl))
      · rw [← h2]; (repeat (first | rw [if_pos (by omega)] | rw [if_neg (by omega)] | rw [hp_drew] | rw [hp_drewN] | rw [hp_alloc_size] | rw [hp_setCell_size] | rw [hp_alloc] | rw [hp_setCell] | rw [Option.map_some] | rw [upd_cells] | rw [List.set_cons_zero] | rw [List.set_cons_succ] | rfl))
      · rw [← hbC]
        first
          | ((repeat (first | rw [if_pos (by omega)] | rw [if_neg (by omega)] | rw [hp_drew] | rw [hp_drewN] | rw [hp_alloc_size] | rw [hp_setCell_size] | rw [hp_alloc] | rw [hp_setCell] | rw [Option.map_some] | rw [upd_cells] | rw [List.set_cons_zero] | rw [List.set_cons_succ] | rfl)); done)
          | ((repeat (first | rw [if_pos (by omega)] | rw [if_neg (by omega)] | rw [hp_drew] | rw [hp_drewN] | rw [hp_alloc_size] | rw [hp_setCell_size] | rw [hp_alloc] | rw [hp_setCell] | rw [Option.map_some] | rw [upd_cells] | rw [List.set_cons_zero] | rw [List.set_cons_succ] | rfl)); rw [hC1]; (repeat (first | rw [if_pos (by omega)] | rw [if_neg (by omega)] | rw [hp_drew] | rw [hp_drewN] | rw [hp_alloc_size] | rw [hp_setCell_size] | rw [hp_alloc] | rw [hp_setCell] | rw [Option.map_some] | rw [upd_cells] | rw [List.set_cons_zero] | rw [List.set_cons_succ] | rfl)))
      · refine Hr6.out.keep fun x hx hl => ?_
        have hlx := Hlo6.out.2 x hx
        have hsz := Hsz.out
        (try simp at hlx)
        (try simp at hsz)
        repeat (first | rw [setCell_else _ _ _ (by simp; omega)] | rw [heap_alloc_else _ _ _ hl] | rw [heap_alloc_else _ _ _ (by simp; omega)])
      · have := H46.out
        repeat (first | exact this | refine Fr.alloc ?_ _ | refine Fr.setCell ?_ (.inr (by first | (simp; done) | (simp; omega))) _)
    rw [hbC]
    rintro W ⟨hA, hB, hCC, hrC, hf4⟩
    clear hbC hC H46 Hr6 Hlo6 Hsz Hs45 Hs46 c5 z5 c6 z6
    (try clear s2)
    (try clear s3)
    (try clear s4)
    clear Ha Hb
    have HrA := Lib.hid (HrA.out.fr hf4)
    have HrB := Lib.hid (HrB.out.fr hf4)
    have HrC := Lib.hid hrC
    have Hf := Lib.hid (Hf.out.trans0 hf4)
    have Ha := Lib.hid hA
    have Hb := Lib.hid hB
    have Hc := Lib.hid hCC
    clear hA hB hCC hrC hf4
    refine (From_calls (n := -7) (by omega) (by omega)).mono ?_
    rintro e w7 ⟨a7, c7, hlo, rfl, hr, hf⟩
    rw [ex_fromm7] at hr hlo ⊢
    have hfk : Fr [] W w7 := Fr.trans0 (by (repeat (first | exact Fr.refl _ _ | assumption | apply Fr.drewN | apply Fr.drew | apply Fr.alloc | refine Fr.setCell ?_ (Or.inr (by simp; try omega)) _))) hf
    (try clear a0)
    (try clear a1)
    (try clear al)
    have ha_ := (hfk.block _ (lt_of_block Ha.out) (by simp)).trans Ha.out
    clear Ha
    have a0 := heap_eq_cell ha_ 0
    have a1 := heap_eq_cell ha_ 1
    have al := lt_of_block ha_
    have Ha := Lib.hid ha_
    clear ha_
    (try clear b0)
    (try clear b1)
    (try clear bl)
    have hb_ := (hfk.block _ (lt_of_block Hb.out) (by simp)).trans Hb.out
    clear Hb
    have b0 := heap_eq_cell hb_ 0
    have b1 := heap_eq_cell hb_ 1
    have bl := lt_of_block hb_
    have Hb := Lib.hid hb_
    clear hb_
    (try clear c0)
    (try clear c1)
    (try clear cl)
    have hc_ := (hfk.block _ (lt_of_block Hc.out) (by simp)).trans Hc.out
    clear Hc
    have c0 := heap_eq_cell hc_ 0
    have c1 := heap_eq_cell hc_ 1
    have cl := lt_of_block hc_
    have Hc := Lib.hid hc_
    clear hc_
    have Hf := Lib.hid (Hf.out.trans0 hfk)
    have HrA := Lib.hid (HrA.out.fr hfk)
    have HrB := Lib.hid (HrB.out.fr hfk)
    have HrC := Lib.hid (HrC.out.fr hfk)
    clear hfk
    have Hr7 := Lib.hid hr
    clear hr hlo hf
    go_wp2_with fail
    refine (Div_calls (neg := true) (ds := [7]) (n := 2) Hr7.out (dig1 7 (by omega)) (by decide) (by omega) (by omega)).mono ?_
    rintro e w8 ⟨a8, c8, hlo, rfl, hr, hf⟩
    rw [ex_div] at hr hlo ⊢
    have hfk : Fr [] w7 w8 := Fr.trans0 (by (repeat (first | exact Fr.refl _ _ | assumption | apply Fr.drewN | apply Fr.drew | apply Fr.alloc | refine Fr.setCell ?_ (Or.inr (by simp; try omega)) _))) hf
    (try clear a0)
    (try clear a1)
    (try clear al)
    have ha_ := (hfk.block _ (lt_of_block Ha.out) (by simp)).trans Ha.out
    clear Ha
    have a0 := heap_eq_cell ha_ 0
    have a1 := heap_eq_cell ha_ 1
    have al := lt_of_block ha_
    have Ha := Lib.hid ha_
    clear ha_
    (try clear b0)
    (try clear b1)
    (try clear bl)
    have hb_ := (hfk.block _ (lt_of_block Hb.out) (by simp)).trans Hb.out
    clear Hb
    have b0 := heap_eq_cell hb_ 0
    have b1 := heap_eq_cell hb_ 1
    have bl := lt_of_block hb_
    have Hb := Lib.hid hb_
    clear hb_
    (try clear c0)
    (try clear c1)
    (try clear cl)
    have hc_ := (hfk.block _ (lt_of_block Hc.out) (by simp)).trans Hc.out
    clear Hc
    have c0 := heap_eq_cell hc_ 0
    have c1 := heap_eq_cell hc_ 1
    have cl := lt_of_block hc_
    have Hc := Lib.hid hc_
    clear hc_
    have Hf := Lib.hid (Hf.out.trans0 hfk)
    have HrA := Lib.hid (HrA.out.fr hfk)
    have HrB := Lib.hid (HrB.out.fr hfk)
    have HrC := Lib.hid (HrC.out.fr hfk)
    clear hfk
    have Hr8 := Lib.hid hr
    clear hr hlo hf Hr7
    go_wp2_with fail
    refine (Int_calls (neg := true) (ds := [4]) (Hr8.out.fr (by (repeat (first | exact Fr.refl _ _ | assumption | apply Fr.drewN | apply Fr.drew | apply Fr.alloc | refine Fr.setCell ?_ (Or.inr (by simp; try omega)) _)))) (dig1 4 (by omega)) (by decide)).mono ?_
    rintro e w9 ⟨rfl, hf⟩
    rw [ex_int]
    have hfk : Fr [] w8 w9 := Fr.trans0 (by (repeat (first | exact Fr.refl _ _ | assumption | apply Fr.drewN | apply Fr.drew | apply Fr.alloc | refine Fr.setCell ?_ (Or.inr (by simp; try omega)) _))) hf
    (try clear a0)
    (try clear a1)
    (try clear al)
    have ha_ := (hfk.block _ (lt_of_block Ha.out) (by simp)).trans Ha.out
    clear Ha
    have a0 := heap_eq_cell ha_ 0
    have a1 := heap_eq_cell ha_ 1
    have al := lt_of_block ha_
    have Ha := Lib.hid ha_
    clear ha_
    (try clear b0)
    (try clear b1)
    (try clear bl)
    have hb_ := (hfk.block _ (lt_of_block Hb.out) (by simp)).trans Hb.out
    clear Hb
    have b0 := heap_eq_cell hb_ 0
    have b1 := heap_eq_cell hb_ 1
    have bl := lt_of_block hb_
    have Hb := Lib.hid hb_
    clear hb_
    (try clear c0)
    (try clear c1)
    (try clear cl)
    have hc_ := (hfk.block _ (lt_of_block Hc.out) (by simp)).trans Hc.out
    clear Hc
    have c0 := heap_eq_cell hc_ 0
    have c1 := heap_eq_cell hc_ 1
    have cl := lt_of_block hc_
    have Hc := Lib.hid hc_
    clear hc_
    have Hf := Lib.hid (Hf.out.trans0 hfk)
    have HrA := Lib.hid (HrA.out.fr hfk)
    have HrB := Lib.hid (HrB.out.fr hfk)
    have HrC := Lib.hid (HrC.out.fr hfk)
    clear hfk
    clear hf Hr8
    go_wp2_with fail
    refine (Parse_ex0 _).mono ?_
    rintro e w10 ⟨a10, c10, hlo, rfl, hr, hf⟩
    have hfk : Fr [] w9 w10 := Fr.trans0 (by (repeat (first | exact Fr.refl _ _ | assumption | apply Fr.drewN | apply Fr.drew | apply Fr.alloc | refine Fr.setCell ?_ (Or.inr (by simp; try omega)) _))) hf
    (try clear a0)
    (try clear a1)
    (try clear al)
    have ha_ := (hfk.block _ (lt_of_block Ha.out) (by simp)).trans Ha.out
    clear Ha
    have a0 := heap_eq_cell ha_ 0
    have a1 := heap_eq_cell ha_ 1
    have al := lt_of_block ha_
    have Ha := Lib.hid ha_
    clear ha_
    (try clear b0)
    (try clear b1)
    (try clear bl)
    have hb_ := (hfk.block _ (lt_of_block Hb.out) (by simp)).trans Hb.out
    clear Hb
    have b0 := heap_eq_cell hb_ 0
    have b1 := heap_eq_cell hb_ 1
    have bl := lt_of_block hb_
    have Hb := Lib.hid hb_
    clear hb_
    (try clear c0)
    (try clear c1)
    (try clear cl)
    have hc_ := (hfk.block _ (lt_of_block Hc.out) (by simp)).trans Hc.out
    clear Hc
    have c0 := heap_eq_cell hc_ 0
    have c1 := heap_eq_cell hc_ 1
    have cl := lt_of_block hc_
    have Hc := Lib.hid hc_
    clear hc_
    have Hf := Lib.hid (Hf.out.trans0 hfk)
    have HrA := Lib.hid (HrA.out.fr hfk)
    have HrB := Lib.hid (HrB.out.fr hfk)
    have HrC := Lib.hid (HrC.out.fr hfk)
    clear hfk
    clear hr hlo hf
    go_wp2_with fail
    refine (Mul_calls (na := false) (nb := true) (da := [0, 0, 1]) (db := []) (HrA.out.fr (by (repeat (first | exact Fr.refl _ _ | assumption | apply Fr.drewN | apply Fr.drew | apply Fr.alloc | refine Fr.setCell ?_ (Or.inr (by simp; try omega)) _)))) (reads_nil _) ex_dig001 Dig.nil (by decide) (by decide)).mono ?_
    rintro e w11 ⟨a11, c11, hlo, rfl, hr, hf⟩
    rw [ex_mul] at hr hlo ⊢
    have hfk : Fr [] w10 w11 := Fr.trans0 (by (repeat (first | exact Fr.refl _ _ | assumption | apply Fr.drewN | apply Fr.drew | apply Fr.alloc | refine Fr.setCell ?_ (Or.inr (by simp; try omega)) _))) hf
    (try clear a0)
    (try clear a1)
    (try clear al)
    have ha_ := (hfk.block _ (lt_of_block Ha.out) (by simp)).trans Ha.out
    clear Ha
    have a0 := heap_eq_cell ha_ 0
    have a1 := heap_eq_cell ha_ 1
    have al := lt_of_block ha_
    have Ha := Lib.hid ha_
    clear ha_
    (try clear b0)
    (try clear b1)
    (try clear bl)
    have hb_ := (hfk.block _ (lt_of_block Hb.out) (by simp)).trans Hb.out
    clear Hb
    have b0 := heap_eq_cell hb_ 0
    have b1 := heap_eq_cell hb_ 1
    have bl := lt_of_block hb_
    have Hb := Lib.hid hb_
    clear hb_
    (try clear c0)
    (try clear c1)
    (try clear cl)
    have hc_ := (hfk.block _ (lt_of_block Hc.out) (by simp)).trans Hc.out
    clear Hc
    have c0 := heap_eq_cell hc_ 0
    have c1 := heap_eq_cell hc_ 1
    have cl := lt_of_block hc_
    have Hc := Lib.hid hc_
    clear hc_
    have Hf := Lib.hid (Hf.out.trans0 hfk)
    have HrA := Lib.hid (HrA.out.fr hfk)
    have HrB := Lib.hid (HrB.out.fr hfk)
    have HrC := Lib.hid (HrC.out.fr hfk)
    clear hfk
    clear hr hlo hf
    go_wp2_with fail
    refine (Same_calls (na := false) (nb := false) (da := [0, 0, 1]) (db := [0, 0, 1]) (HrA.out.fr (by (repeat (first | exact Fr.refl _ _ | assumption | apply Fr.drewN | apply Fr.drew | apply Fr.alloc | refine Fr.setCell ?_ (Or.inr (by simp; try omega)) _)))) (HrB.out.fr (by (repeat (first | exact Fr.refl _ _ | assumption | apply Fr.drewN | apply Fr.drew | apply Fr.alloc | refine Fr.setCell ?_ (Or.inr (by simp; try omega)) _)))) (by decide) (by decide)).mono ?_
    rintro e w12 ⟨rfl, hf⟩
    rw [show ((false == false) && decide (([0, 0, 1] : List Nat) = [0, 0, 1])) = true from rfl]
    have hfk : Fr [] w11 w12 := Fr.trans0 (by (repeat (first | exact Fr.refl _ _ | assumption | apply Fr.drewN | apply Fr.drew | apply Fr.alloc | refine Fr.setCell ?_ (Or.inr (by simp; try omega)) _))) hf
    (try clear a0)
    (try clear a1)
    (try clear al)
    have ha_ := (hfk.block _ (lt_of_block Ha.out) (by simp)).trans Ha.out
    clear Ha
    have a0 := heap_eq_cell ha_ 0
    have a1 := heap_eq_cell ha_ 1
    have al := lt_of_block ha_
    have Ha := Lib.hid ha_
    clear ha_
    (try clear b0)
    (try clear b1)
    (try clear bl)
    have hb_ := (hfk.block _ (lt_of_block Hb.out) (by simp)).trans Hb.out
    clear Hb
    have b0 := heap_eq_cell hb_ 0
    have b1 := heap_eq_cell hb_ 1
    have bl := lt_of_block hb_
    have Hb := Lib.hid hb_
    clear hb_
    (try clear c0)
    (try clear c1)
    (try clear cl)
    have hc_ := (hfk.block _ (lt_of_block Hc.out) (by simp)).trans Hc.out
    clear Hc
    have c0 := heap_eq_cell hc_ 0
    have c1 := heap_eq_cell hc_ 1
    have cl := lt_of_block hc_
    have Hc := Lib.hid hc_
    clear hc_
    have Hf := Lib.hid (Hf.out.trans0 hfk)
    have HrA := Lib.hid (HrA.out.fr hfk)
    have HrB := Lib.hid (HrB.out.fr hfk)
    have HrC := Lib.hid (HrC.out.fr hfk)
    clear hfk
    clear hf
    go_wp2_with fail
    refine (Text_calls (neg := false) (ds := [0, 0, 1]) HrA.out ex_dig001 (by decide)).mono ?_
    rintro e w13 ⟨rfl, hf⟩
    rw [ex_text, show strB [49, 56, 52, 52, 54, 55, 52, 52, 48, 55, 51, 55, 48, 57, 53, 53, 49, 54, 49, 54] = ⟨#[49, 56, 52, 52, 54, 55, 52, 52, 48, 55, 51, 55, 48, 57, 53, 53, 49, 54, 49, 54]⟩ from rfl]
    have hfk : Fr [] w12 w13 := Fr.trans0 (by (repeat (first | exact Fr.refl _ _ | assumption | apply Fr.drewN | apply Fr.drew | apply Fr.alloc | refine Fr.setCell ?_ (Or.inr (by simp; try omega)) _))) hf
    (try clear a0)
    (try clear a1)
    (try clear al)
    have ha_ := (hfk.block _ (lt_of_block Ha.out) (by simp)).trans Ha.out
    clear Ha
    have a0 := heap_eq_cell ha_ 0
    have a1 := heap_eq_cell ha_ 1
    have al := lt_of_block ha_
    have Ha := Lib.hid ha_
    clear ha_
    (try clear b0)
    (try clear b1)
    (try clear bl)
    have hb_ := (hfk.block _ (lt_of_block Hb.out) (by simp)).trans Hb.out
    clear Hb
    have b0 := heap_eq_cell hb_ 0
    have b1 := heap_eq_cell hb_ 1
    have bl := lt_of_block hb_
    have Hb := Lib.hid hb_
    clear hb_
    (try clear c0)
    (try clear c1)
    (try clear cl)
    have hc_ := (hfk.block _ (lt_of_block Hc.out) (by simp)).trans Hc.out
    clear Hc
    have c0 := heap_eq_cell hc_ 0
    have c1 := heap_eq_cell hc_ 1
    have cl := lt_of_block hc_
    have Hc := Lib.hid hc_
    clear hc_
    have Hf := Lib.hid (Hf.out.trans0 hfk)
    have HrA := Lib.hid (HrA.out.fr hfk)
    have HrB := Lib.hid (HrB.out.fr hfk)
    have HrC := Lib.hid (HrC.out.fr hfk)
    clear hfk
    clear hf
    go_wp2_with fail
    refine (Compare_calls (na := false) (nb := false) (da := [0, 0, 1]) (db := [4294967295, 4294967295]) HrA.out HrC.out ex_dig001 (fun y hy => by simp at hy; omega) (by decide) (by decide)).mono ?_
    rintro e w14 ⟨rfl, hf⟩
    rw [ex_cmp]
    have hfk : Fr [] w13 w14 := Fr.trans0 (by (repeat (first | exact Fr.refl _ _ | assumption | apply Fr.drewN | apply Fr.drew | apply Fr.alloc | refine Fr.setCell ?_ (Or.inr (by simp; try omega)) _))) hf
    (try clear a0)
    (try clear a1)
    (try clear al)
    have ha_ := (hfk.block _ (lt_of_block Ha.out) (by simp)).trans Ha.out
    clear Ha
    have a0 := heap_eq_cell ha_ 0
    have a1 := heap_eq_cell ha_ 1
    have al := lt_of_block ha_
    have Ha := Lib.hid ha_
    clear ha_
    (try clear b0)
    (try clear b1)
    (try clear bl)
    have hb_ := (hfk.block _ (lt_of_block Hb.out) (by simp)).trans Hb.out
    clear Hb
    have b0 := heap_eq_cell hb_ 0
    have b1 := heap_eq_cell hb_ 1
    have bl := lt_of_block hb_
    have Hb := Lib.hid hb_
    clear hb_
    (try clear c0)
    (try clear c1)
    (try clear cl)
    have hc_ := (hfk.block _ (lt_of_block Hc.out) (by simp)).trans Hc.out
    clear Hc
    have c0 := heap_eq_cell hc_ 0
    have c1 := heap_eq_cell hc_ 1
    have cl := lt_of_block hc_
    have Hc := Lib.hid hc_
    clear hc_
    have Hf := Lib.hid (Hf.out.trans0 hfk)
    have HrA := Lib.hid (HrA.out.fr hfk)
    have HrB := Lib.hid (HrB.out.fr hfk)
    have HrC := Lib.hid (HrC.out.fr hfk)
    clear hfk
    clear hf
    go_wp2_with fail
    refine (From_calls (n := -1) (by omega) (by omega)).mono ?_
    rintro e w15 ⟨a15, c15, hlo, rfl, hr, hf⟩
    rw [ex_fromm1] at hr hlo ⊢
    have hfk : Fr [] w14 w15 := Fr.trans0 (by (repeat (first | exact Fr.refl _ _ | assumption | apply Fr.drewN | apply Fr.drew | apply Fr.alloc | refine Fr.setCell ?_ (Or.inr (by simp; try omega)) _))) hf
    (try clear a0)
    (try clear a1)
    (try clear al)
    have ha_ := (hfk.block _ (lt_of_block Ha.out) (by simp)).trans Ha.out
    clear Ha
    have a0 := heap_eq_cell ha_ 0
    have a1 := heap_eq_cell ha_ 1
    have al := lt_of_block ha_
    have Ha := Lib.hid ha_
    clear ha_
    (try clear b0)
    (try clear b1)
    (try clear bl)
    have hb_ := (hfk.block _ (lt_of_block Hb.out) (by simp)).trans Hb.out
    clear Hb
    have b0 := heap_eq_cell hb_ 0
    have b1 := heap_eq_cell hb_ 1
    have bl := lt_of_block hb_
    have Hb := Lib.hid hb_
    clear hb_
    (try clear c0)
    (try clear c1)
    (try clear cl)
    have hc_ := (hfk.block _ (lt_of_block Hc.out) (by simp)).trans Hc.out
    clear Hc
    have c0 := heap_eq_cell hc_ 0
    have c1 := heap_eq_cell hc_ 1
    have cl := lt_of_block hc_
    have Hc := Lib.hid hc_
    clear hc_
    have Hf := Lib.hid (Hf.out.trans0 hfk)
    have HrA := Lib.hid (HrA.out.fr hfk)
    have HrB := Lib.hid (HrB.out.fr hfk)
    have HrC := Lib.hid (HrC.out.fr hfk)
    clear hfk
    have Hr15 := Lib.hid hr
    have Hc15 := Lib.hid hlo.1
    clear hr hlo hf
    go_wp2_with fail
    refine (Bit_calls (neg := true) (ds := [1]) (k := 1000) Hr15.out (dig1 1 (by omega)) (by decide) Hc15.out (by omega) (by omega)).mono ?_
    rintro e w16 ⟨rfl, hf⟩
    rw [ex_bit]
    have hfk : Fr [] w15 w16 := Fr.trans0 (by (repeat (first | exact Fr.refl _ _ | assumption | apply Fr.drewN | apply Fr.drew | apply Fr.alloc | refine Fr.setCell ?_ (Or.inr (by simp; try omega)) _))) hf
    (try clear a0)
    (try clear a1)
    (try clear al)
    have ha_ := (hfk.block _ (lt_of_block Ha.out) (by simp)).trans Ha.out
    clear Ha
    have a0 := heap_eq_cell ha_ 0
    have a1 := heap_eq_cell ha_ 1
    have al := lt_of_block ha_
    have Ha := Lib.hid ha_
    clear ha_
    (try clear b0)
    (try clear b1)
    (try clear bl)
    have hb_ := (hfk.block _ (lt_of_block Hb.out) (by simp)).trans Hb.out
    clear Hb
    have b0 := heap_eq_cell hb_ 0
    have b1 := heap_eq_cell hb_ 1
    have bl := lt_of_block hb_
    have Hb := Lib.hid hb_
    clear hb_
    (try clear c0)
    (try clear c1)
    (try clear cl)
    have hc_ := (hfk.block _ (lt_of_block Hc.out) (by simp)).trans Hc.out
    clear Hc
    have c0 := heap_eq_cell hc_ 0
    have c1 := heap_eq_cell hc_ 1
    have cl := lt_of_block hc_
    have Hc := Lib.hid hc_
    clear hc_
    have Hf := Lib.hid (Hf.out.trans0 hfk)
    have HrA := Lib.hid (HrA.out.fr hfk)
    have HrB := Lib.hid (HrB.out.fr hfk)
    have HrC := Lib.hid (HrC.out.fr hfk)
    clear hfk
    clear hf Hr15 Hc15
    go_wp2_with fail
    refine (Right_calls (neg := false) (ds := [0, 0, 1]) HrA.out (by decide)).mono ?_
    rintro e w17 ⟨rfl, hf⟩
    rw [show RightB false [0, 0, 1] = true from rfl]
    have hfk : Fr [] w16 w17 := Fr.trans0 (by (repeat (first | exact Fr.refl _ _ | assumption | apply Fr.drewN | apply Fr.drew | apply Fr.alloc | refine Fr.setCell ?_ (Or.inr (by simp; try omega)) _))) hf
    (try clear a0)
    (try clear a1)
    (try clear al)
    have ha_ := (hfk.block _ (lt_of_block Ha.out) (by simp)).trans Ha.out
    clear Ha
    have a0 := heap_eq_cell ha_ 0
    have a1 := heap_eq_cell ha_ 1
    have al := lt_of_block ha_
    have Ha := Lib.hid ha_
    clear ha_
    (try clear b0)
    (try clear b1)
    (try clear bl)
    have hb_ := (hfk.block _ (lt_of_block Hb.out) (by simp)).trans Hb.out
    clear Hb
    have b0 := heap_eq_cell hb_ 0
    have b1 := heap_eq_cell hb_ 1
    have bl := lt_of_block hb_
    have Hb := Lib.hid hb_
    clear hb_
    (try clear c0)
    (try clear c1)
    (try clear cl)
    have hc_ := (hfk.block _ (lt_of_block Hc.out) (by simp)).trans Hc.out
    clear Hc
    have c0 := heap_eq_cell hc_ 0
    have c1 := heap_eq_cell hc_ 1
    have cl := lt_of_block hc_
    have Hc := Lib.hid hc_
    clear hc_
    have Hf := Lib.hid (Hf.out.trans0 hfk)
    have HrA := Lib.hid (HrA.out.fr hfk)
    have HrB := Lib.hid (HrB.out.fr hfk)
    have HrC := Lib.hid (HrC.out.fr hfk)
    clear hfk
    clear hf
    go_wp2_with fail
    refine (Right_calls (neg := false) (ds := [0]) (reads_blk (cs := u32s [0]) (by (repeat (first | rw [if_pos (by omega)] | rw [if_neg (by omega)] | rw [hp_drew] | rw [hp_drewN] | rw [hp_alloc_size] | rw [hp_setCell_size] | rw [hp_alloc] | rw [hp_setCell] | rw [Option.map_some] | rw [upd_cells] | rw [List.set_cons_zero] | rw [List.set_cons_succ] | rfl))) rfl) (by decide)).mono ?_
    rintro e w18 ⟨rfl, hf⟩
    rw [show RightB false [0] = false from rfl]
    have Hf := Lib.hid (Hf.out.trans0 (Fr.trans0 (by (repeat (first | exact Fr.refl _ _ | assumption | apply Fr.drewN | apply Fr.drew | apply Fr.alloc | refine Fr.setCell ?_ (Or.inr (by simp; try omega)) _)) : Fr [] w17 _) hf))
    clear hf
    go_wp2
    go_ret
    exact ⟨rfl, Hf.out⟩
  · have hblk : w6.heap[w4.heap.size]? = some (.cells #[.bool false, .slice none 0 0] 24 (0, 0)) := (hf6.block w4.heap.size (by have h := hf0.size; simp at h; omega) (by simp)).trans ((hf0.block w4.heap.size (by simp) (by simp)).trans (by (repeat (first | rw [if_pos (by omega)] | rw [if_neg (by omega)] | rw [hp_drew] | rw [hp_drewN] | rw [hp_alloc_size] | rw [hp_setCell_size] | rw [hp_alloc] | rw [hp_setCell] | rw [Option.map_some] | rw [upd_cells] | rw [List.set_cons_zero] | rw [List.set_cons_succ] | rfl))))
    have hC := Lib.hid hblk
    clear hblk
    have H46 := Lib.hid h46
    have Hr6 := Lib.hid hr6
    have Hlo6 := Lib.hid hlo6
    have Hsz := Lib.hid (And.intro h45.size hf6.size)
    have Hs45 := h45.size
    have Hs46 := h46.size
    clear h46 h45 hr6 hlo6 hf0 hf6 hr5 hlo5 n10 n11 n20 n21 n30 n31 k20 k21 a0 a1
    go_wp2_with fail
    obtain ⟨bC, hbC⟩ : ∃ bC, w4.heap.size = bC := ⟨_, rfl⟩
    refine abs_calls (fun W => W.heap[bA]? = some (.cells #[.bool false, .slice a2 3 c2] 24 (0, 0)) ∧ W.heap[bB]? = some (.cells #[.bool false, .slice a3 3 c3] 24 (0, 0)) ∧ W.heap[bC]? = some (.cells #[.bool false, .slice ra 2 rc] 24 (0, 0)) ∧ Reads W (.slice ra 2 rc) 2 1 (u32s [4294967295, 4294967295]) ∧ Fr [] w4 W) ?g9 ?_
    case g9 =>
      have hC1 := hC.out
      have h1 := (H46.out.block bA al (by simp)).trans Ha.out
      have h2 := (H46.out.block bB (lt_of_block Hb.out) (by simp)).trans Hb.out
      have al2 := lt_of_block Hb.out
      refine ⟨?_, ?_, ?_, ?_, ?_⟩
      · rw [← h1]; (repeat (first | rw [if_pos (by omega)] | rw [if_neg (by omega)] | rw [hp_drew] | rw [hp_drewN] | rw [hp_alloc_size] | rw [hp_setCell_size] | rw [hp_alloc] | rw [hp_setCell] | rw [Option.map_some] | rw [upd_cells] | rw [List.set_cons_zero] | rw [List.set_cons_succ] | rfl))
      · rw [← h2]; (repeat (first | rw [if_pos (by omega)] | rw [if_neg (by omega)] | rw [hp_drew] | rw [hp_drewN] | rw [hp_alloc_size] | rw [hp_setCell_size] | rw [hp_alloc] | rw [hp_setCell] | rw [Option.map_some] | rw [upd_cells] | rw [List.set_cons_zero] | rw [List.set_cons_succ] | rfl))
      · rw [← hbC]
        first
          | ((repeat (first | rw [if_pos (by omega)] | rw [if_neg (by omega)] | rw [hp_drew] | rw [hp_drewN] | rw [hp_alloc_size] | rw [hp_setCell_size] | rw [hp_alloc] | rw [hp_setCell] | rw [Option.map_some] | rw [upd_cells] | rw [List.set_cons_zero] | rw [List.set_cons_succ] | rfl)); done)
          | ((repeat (first | rw [if_pos (by omega)] | rw [if_neg (by omega)] | rw [hp_drew] | rw [hp_drewN] | rw [hp_alloc_size] | rw [hp_setCell_size] | rw [hp_alloc] | rw [hp_setCell] | rw [Option.map_some] | rw [upd_cells] | rw [List.set_cons_zero] | rw [List.set_cons_succ] | rfl)); rw [hC1]; (repeat (first | rw [if_pos (by omega)] | rw [if_neg (by omega)] | rw [hp_drew] | rw [hp_drewN] | rw [hp_alloc_size] | rw [hp_setCell_size] | rw [hp_alloc] | rw [hp_setCell] | rw [Option.map_some] | rw [upd_cells] | rw [List.set_cons_zero] | rw [List.set_cons_succ] | rfl)))
      · refine Hr6.out.keep fun x hx hl => ?_
        have hlx := Hlo6.out.2 x hx
        have hsz := Hsz.out
        (try simp at hlx)
        (try simp at hsz)
        repeat (first | rw [setCell_else _ _ _ (by simp; omega)] | rw [heap_alloc_else _ _ _ hl] | rw [heap_alloc_else _ _ _ (by simp; omega)])
      · have := H46.out
        repeat (first | exact this | refine Fr.alloc ?_ _ | refine Fr.setCell ?_ (.inr (by first | (simp; done) | (simp; omega))) _)
    rw [hbC]
    rintro W ⟨hA, hB, hCC, hrC, hf4⟩
    clear hbC hC H46 Hr6 Hlo6 Hsz Hs45 Hs46 c5 z5 c6 z6
    (try clear s2)
    (try clear s3)
    (try clear s4)
    clear Ha Hb
    have HrA := Lib.hid (HrA.out.fr hf4)
    have HrB := Lib.hid (HrB.out.fr hf4)
    have HrC := Lib.hid hrC
    have Hf := Lib.hid (Hf.out.trans0 hf4)
    have Ha := Lib.hid hA
    have Hb := Lib.hid hB
    have Hc := Lib.hid hCC
    clear hA hB hCC hrC hf4
    refine (From_calls (n := -7) (by omega) (by omega)).mono ?_
    rintro e w7 ⟨a7, c7, hlo, rfl, hr, hf⟩
    rw [ex_fromm7] at hr hlo ⊢
    have hfk : Fr [] W w7 := Fr.trans0 (by (repeat (first | exact Fr.refl _ _ | assumption | apply Fr.drewN | apply Fr.drew | apply Fr.alloc | refine Fr.setCell ?_ (Or.inr (by simp; try omega)) _))) hf
    (try clear a0)
    (try clear a1)
    (try clear al)
    have ha_ := (hfk.block _ (lt_of_block Ha.out) (by simp)).trans Ha.out
    clear Ha
    have a0 := heap_eq_cell ha_ 0
    have a1 := heap_eq_cell ha_ 1
    have al := lt_of_block ha_
    have Ha := Lib.hid ha_
    clear ha_
    (try clear b0)
    (try clear b1)
    (try clear bl)
    have hb_ := (hfk.block _ (lt_of_block Hb.out) (by simp)).trans Hb.out
    clear Hb
    have b0 := heap_eq_cell hb_ 0
    have b1 := heap_eq_cell hb_ 1
    have bl := lt_of_block hb_
    have Hb := Lib.hid hb_
    clear hb_
    (try clear c0)
    (try clear c1)
    (try clear cl)
    have hc_ := (hfk.block _ (lt_of_block Hc.out) (by simp)).trans Hc.out
    clear Hc
    have c0 := heap_eq_cell hc_ 0
    have c1 := heap_eq_cell hc_ 1
    have cl := lt_of_block hc_
    have Hc := Lib.hid hc_
    clear hc_
    have Hf := Lib.hid (Hf.out.trans0 hfk)
    have HrA := Lib.hid (HrA.out.fr hfk)
    have HrB := Lib.hid (HrB.out.fr hfk)
    have HrC := Lib.hid (HrC.out.fr hfk)
    clear hfk
    have Hr7 := Lib.hid hr
    clear hr hlo hf
    go_wp2_with fail
    refine (Div_calls (neg := true) (ds := [7]) (n := 2) Hr7.out (dig1 7 (by omega)) (by decide) (by omega) (by omega)).mono ?_
    rintro e w8 ⟨a8, c8, hlo, rfl, hr, hf⟩
    rw [ex_div] at hr hlo ⊢
    have hfk : Fr [] w7 w8 := Fr.trans0 (by (repeat (first | exact Fr.refl _ _ | assumption | apply Fr.drewN | apply Fr.drew | apply Fr.alloc | refine Fr.setCell ?_ (Or.inr (by simp; try omega)) _))) hf
    (try clear a0)
    (try clear a1)
    (try clear al)
    have ha_ := (hfk.block _ (lt_of_block Ha.out) (by simp)).trans Ha.out
    clear Ha
    have a0 := heap_eq_cell ha_ 0
    have a1 := heap_eq_cell ha_ 1
    have al := lt_of_block ha_
    have Ha := Lib.hid ha_
    clear ha_
    (try clear b0)
    (try clear b1)
    (try clear bl)
    have hb_ := (hfk.block _ (lt_of_block Hb.out) (by simp)).trans Hb.out
    clear Hb
    have b0 := heap_eq_cell hb_ 0
    have b1 := heap_eq_cell hb_ 1
    have bl := lt_of_block hb_
    have Hb := Lib.hid hb_
    clear hb_
    (try clear c0)
    (try clear c1)
    (try clear cl)
    have hc_ := (hfk.block _ (lt_of_block Hc.out) (by simp)).trans Hc.out
    clear Hc
    have c0 := heap_eq_cell hc_ 0
    have c1 := heap_eq_cell hc_ 1
    have cl := lt_of_block hc_
    have Hc := Lib.hid hc_
    clear hc_
    have Hf := Lib.hid (Hf.out.trans0 hfk)
    have HrA := Lib.hid (HrA.out.fr hfk)
    have HrB := Lib.hid (HrB.out.fr hfk)
    have HrC := Lib.hid (HrC.out.fr hfk)
    clear hfk
    have Hr8 := Lib.hid hr
    clear hr hlo hf Hr7
    go_wp2_with fail
    refine (Int_calls (neg := true) (ds := [4]) (Hr8.out.fr (by (repeat (first | exact Fr.refl _ _ | assumption | apply Fr.drewN | apply Fr.drew | apply Fr.alloc | refine Fr.setCell ?_ (Or.inr (by simp; try omega)) _)))) (dig1 4 (by omega)) (by decide)).mono ?_
    rintro e w9 ⟨rfl, hf⟩
    rw [ex_int]
    have hfk : Fr [] w8 w9 := Fr.trans0 (by (repeat (first | exact Fr.refl _ _ | assumption | apply Fr.drewN | apply Fr.drew | apply Fr.alloc | refine Fr.setCell ?_ (Or.inr (by simp; try omega)) _))) hf
    (try clear a0)
    (try clear a1)
    (try clear al)
    have ha_ := (hfk.block _ (lt_of_block Ha.out) (by simp)).trans Ha.out
    clear Ha
    have a0 := heap_eq_cell ha_ 0
    have a1 := heap_eq_cell ha_ 1
    have al := lt_of_block ha_
    have Ha := Lib.hid ha_
    clear ha_
    (try clear b0)
    (try clear b1)
    (try clear bl)
    have hb_ := (hfk.block _ (lt_of_block Hb.out) (by simp)).trans Hb.out
    clear Hb
    have b0 := heap_eq_cell hb_ 0
    have b1 := heap_eq_cell hb_ 1
    have bl := lt_of_block hb_
    have Hb := Lib.hid hb_
    clear hb_
    (try clear c0)
    (try clear c1)
    (try clear cl)
    have hc_ := (hfk.block _ (lt_of_block Hc.out) (by simp)).trans Hc.out
    clear Hc
    have c0 := heap_eq_cell hc_ 0
    have c1 := heap_eq_cell hc_ 1
    have cl := lt_of_block hc_
    have Hc := Lib.hid hc_
    clear hc_
    have Hf := Lib.hid (Hf.out.trans0 hfk)
    have HrA := Lib.hid (HrA.out.fr hfk)
    have HrB := Lib.hid (HrB.out.fr hfk)
    have HrC := Lib.hid (HrC.out.fr hfk)
    clear hfk
    clear hf Hr8
    go_wp2_with fail
    refine (Parse_ex0 _).mono ?_
    rintro e w10 ⟨a10, c10, hlo, rfl, hr, hf⟩
    have hfk : Fr [] w9 w10 := Fr.trans0 (by (repeat (first | exact Fr.refl _ _ | assumption | apply Fr.drewN | apply Fr.drew | apply Fr.alloc | refine Fr.setCell ?_ (Or.inr (by simp; try omega)) _))) hf
    (try clear a0)
    (try clear a1)
    (try clear al)
    have ha_ := (hfk.block _ (lt_of_block Ha.out) (by simp)).trans Ha.out
    clear Ha
    have a0 := heap_eq_cell ha_ 0
    have a1 := heap_eq_cell ha_ 1
    have al := lt_of_block ha_
    have Ha := Lib.hid ha_
    clear ha_
    (try clear b0)
    (try clear b1)
    (try clear bl)
    have hb_ := (hfk.block _ (lt_of_block Hb.out) (by simp)).trans Hb.out
    clear Hb
    have b0 := heap_eq_cell hb_ 0
    have b1 := heap_eq_cell hb_ 1
    have bl := lt_of_block hb_
    have Hb := Lib.hid hb_
    clear hb_
    (try clear c0)
    (try clear c1)
    (try clear cl)
    have hc_ := (hfk.block _ (lt_of_block Hc.out) (by simp)).trans Hc.out
    clear Hc
    have c0 := heap_eq_cell hc_ 0
    have c1 := heap_eq_cell hc_ 1
    have cl := lt_of_block hc_
    have Hc := Lib.hid hc_
    clear hc_
    have Hf := Lib.hid (Hf.out.trans0 hfk)
    have HrA := Lib.hid (HrA.out.fr hfk)
    have HrB := Lib.hid (HrB.out.fr hfk)
    have HrC := Lib.hid (HrC.out.fr hfk)
    clear hfk
    clear hr hlo hf
    go_wp2_with fail
    refine (Mul_calls (na := false) (nb := true) (da := [0, 0, 1]) (db := []) (HrA.out.fr (by (repeat (first | exact Fr.refl _ _ | assumption | apply Fr.drewN | apply Fr.drew | apply Fr.alloc | refine Fr.setCell ?_ (Or.inr (by simp; try omega)) _)))) (reads_nil _) ex_dig001 Dig.nil (by decide) (by decide)).mono ?_
    rintro e w11 ⟨a11, c11, hlo, rfl, hr, hf⟩
    rw [ex_mul] at hr hlo ⊢
    have hfk : Fr [] w10 w11 := Fr.trans0 (by (repeat (first | exact Fr.refl _ _ | assumption | apply Fr.drewN | apply Fr.drew | apply Fr.alloc | refine Fr.setCell ?_ (Or.inr (by simp; try omega)) _))) hf
    (try clear a0)
    (try clear a1)
    (try clear al)
    have ha_ := (hfk.block _ (lt_of_block Ha.out) (by simp)).trans Ha.out
    clear Ha
    have a0 := heap_eq_cell ha_ 0
    have a1 := heap_eq_cell ha_ 1
    have al := lt_of_block ha_
    have Ha := Lib.hid ha_
    clear ha_
    (try clear b0)
    (try clear b1)
    (try clear bl)
    have hb_ := (hfk.block _ (lt_of_block Hb.out) (by simp)).trans Hb.out
    clear Hb
    have b0 := heap_eq_cell hb_ 0
    have b1 := heap_eq_cell hb_ 1
    have bl := lt_of_block hb_
    have Hb := Lib.hid hb_
    clear hb_
    (try clear c0)
    (try clear c1)
    (try clear cl)
    have hc_ := (hfk.block _ (lt_of_block Hc.out) (by simp)).trans Hc.out
    clear Hc
    have c0 := heap_eq_cell hc_ 0
    have c1 := heap_eq_cell hc_ 1
    have cl := lt_of_block hc_
    have Hc := Lib.hid hc_
    clear hc_
    have Hf := Lib.hid (Hf.out.trans0 hfk)
    have HrA := Lib.hid (HrA.out.fr hfk)
    have HrB := Lib.hid (HrB.out.fr hfk)
    have HrC := Lib.hid (HrC.out.fr hfk)
    clear hfk
    clear hr hlo hf
    go_wp2_with fail
    refine (Same_calls (na := false) (nb := false) (da := [0, 0, 1]) (db := [0, 0, 1]) (HrA.out.fr (by (repeat (first | exact Fr.refl _ _ | assumption | apply Fr.drewN | apply Fr.drew | apply Fr.alloc | refine Fr.setCell ?_ (Or.inr (by simp; try omega)) _)))) (HrB.out.fr (by (repeat (first | exact Fr.refl _ _ | assumption | apply Fr.drewN | apply Fr.drew | apply Fr.alloc | refine Fr.setCell ?_ (Or.inr (by simp; try omega)) _)))) (by decide) (by decide)).mono ?_
    rintro e w12 ⟨rfl, hf⟩
    rw [show ((false == false) && decide (([0, 0, 1] : List Nat) = [0, 0, 1])) = true from rfl]
    have hfk : Fr [] w11 w12 := Fr.trans0 (by (repeat (first | exact Fr.refl _ _ | assumption | apply Fr.drewN | apply Fr.drew | apply Fr.alloc | refine Fr.setCell ?_ (Or.inr (by simp; try omega)) _))) hf
    (try clear a0)
    (try clear a1)
    (try clear al)
    have ha_ := (hfk.block _ (lt_of_block Ha.out) (by simp)).trans Ha.out
    clear Ha
    have a0 := heap_eq_cell ha_ 0
    have a1 := heap_eq_cell ha_ 1
    have al := lt_of_block ha_
    have Ha := Lib.hid ha_
    clear ha_
    (try clear b0)
    (try clear b1)
    (try clear bl)
    have hb_ := (hfk.block _ (lt_of_block Hb.out) (by simp)).trans Hb.out
    clear Hb
    have b0 := heap_eq_cell hb_ 0
    have b1 := heap_eq_cell hb_ 1
    have bl := lt_of_block hb_
    have Hb := Lib.hid hb_
    clear hb_
    (try clear c0)
    (try clear c1)
    (try clear cl)
    have hc_ := (hfk.block _ (lt_of_block Hc.out) (by simp)).trans Hc.out
    clear Hc
    have c0 := heap_eq_cell hc_ 0
    have c1 := heap_eq_cell hc_ 1
    have cl := lt_of_block hc_
    have Hc := Lib.hid hc_
    clear hc_
    have Hf := Lib.hid (Hf.out.trans0 hfk)
    have HrA := Lib.hid (HrA.out.fr hfk)
    have HrB := Lib.hid (HrB.out.fr hfk)
    have HrC := Lib.hid (HrC.out.fr hfk)
    clear hfk
    clear hf
    go_wp2_with fail
    refine (Text_calls (neg := false) (ds := [0, 0, 1]) HrA.out ex_dig001 (by decide)).mono ?_
    rintro e w13 ⟨rfl, hf⟩
    rw [ex_text, show strB [49, 56, 52, 52, 54, 55, 52, 52, 48, 55, 51, 55, 48, 57, 53, 53, 49, 54, 49, 54] = ⟨#[49, 56, 52, 52, 54, 55, 52, 52, 48, 55, 51, 55, 48, 57, 53, 53, 49, 54, 49, 54]⟩ from rfl]
    have hfk : Fr [] w12 w13 := Fr.trans0 (by (repeat (first | exact Fr.refl _ _ | assumption | apply Fr.drewN | apply Fr.drew | apply Fr.alloc | refine Fr.setCell ?_ (Or.inr (by simp; try omega)) _))) hf
    (try clear a0)
    (try clear a1)
    (try clear al)
    have ha_ := (hfk.block _ (lt_of_block Ha.out) (by simp)).trans Ha.out
    clear Ha
    have a0 := heap_eq_cell ha_ 0
    have a1 := heap_eq_cell ha_ 1
    have al := lt_of_block ha_
    have Ha := Lib.hid ha_
    clear ha_
    (try clear b0)
    (try clear b1)
    (try clear bl)
    have hb_ := (hfk.block _ (lt_of_block Hb.out) (by simp)).trans Hb.out
    clear Hb
    have b0 := heap_eq_cell hb_ 0
    have b1 := heap_eq_cell hb_ 1
    have bl := lt_of_block hb_
    have Hb := Lib.hid hb_
    clear hb_
    (try clear c0)
    (try clear c1)
    (try clear cl)
    have hc_ := (hfk.block _ (lt_of_block Hc.out) (by simp)).trans Hc.out
    clear Hc
    have c0 := heap_eq_cell hc_ 0
    have c1 := heap_eq_cell hc_ 1
    have cl := lt_of_block hc_
    have Hc := Lib.hid hc_
    clear hc_
    have Hf := Lib.hid (Hf.out.trans0 hfk)
    have HrA := Lib.hid (HrA.out.fr hfk)
    have HrB := Lib.hid (HrB.out.fr hfk)
    have HrC := Lib.hid (HrC.out.fr hfk)
    clear hfk
    clear hf
    go_wp2_with fail
    refine (Compare_calls (na := false) (nb := false) (da := [0, 0, 1]) (db := [4294967295, 4294967295]) HrA.out HrC.out ex_dig001 (fun y hy => by simp at hy; omega) (by decide) (by decide)).mono ?_
    rintro e w14 ⟨rfl, hf⟩
    rw [ex_cmp]
    have hfk : Fr [] w13 w14 := Fr.trans0 (by (repeat (first | exact Fr.refl _ _ | assumption | apply Fr.drewN | apply Fr.drew | apply Fr.alloc | refine Fr.setCell ?_ (Or.inr (by simp; try omega)) _))) hf
    (try clear a0)
    (try clear a1)
    (try clear al)
    have ha_ := (hfk.block _ (lt_of_block Ha.out) (by simp)).trans Ha.out
    clear Ha
    have a0 := heap_eq_cell ha_ 0
    have a1 := heap_eq_cell ha_ 1
    have al := lt_of_block ha_
    have Ha := Lib.hid ha_
    clear ha_
    (try clear b0)
    (try clear b1)
    (try clear bl)
    have hb_ := (hfk.block _ (lt_of_block Hb.out) (by simp)).trans Hb.out
    clear Hb
    have b0 := heap_eq_cell hb_ 0
    have b1 := heap_eq_cell hb_ 1
    have bl := lt_of_block hb_
    have Hb := Lib.hid hb_
    clear hb_
    (try clear c0)
    (try clear c1)
    (try clear cl)
    have hc_ := (hfk.block _ (lt_of_block Hc.out) (by simp)).trans Hc.out
    clear Hc
    have c0 := heap_eq_cell hc_ 0
    have c1 := heap_eq_cell hc_ 1
    have cl := lt_of_block hc_
    have Hc := Lib.hid hc_
    clear hc_
    have Hf := Lib.hid (Hf.out.trans0 hfk)
    have HrA := Lib.hid (HrA.out.fr hfk)
    have HrB := Lib.hid (HrB.out.fr hfk)
    have HrC := Lib.hid (HrC.out.fr hfk)
    clear hfk
    clear hf
    go_wp2_with fail
    refine (From_calls (n := -1) (by omega) (by omega)).mono ?_
    rintro e w15 ⟨a15, c15, hlo, rfl, hr, hf⟩
    rw [ex_fromm1] at hr hlo ⊢
    have hfk : Fr [] w14 w15 := Fr.trans0 (by (repeat (first | exact Fr.refl _ _ | assumption | apply Fr.drewN | apply Fr.drew | apply Fr.alloc | refine Fr.setCell ?_ (Or.inr (by simp; try omega)) _))) hf
    (try clear a0)
    (try clear a1)
    (try clear al)
    have ha_ := (hfk.block _ (lt_of_block Ha.out) (by simp)).trans Ha.out
    clear Ha
    have a0 := heap_eq_cell ha_ 0
    have a1 := heap_eq_cell ha_ 1
    have al := lt_of_block ha_
    have Ha := Lib.hid ha_
    clear ha_
    (try clear b0)
    (try clear b1)
    (try clear bl)
    have hb_ := (hfk.block _ (lt_of_block Hb.out) (by simp)).trans Hb.out
    clear Hb
    have b0 := heap_eq_cell hb_ 0
    have b1 := heap_eq_cell hb_ 1
    have bl := lt_of_block hb_
    have Hb := Lib.hid hb_
    clear hb_
    (try clear c0)
    (try clear c1)
    (try clear cl)
    have hc_ := (hfk.block _ (lt_of_block Hc.out) (by simp)).trans Hc.out
    clear Hc
    have c0 := heap_eq_cell hc_ 0
    have c1 := heap_eq_cell hc_ 1
    have cl := lt_of_block hc_
    have Hc := Lib.hid hc_
    clear hc_
    have Hf := Lib.hid (Hf.out.trans0 hfk)
    have HrA := Lib.hid (HrA.out.fr hfk)
    have HrB := Lib.hid (HrB.out.fr hfk)
    have HrC := Lib.hid (HrC.out.fr hfk)
    clear hfk
    have Hr15 := Lib.hid hr
    have Hc15 := Lib.hid hlo.1
    clear hr hlo hf
    go_wp2_with fail
    refine (Bit_calls (neg := true) (ds := [1]) (k := 1000) Hr15.out (dig1 1 (by omega)) (by decide) Hc15.out (by omega) (by omega)).mono ?_
    rintro e w16 ⟨rfl, hf⟩
    rw [ex_bit]
    have hfk : Fr [] w15 w16 := Fr.trans0 (by (repeat (first | exact Fr.refl _ _ | assumption | apply Fr.drewN | apply Fr.drew | apply Fr.alloc | refine Fr.setCell ?_ (Or.inr (by simp; try omega)) _))) hf
    (try clear a0)
    (try clear a1)
    (try clear al)
    have ha_ := (hfk.block _ (lt_of_block Ha.out) (by simp)).trans Ha.out
    clear Ha
    have a0 := heap_eq_cell ha_ 0
    have a1 := heap_eq_cell ha_ 1
    have al := lt_of_block ha_
    have Ha := Lib.hid ha_
    clear ha_
    (try clear b0)
    (try clear b1)
    (try clear bl)
    have hb_ := (hfk.block _ (lt_of_block Hb.out) (by simp)).trans Hb.out
    clear Hb
    have b0 := heap_eq_cell hb_ 0
    have b1 := heap_eq_cell hb_ 1
    have bl := lt_of_block hb_
    have Hb := Lib.hid hb_
    clear hb_
    (try clear c0)
    (try clear c1)
    (try clear cl)
    have hc_ := (hfk.block _ (lt_of_block Hc.out) (by simp)).trans Hc.out
    clear Hc
    have c0 := heap_eq_cell hc_ 0
    have c1 := heap_eq_cell hc_ 1
    have cl := lt_of_block hc_
    have Hc := Lib.hid hc_
    clear hc_
    have Hf := Lib.hid (Hf.out.trans0 hfk)
    have HrA := Lib.hid (HrA.out.fr hfk)
    have HrB := Lib.hid (HrB.out.fr hfk)
    have HrC := Lib.hid (HrC.out.fr hfk)
    clear hfk
    clear hf Hr15 Hc15
    go_wp2_with fail
    refine (Right_calls (neg := false) (ds := [0, 0, 1]) HrA.out (by decide)).mono ?_
    rintro e w17 ⟨rfl, hf⟩
    rw [show RightB false [0, 0, 1] = true from rfl]
    have hfk : Fr [] w16 w17 := Fr.trans0 (by (repeat (first | exact Fr.refl _ _ | assumption | apply Fr.drewN | apply Fr.drew | apply Fr.alloc | refine Fr.setCell ?_ (Or.inr (by simp; try omega)) _))) hf
    (try clear a0)
    (try clear a1)
    (try clear al)
    have ha_ := (hfk.block _ (lt_of_block Ha.out) (by simp)).trans Ha.out
    clear Ha
    have a0 := heap_eq_cell ha_ 0
    have a1 := heap_eq_cell ha_ 1
    have al := lt_of_block ha_
    have Ha := Lib.hid ha_
    clear ha_
    (try clear b0)
    (try clear b1)
    (try clear bl)
    have hb_ := (hfk.block _ (lt_of_block Hb.out) (by simp)).trans Hb.out
    clear Hb
    have b0 := heap_eq_cell hb_ 0
    have b1 := heap_eq_cell hb_ 1
    have bl := lt_of_block hb_
    have Hb := Lib.hid hb_
    clear hb_
    (try clear c0)
    (try clear c1)
    (try clear cl)
    have hc_ := (hfk.block _ (lt_of_block Hc.out) (by simp)).trans Hc.out
    clear Hc
    have c0 := heap_eq_cell hc_ 0
    have c1 := heap_eq_cell hc_ 1
    have cl := lt_of_block hc_
    have Hc := Lib.hid hc_
    clear hc_
    have Hf := Lib.hid (Hf.out.trans0 hfk)
    have HrA := Lib.hid (HrA.out.fr hfk)
    have HrB := Lib.hid (HrB.out.fr hfk)
    have HrC := Lib.hid (HrC.out.fr hfk)
    clear hfk
    clear hf
    go_wp2_with fail
    refine (Right_calls (neg := false) (ds := [0]) (reads_blk (cs := u32s [0]) (by (repeat (first | rw [if_pos (by omega)] | rw [if_neg (by omega)] | rw [hp_drew] | rw [hp_drewN] | rw [hp_alloc_size] | rw [hp_setCell_size] | rw [hp_alloc] | rw [hp_setCell] | rw [Option.map_some] | rw [upd_cells] | rw [List.set_cons_zero] | rw [List.set_cons_succ] | rfl))) rfl) (by decide)).mono ?_
    rintro e w18 ⟨rfl, hf⟩
    rw [show RightB false [0] = false from rfl]
    have Hf := Lib.hid (Hf.out.trans0 (Fr.trans0 (by (repeat (first | exact Fr.refl _ _ | assumption | apply Fr.drewN | apply Fr.drew | apply Fr.alloc | refine Fr.setCell ?_ (Or.inr (by simp; try omega)) _)) : Fr [] w17 _) hf))
    clear hf
    go_wp2
    go_ret
    exact ⟨rfl, Hf.out⟩
end Go.Proofs.YtbacamboknmppaaDoor
