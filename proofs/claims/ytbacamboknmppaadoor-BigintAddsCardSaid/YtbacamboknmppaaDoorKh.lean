/- The reference of big integers: Neg, From. -/
import Derived.Test.YtbacamboknmppaaDoorKg
import Derived.Test.YtbacamboknmppaaDoorJf
namespace Go.Proofs.YtbacamboknmppaaDoor
open Go Go.RowKit Go.Proofs.Rg Go.Proofs.Hp Go.Proofs.Bn
set_option linter.unusedVariables false
set_option linter.unusedSimpArgs false
set_option maxHeartbeats 4000000 in
set_option maxRecDepth 100000 in
theorem RNeg_calls {w : World} {na : Bool} {da : List Nat} {va : Value} (ha : Reads w va da.length 1 (u32s da)) (hDa : Dig 4294967296 da) (hla : da.length ≤ 10000) :
    Calls Tryd.prog 36 #[.agg #[.bool na, va]] w (BigPost1 w (w.heap.size ≤ ·) (negS na da)) := by
  have hra := fun w1 (hf : Fr [] w w1) => RRight_calls (neg := na) (ha.fr hf) (by omega)
  have hcl := fun w1 (hf : Fr [] w w1) => bytes_calls (neg := na) (ha.fr hf) hDa (by omega)
  obtain ⟨_, a, ac, rfl, _⟩ := ha
  obtain ⟨V, hV⟩ : ∃ V, val 4294967296 da = V := ⟨_, rfl⟩
  obtain ⟨X, hX⟩ : ∃ X, dg 256 V = X := ⟨_, rfl⟩
  have hXV : val 256 X = V := by rw [← hX]; exact val_dg (by omega) V
  have hXD : Dig 256 X := by rw [← hX]; exact dg_dig (by omega) V
  have hXl : X.length ≤ 40000 := by
    have h := dg_len256 (k := 10000) hla (val_lt hDa)
    rw [hV, hX] at h
    omega
  rw [hV, hX] at hcl
  have Hcl := Lib.hid hcl
  obtain ⟨r, hS⟩ : ∃ r, r = negS na da := ⟨_, rfl⟩
  rw [← hS]
  unfold negS at hS
  rw [hV] at hS
  clear hDa hcl hV hX
  cases hR1 : RightB na da with
  | false =>
    rw [hR1] at hra hS
    rw [if_pos rfl] at hS
    subst hS
    have Hra := Lib.hid hra
    clear hR1 hra
    go_enter Tryd.func36, Tryd.ntmps36
    go_wp2_with fail
    refine (Hra.out _ (by (repeat (first | exact Fr.refl _ _ | assumption | apply Fr.drewN | apply Fr.drew | apply Fr.alloc | refine Fr.setCell ?_ (Or.inr (by simp; try omega)) _)))).mono ?_
    rintro e w1 ⟨rfl, hf⟩
    have hc_ := (hf.block (w.heap.size + 1) (by first | (simp; done) | (simp; omega)) (by simp)).trans (show _ = some (.cells #[.bool false, .slice none 0 0] 24 (0, 0)) by (repeat (first | rw [if_pos (by omega)] | rw [if_neg (by omega)] | rw [hp_drew] | rw [hp_drewN] | rw [hp_alloc_size] | rw [hp_setCell_size] | rw [hp_alloc] | rw [hp_setCell] | rw [Option.map_some] | rw [upd_cells] | rw [List.set_cons_zero] | rw [List.set_cons_succ] | rfl)))
    have c0 := heap_eq_cell hc_ 0
    have c0z := heap_eq_frozen hc_ 0
    have c1 := heap_eq_cell hc_ 1
    have c1z := heap_eq_frozen hc_ 1
    have cl := lt_of_block hc_
    have Hc := Lib.hid hc_
    clear hc_
    have Hf := Lib.hid (Fr.trans0 (by (repeat (first | exact Fr.refl _ _ | assumption | apply Fr.drewN | apply Fr.drew | apply Fr.alloc | refine Fr.setCell ?_ (Or.inr (by simp; try omega)) _)) : Fr [] w _) hf)
    clear hf
    go_wp2
    (try simp only [Exit.inBlock, Exit.then])
    refine bodyPost_ret (big_result1 rfl (b := w.heap.size + 1) (x := .bool false) (y := .slice none 0 0) rfl ?_) rfl ⟨_, _, ⟨Nat.le_refl _, fun g hg => (by cases hg)⟩, rfl, reads_nil _, ?_⟩
    · have h := Hc.out
      (repeat (first | rw [if_pos (by omega)] | rw [if_neg (by omega)] | rw [hp_drew] | rw [hp_drewN] | rw [hp_alloc_size] | rw [hp_setCell_size] | rw [hp_alloc] | rw [hp_setCell] | rw [Option.map_some] | rw [upd_cells] | rw [List.set_cons_zero] | rw [List.set_cons_succ] | rfl))
      rw [h]
      (repeat (first | rw [if_pos (by omega)] | rw [if_neg (by omega)] | rw [hp_drew] | rw [hp_drewN] | rw [hp_alloc_size] | rw [hp_setCell_size] | rw [hp_alloc] | rw [hp_setCell] | rw [Option.map_some] | rw [upd_cells] | rw [List.set_cons_zero] | rw [List.set_cons_succ] | rfl))
    · exact (Hf.out.setCell (.inr (by simp; try omega)) _).setCell (.inr (by simp; try omega)) _
  | true =>
    rw [hR1] at hra hS
    rw [if_neg (by decide)] at hS
    rw [← hXV] at hS
    have Hmd := Lib.hid (fun (w1 : World) (a : Option Addr) (c : Nat) (hv : Reads w1 (.slice a X.length c) X.length 1 (i64s X)) (hc : X.length ≤ c) => hS ▸ big_calls (neg := !na) hv hXD (by omega) hc)
    have Hra := Lib.hid hra
    clear hR1 hra hS hXV hXD
    go_enter Tryd.func36, Tryd.ntmps36
    go_wp2_with fail
    refine (Hra.out _ (by (repeat (first | exact Fr.refl _ _ | assumption | apply Fr.drewN | apply Fr.drew | apply Fr.alloc | refine Fr.setCell ?_ (Or.inr (by simp; try omega)) _)))).mono ?_
    rintro e w1 ⟨rfl, hf⟩
    have ha1 := (hf.block w.heap.size (by simp; omega) (by simp)).trans (show _ = some (.cells #[.bool na, .slice a da.length ac] 24 (0, 0)) by (repeat (first | rw [if_pos (by omega)] | rw [if_neg (by omega)] | rw [hp_drew] | rw [hp_drewN] | rw [hp_alloc_size] | rw [hp_setCell_size] | rw [hp_alloc] | rw [hp_setCell] | rw [Option.map_some] | rw [upd_cells] | rw [List.set_cons_zero] | rw [List.set_cons_succ] | rfl)))
    have a0 := heap_eq_cell ha1 0
    have a1 := heap_eq_cell ha1 1
    have al := lt_of_block ha1
    have Ha1 := Lib.hid ha1
    have Hc1 := Lib.hid ((hf.block (w.heap.size + 1) (by simp) (by simp)).trans (show _ = some (.cells #[.bool false, .slice none 0 0] 24 (0, 0)) by (repeat (first | rw [if_pos (by omega)] | rw [if_neg (by omega)] | rw [hp_drew] | rw [hp_drewN] | rw [hp_alloc_size] | rw [hp_setCell_size] | rw [hp_alloc] | rw [hp_setCell] | rw [Option.map_some] | rw [upd_cells] | rw [List.set_cons_zero] | rw [List.set_cons_succ] | rfl))))
    have Hf1 := Lib.hid (Fr.trans0 (by (repeat (first | exact Fr.refl _ _ | assumption | apply Fr.drewN | apply Fr.drew | apply Fr.alloc | refine Fr.setCell ?_ (Or.inr (by simp; try omega)) _)) : Fr [] w _) hf)
    clear hf ha1
    go_wp2
    have n10 := World.new_ne w1 _ a0
    have n11 := World.new_ne w1 _ a1
    go_region_held3 (fun w' => w'.cell? ⟨w.heap.size, 0, none⟩ = some (.bool na) ∧ w'.cell? ⟨w.heap.size, 1, none⟩ = some (.slice a da.length ac)) (first | go_keep | exact ⟨k20, k21⟩ | exact ⟨k30, k31⟩)
      (first | (go_at_call 39; refine (Hcl.out _ ?_).mono ?_; (· refine Hf1.out.trans0 ?_; (repeat (first | exact Fr.refl _ _ | assumption | apply Fr.drewN | apply Fr.drew | apply Fr.alloc | refine Fr.setCell ?_ (Or.inl (by simp)) _))); rintro e w2 ⟨pa, pc, ho, rfl, hr2, hf0⟩; have h12 : Fr [] w1 w2 := Fr.trans0 (by (repeat (first | exact Fr.refl _ _ | assumption | apply Fr.drewN | apply Fr.drew | apply Fr.alloc | refine Fr.setCell ?_ (Or.inl (by simp)) _))) hf0; have k20 := (h12.cell (p := ⟨w.heap.size, 0, none⟩) al (by simp)).trans a0; have k21 := (h12.cell (p := ⟨w.heap.size, 1, none⟩) al (by simp)).trans a1; have n20 := World.new_ne w2 _ k20; have n21 := World.new_ne w2 _ k21; obtain ⟨c2, z2⟩ := frcell hf0; (try (have s2 : w1.heap.size < w2.heap.size := by have h := hf0.size; simp at h; omega))) | (go_at_call 40; refine (Hmd.out _ _ _ (hr2.fr ?_) ho.1).mono ?_; (· (repeat (first | exact Fr.refl _ _ | assumption | apply Fr.drewN | apply Fr.drew | apply Fr.alloc | refine Fr.setCell ?_ (Or.inl (by simp)) _))); rintro e w3 ⟨ra, rc, hlo, rfl, hr, hf⟩; have h13 : Fr [] w1 w3 := Fr.trans0 (Fr.trans0 h12 (by (repeat (first | exact Fr.refl _ _ | assumption | apply Fr.drewN | apply Fr.drew | apply Fr.alloc | refine Fr.setCell ?_ (Or.inl (by simp)) _)) : Fr [] w2 _)) hf; have k30 := (h13.cell (p := ⟨w.heap.size, 0, none⟩) al (by simp)).trans a0; have k31 := (h13.cell (p := ⟨w.heap.size, 1, none⟩) al (by simp)).trans a1; have n30 := World.new_ne w3 _ k30; have n31 := World.new_ne w3 _ k31; obtain ⟨c3, z3⟩ := frcell hf; (try (have s3 : w2.heap.size < w3.heap.size := by have h := hf.size; simp at h; omega)); (try (have s4 : w1.heap.size < w3.heap.size := by have h := hf.size; simp at h; omega))))
    all_goals
      have hgo := hlo.2
      have Hlo1 := Lib.hid hlo.1
      have hc4 := (h13.block _ (lt_of_block Hc1.out) (by simp)).trans Hc1.out
      have cl0 : w.heap.size + 1 < w1.heap.size := lt_of_block Hc1.out
      have hs12 := h12.size
      have hs13 := h13.size
      have hs23 := hf.size
      clear n10 n11 n20 n21 n30 n31 k20 k21 k30 k31 a0 a1
      have p0 := heap_eq_cell Hc1.out 0
      have p1 := heap_eq_cell Hc1.out 1
      have pz0 := heap_eq_frozen Hc1.out 0
      have pz1 := heap_eq_frozen Hc1.out 1
      have q0 := heap_eq_cell hc4 0
      have q1 := heap_eq_cell hc4 1
      have z0 := heap_eq_frozen hc4 0
      have z1 := heap_eq_frozen hc4 1
      have cl := lt_of_block hc4
      have Hc := Lib.hid hc4
      have Hgo := Lib.hid hgo
      have Hr := Lib.hid hr
      have Hf := Lib.hid (Hf1.out.trans0 h13)
      clear hlo hr hf h12 h13 hf0 hc4 hgo ho hr2
      obtain ⟨r1, r2, r3⟩ := r
      go_wp2
      (try simp only [Exit.inBlock, Exit.then])
      refine bodyPost_ret (big_result1 rfl (b := w.heap.size + 1) (x := .bool r1) (y := .slice ra r2.length rc) rfl ?_) rfl ⟨_, _, ⟨Hlo1.out, fun g hg => (by have h := Hgo.out g hg; (try simp at h); omega)⟩, rfl, ?_, ?_⟩
      · have h := Hc.out
        (repeat (first | rw [if_pos (by omega)] | rw [if_neg (by omega)] | rw [hp_drew] | rw [hp_drewN] | rw [hp_alloc_size] | rw [hp_setCell_size] | rw [hp_alloc] | rw [hp_setCell] | rw [Option.map_some] | rw [upd_cells] | rw [List.set_cons_zero] | rw [List.set_cons_succ] | rfl))
        first | exact h | (rw [h]; (repeat (first | rw [if_pos (by omega)] | rw [if_neg (by omega)] | rw [hp_drew] | rw [hp_drewN] | rw [hp_alloc_size] | rw [hp_setCell_size] | rw [hp_alloc] | rw [hp_setCell] | rw [Option.map_some] | rw [upd_cells] | rw [List.set_cons_zero] | rw [List.set_cons_succ] | rfl)))
      · refine Hr.out.keep fun x hx hl => ?_
        have h1 := Hgo.out x hx
        (try simp at h1); (try simp at hs23)
        repeat (first | rw [setCell_else _ _ _ (by simp; omega)] | rw [heap_alloc_else _ _ _ (by simp; omega)])
      · repeat (first | exact Hf.out | refine Fr.alloc ?_ _ | refine Fr.setCell ?_ (.inr (by first | (simp; done) | (simp; omega))) _)
end Go.Proofs.YtbacamboknmppaaDoor
