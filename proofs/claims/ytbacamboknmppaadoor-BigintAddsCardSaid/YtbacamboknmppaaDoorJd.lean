/- Big integers: Add, Compare, Neg. -/
import Derived.Test.YtbacamboknmppaaDoorJc
namespace Go.Proofs.YtbacamboknmppaaDoor
open Go Go.RowKit Go.Proofs.Rg Go.Proofs.Hp Go.Proofs.Bn
set_option linter.unusedVariables false
set_option linter.unusedSimpArgs false
theorem right_canon {neg : Bool} {ds : List Nat} (h : RightB neg ds = true) : Canon ds ∧ ds.length ≤ 64 ∧ (ds = [] → neg = false) := by
  unfold RightB at h
  by_cases h0 : ds.length = 0
  · rw [if_pos h0] at h
    obtain rfl := List.eq_nil_of_length_eq_zero h0
    exact ⟨by decide, by simp, fun _ => by simpa using h⟩
  · rw [if_neg h0] at h
    simp only [decide_eq_true_eq] at h
    refine ⟨?_, h.1, fun e => absurd (by rw [e]; rfl) h0⟩
    unfold Canon
    rw [List.getLast?_eq_getElem?, List.getElem?_eq_getElem (by omega)]
    intro e
    apply h.2
    rw [List.getD_eq_getElem?_getD, List.getElem?_eq_getElem (by omega)]
    exact Option.some.inj e
def addS (na : Bool) (da : List Nat) (nb : Bool) (db : List Nat) : Bool × List Nat × Int :=
  if (RightB na da && RightB nb db) = false then (false, [], 2) else if na = nb then mkN na (val 4294967296 da + val 4294967296 db)
  else if val 4294967296 da < val 4294967296 db then mkN nb (val 4294967296 db - val 4294967296 da) else mkN na (val 4294967296 da - val 4294967296 db)
theorem BigPost.mono {w w' : World} {A A' : Nat → Prop} {r : Bool × List Nat × Int} {e : Ending} (h : BigPost w A r e w') (hl : ∀ g, A g → A' g) : BigPost w A' r e w' := by
  obtain ⟨a, c, h1, h2⟩ := h
  exact ⟨a, c, ⟨h1.1, fun g hg => hl g (h1.2 g hg)⟩, h2⟩
set_option maxHeartbeats 8000000 in
set_option maxRecDepth 100000 in
theorem Add_calls {w : World} {na nb : Bool} {da db : List Nat} {va vb : Value} (ha : Reads w va da.length 1 (u32s da)) (hb : Reads w vb db.length 1 (u32s db)) (hDa : Dig 4294967296 da) (hDb : Dig 4294967296 db) (hla : da.length ≤ 10000) (hlb : db.length ≤ 10000) :
    Calls Tryd.prog 25 #[.agg #[.bool na, va], .agg #[.bool nb, vb]] w (BigPost w (w.heap.size ≤ ·) (addS na da nb db)) := by
  have hra := fun w1 (hf : Fr [] w w1) => Right_calls (neg := na) (ha.fr hf) (by omega)
  have hrb := fun w1 (hf : Fr [] w w1) => Right_calls (neg := nb) (hb.fr hf) (by omega)
  have Ha := Lib.hid ha
  have Hb := Lib.hid hb
  obtain ⟨_, a, ac, rfl, _⟩ := ha
  obtain ⟨_, b, bc, rfl, _⟩ := hb
  have Hra := Lib.hid hra
  have Hrb := Lib.hid hrb
  have HDa := Lib.hid hDa
  have HDb := Lib.hid hDb
  obtain ⟨r, hS⟩ : ∃ r, r = addS na da nb db := ⟨_, rfl⟩
  rw [← hS]
  unfold addS at hS
  clear hDa hDb hra hrb
  cases hR1 : RightB na da with
  | false =>
    rw [hR1] at hS
    simp only [Bool.false_and, if_true] at hS
    subst hS
    have Hra' := Lib.hid (fun w1 hf => hR1 ▸ Hra.out w1 hf)
    clear hR1
    go_enter Tryd.func25, Tryd.ntmps25
    go_wp2_with fail
    refine (Hra'.out _ (by (repeat (first | exact Fr.refl _ _ | assumption | apply Fr.drewN | apply Fr.drew | apply Fr.alloc | refine Fr.setCell ?_ (Or.inr (by simp; try omega)) _)))).mono ?_
    rintro e w1 ⟨rfl, hf⟩
    have hc := (hf.block (w.heap.size + 1 + 1) (by simp) (by simp)).trans (show _ = some (.cells #[.bool false, .slice none 0 0] 24 (0, 0)) by (repeat (first | rw [if_pos (by omega)] | rw [if_neg (by omega)] | rw [hp_drew] | rw [hp_drewN] | rw [hp_alloc_size] | rw [hp_setCell_size] | rw [hp_alloc] | rw [hp_setCell] | rw [Option.map_some] | rw [upd_cells] | rw [List.set_cons_zero] | rw [List.set_cons_succ] | rfl)))
    have c0 := heap_eq_cell hc 0
    have c1 := heap_eq_cell hc 1
    have z0 := heap_eq_frozen hc 0
    have z1 := heap_eq_frozen hc 1
    have cl := lt_of_block hc
    have Hc := Lib.hid hc
    have Hf := Lib.hid (Fr.trans0 (by (repeat (first | exact Fr.refl _ _ | assumption | apply Fr.drewN | apply Fr.drew | apply Fr.alloc | refine Fr.setCell ?_ (Or.inr (by simp; try omega)) _)) : Fr [] w _) hf)
    clear hf hc
    go_wp2
    (try simp only [Exit.inBlock, Exit.then])
    refine bodyPost_ret (big_result rfl (b := w.heap.size + 1 + 1) (x := .bool false) (y := .slice none 0 0) rfl ?_ rfl) rfl ⟨_, _, ⟨Nat.le_refl _, fun g hg => (by cases hg)⟩, rfl, reads_nil _, ?_⟩
    · have h := Hc.out
      (repeat (first | rw [if_pos (by omega)] | rw [if_neg (by omega)] | rw [hp_drew] | rw [hp_drewN] | rw [hp_alloc_size] | rw [hp_setCell_size] | rw [hp_alloc] | rw [hp_setCell] | rw [Option.map_some] | rw [upd_cells] | rw [List.set_cons_zero] | rw [List.set_cons_succ] | rfl))
      rw [h]
      (repeat (first | rw [if_pos (by omega)] | rw [if_neg (by omega)] | rw [hp_drew] | rw [hp_drewN] | rw [hp_alloc_size] | rw [hp_setCell_size] | rw [hp_alloc] | rw [hp_setCell] | rw [Option.map_some] | rw [upd_cells] | rw [List.set_cons_zero] | rw [List.set_cons_succ] | rfl))
    · exact (Hf.out.setCell (.inr (by simp; try omega)) _).setCell (.inr (by simp; try omega)) _
  | true =>
    have Hra' := Lib.hid (fun w1 hf => hR1 ▸ Hra.out w1 hf)
    obtain ⟨cA, lA, _⟩ := right_canon hR1
    have HcA := Lib.hid cA
    rw [hR1] at hS
    clear hR1 cA Hra
    cases hR2 : RightB nb db with
    | false =>
      rw [hR2] at hS
      simp only [Bool.and_false, if_true] at hS
      subst hS
      have Hrb' := Lib.hid (fun w1 hf => hR2 ▸ Hrb.out w1 hf)
      clear hR2
      go_enter Tryd.func25, Tryd.ntmps25
      go_wp2_with fail
      refine (Hra'.out _ (by (repeat (first | exact Fr.refl _ _ | assumption | apply Fr.drewN | apply Fr.drew | apply Fr.alloc | refine Fr.setCell ?_ (Or.inr (by simp; try omega)) _)))).mono ?_
      rintro e w1 ⟨rfl, hf⟩
      have hb := (hf.block (w.heap.size + 1) (by simp) (by simp)).trans (show _ = some (.cells #[.bool nb, .slice b db.length bc] 24 (0, 0)) by (repeat (first | rw [if_pos (by omega)] | rw [if_neg (by omega)] | rw [hp_drew] | rw [hp_drewN] | rw [hp_alloc_size] | rw [hp_setCell_size] | rw [hp_alloc] | rw [hp_setCell] | rw [Option.map_some] | rw [upd_cells] | rw [List.set_cons_zero] | rw [List.set_cons_succ] | rfl)))
      have b0 := heap_eq_cell hb 0
      have b1 := heap_eq_cell hb 1
      have bl := lt_of_block hb
      have Hc1 := Lib.hid ((hf.block (w.heap.size + 1 + 1) (by simp) (by simp)).trans (show _ = some (.cells #[.bool false, .slice none 0 0] 24 (0, 0)) by (repeat (first | rw [if_pos (by omega)] | rw [if_neg (by omega)] | rw [hp_drew] | rw [hp_drewN] | rw [hp_alloc_size] | rw [hp_setCell_size] | rw [hp_alloc] | rw [hp_setCell] | rw [Option.map_some] | rw [upd_cells] | rw [List.set_cons_zero] | rw [List.set_cons_succ] | rfl))))
      have Hf1 := Lib.hid (Fr.trans0 (by (repeat (first | exact Fr.refl _ _ | assumption | apply Fr.drewN | apply Fr.drew | apply Fr.alloc | refine Fr.setCell ?_ (Or.inr (by simp; try omega)) _)) : Fr [] w _) hf)
      clear hf hb
      go_wp2_with fail
      refine (Hrb'.out _ Hf1.out).mono ?_
      rintro e w2 ⟨rfl, hf⟩
      have hc := (hf.block _ (lt_of_block Hc1.out) (by simp)).trans Hc1.out
      have c0 := heap_eq_cell hc 0
      have c1 := heap_eq_cell hc 1
      have z0 := heap_eq_frozen hc 0
      have z1 := heap_eq_frozen hc 1
      have cl := lt_of_block hc
      have Hc := Lib.hid hc
      have Hf := Lib.hid (Hf1.out.trans0 hf)
      clear hf hc b0 b1
      go_wp2
      (try simp only [Exit.inBlock, Exit.then])
      refine bodyPost_ret (big_result rfl (b := w.heap.size + 1 + 1) (x := .bool false) (y := .slice none 0 0) rfl ?_ rfl) rfl ⟨_, _, ⟨Nat.le_refl _, fun g hg => (by cases hg)⟩, rfl, reads_nil _, ?_⟩
      · have h := Hc.out
        (repeat (first | rw [if_pos (by omega)] | rw [if_neg (by omega)] | rw [hp_drew] | rw [hp_drewN] | rw [hp_alloc_size] | rw [hp_setCell_size] | rw [hp_alloc] | rw [hp_setCell] | rw [Option.map_some] | rw [upd_cells] | rw [List.set_cons_zero] | rw [List.set_cons_succ] | rfl))
        rw [h]
        (repeat (first | rw [if_pos (by omega)] | rw [if_neg (by omega)] | rw [hp_drew] | rw [hp_drewN] | rw [hp_alloc_size] | rw [hp_setCell_size] | rw [hp_alloc] | rw [hp_setCell] | rw [Option.map_some] | rw [upd_cells] | rw [List.set_cons_zero] | rw [List.set_cons_succ] | rfl))
      · exact (Hf.out.setCell (.inr (by simp; try omega)) _).setCell (.inr (by simp; try omega)) _
    | true =>
      have Hrb' := Lib.hid (fun w1 hf => hR2 ▸ Hrb.out w1 hf)
      obtain ⟨cB, lB, _⟩ := right_canon hR2
      have HcB := Lib.hid cB
      rw [hR2] at hS
      simp only [Bool.and_self, Bool.true_eq_false, if_false] at hS
      have HS := Lib.hid hS
      clear hR2 cB Hrb hS
      go_enter Tryd.func25, Tryd.ntmps25
      go_wp2_with fail
      refine (Hra'.out _ (by (repeat (first | exact Fr.refl _ _ | assumption | apply Fr.drewN | apply Fr.drew | apply Fr.alloc | refine Fr.setCell ?_ (Or.inr (by simp; try omega)) _)))).mono ?_
      rintro e w1 ⟨rfl, hf⟩
      have hb := (hf.block (w.heap.size + 1) (by simp) (by simp)).trans (show _ = some (.cells #[.bool nb, .slice b db.length bc] 24 (0, 0)) by (repeat (first | rw [if_pos (by omega)] | rw [if_neg (by omega)] | rw [hp_drew] | rw [hp_drewN] | rw [hp_alloc_size] | rw [hp_setCell_size] | rw [hp_alloc] | rw [hp_setCell] | rw [Option.map_some] | rw [upd_cells] | rw [List.set_cons_zero] | rw [List.set_cons_succ] | rfl)))
      have b0 := heap_eq_cell hb 0
      have b1 := heap_eq_cell hb 1
      have bl := lt_of_block hb
      have Hb1 := Lib.hid hb
      have Ha1 := Lib.hid ((hf.block w.heap.size (by simp; omega) (by simp)).trans (show _ = some (.cells #[.bool na, .slice a da.length ac] 24 (0, 0)) by (repeat (first | rw [if_pos (by omega)] | rw [if_neg (by omega)] | rw [hp_drew] | rw [hp_drewN] | rw [hp_alloc_size] | rw [hp_setCell_size] | rw [hp_alloc] | rw [hp_setCell] | rw [Option.map_some] | rw [upd_cells] | rw [List.set_cons_zero] | rw [List.set_cons_succ] | rfl))))
      have Hc1 := Lib.hid ((hf.block (w.heap.size + 1 + 1) (by simp) (by simp)).trans (show _ = some (.cells #[.bool false, .slice none 0 0] 24 (0, 0)) by (repeat (first | rw [if_pos (by omega)] | rw [if_neg (by omega)] | rw [hp_drew] | rw [hp_drewN] | rw [hp_alloc_size] | rw [hp_setCell_size] | rw [hp_alloc] | rw [hp_setCell] | rw [Option.map_some] | rw [upd_cells] | rw [List.set_cons_zero] | rw [List.set_cons_succ] | rfl))))
      have Hf1 := Lib.hid (Fr.trans0 (by (repeat (first | exact Fr.refl _ _ | assumption | apply Fr.drewN | apply Fr.drew | apply Fr.alloc | refine Fr.setCell ?_ (Or.inr (by simp; try omega)) _)) : Fr [] w _) hf)
      clear hf hb
      go_wp2_with fail
      refine (Hrb'.out _ Hf1.out).mono ?_
      rintro e w2 ⟨rfl, hf⟩
      have hc2 := (hf.block _ (lt_of_block Hc1.out) (by simp)).trans Hc1.out
      have ha2 := (hf.block _ (lt_of_block Ha1.out) (by simp)).trans Ha1.out
      have hb2 := (hf.block _ (lt_of_block Hb1.out) (by simp)).trans Hb1.out
      clear b0 b1 bl
      have a0 := heap_eq_cell ha2 0
      have a1 := heap_eq_cell ha2 1
      have al := lt_of_block ha2
      have b0 := heap_eq_cell hb2 0
      have b1 := heap_eq_cell hb2 1
      have bl := lt_of_block hb2
      have Hc2 := Lib.hid hc2
      have Ha2 := Lib.hid ha2
      have Hb2 := Lib.hid hb2
      have Hf2 := Lib.hid (Hf1.out.trans0 hf)
      clear hf hc2 ha2 hb2
      by_cases hn : na = nb
      · subst hn
        have hS := HS.out
        rw [if_pos rfl] at hS
        have HS1 := Lib.hid hS
        clear hS HS
        go_wp2
        refine wp_region_segs [([0, 1, 2, 3, 4, 5, 6], [1]), ([7, 8, 9, 10, 11], [])] (by kernel_rfl) (by kernel_rfl) ?_
        (simp only [wpSegs, pick, Array.getD_eq_getD_getElem?, List.getElem?_toArray, List.getElem?_cons_succ, List.getElem?_cons_zero, Option.getD_some])
        go_wp2_with fail
        refine (plus_calls (Ha.out.fr (by have := Hf2.out; (repeat (first | exact Fr.refl _ _ | assumption | apply Fr.drewN | apply Fr.drew | apply Fr.alloc | refine Fr.setCell ?_ (Or.inr (by simp; try omega)) _)))) (Hb.out.fr (by have := Hf2.out; (repeat (first | exact Fr.refl _ _ | assumption | apply Fr.drewN | apply Fr.drew | apply Fr.alloc | refine Fr.setCell ?_ (Or.inr (by simp; try omega)) _)))) HDa.out HDb.out (by omega) (by omega)).mono ?_
        rintro e w3 ⟨pa, pc, ds, rfl, ho, hD, hV, hl, hlc, hf0⟩
        have hf : Fr [] w2 w3 := Fr.trans0 (by (repeat (first | exact Fr.refl _ _ | assumption | apply Fr.drewN | apply Fr.drew | apply Fr.alloc | refine Fr.setCell ?_ (Or.inr (by simp; try omega)) _))) hf0
        have ha3 := (hf.block _ al (by simp)).trans Ha2.out
        have a0' := heap_eq_cell ha3 0
        have a1' := heap_eq_cell ha3 1
        have al' := lt_of_block ha3
        have Ho3 := Lib.hid ho
        have HD3 := Lib.hid hD
        have HV3 := Lib.hid hV
        have Hl3 := Lib.hid hl
        have Hlc := Lib.hid hlc
        have Hc3 := Lib.hid ((hf.block _ (lt_of_block Hc2.out) (by simp)).trans Hc2.out)
        have Hf3 := Lib.hid (Hf2.out.trans0 hf)
        clear ho hD hV hl hlc hf hf0 ha3 a0 a1 al b0 b1 bl
        go_wp2
        refine Mid.intro ⟨⟨again_cell (T := 4) rfl rfl rfl Tryd.underlying4 rfl a0' rfl, trivial⟩, ?_⟩
        go_wp2_with fail
        refine (made_calls (neg := na) (Reads.of_owns Ho3.out) HD3.out (by have := Hl3.out; omega) Hlc.out (A := fun g => w2.heap.size ≤ g) (fun g hg => owns_ge Ho3.out hg)).mono ?_
        rintro e w4 ⟨ra, rc, hlo, rfl, hr, hf⟩
        rw [HV3.out, ← HS1.out] at hlo hr
        rw [HV3.out, ← HS1.out]
        have hc4 := (hf.block _ (lt_of_block Hc3.out) (by simp)).trans Hc3.out
        have c0 := heap_eq_cell hc4 0
        have c1 := heap_eq_cell hc4 1
        have z0 := heap_eq_frozen hc4 0
        have z1 := heap_eq_frozen hc4 1
        have cl := lt_of_block hc4
        have Hc := Lib.hid hc4
        have Hlo := Lib.hid hlo
        have Hr := Lib.hid hr
        have Hf := Lib.hid (Hf3.out.trans0 hf)
        have hcl2 : w.heap.size + 1 + 1 < w2.heap.size := lt_of_block Hc2.out
        have Hcl2 := Lib.hid hcl2
        clear hlo hr hf hc4 a0' a1' al' hcl2
        obtain ⟨r1, r2, r3⟩ := r
        go_wp2
        refine Mid.intro ⟨trivial, Strict.intro rfl ?_⟩
        go_wp2
        (try simp only [Exit.inBlock, Exit.then])
        refine bodyPost_ret (big_result rfl (b := w.heap.size + 1 + 1) (x := .bool r1) (y := .slice ra r2.length rc) rfl ?_ rfl) rfl ⟨_, _, ⟨Hlo.out.1, fun g hg => (by have := Hlo.out.2 g hg; have := Hcl2.out; omega)⟩, rfl, ?_, ?_⟩
        · have h := Hc.out
          (repeat (first | rw [if_pos (by omega)] | rw [if_neg (by omega)] | rw [hp_drew] | rw [hp_drewN] | rw [hp_alloc_size] | rw [hp_setCell_size] | rw [hp_alloc] | rw [hp_setCell] | rw [Option.map_some] | rw [upd_cells] | rw [List.set_cons_zero] | rw [List.set_cons_succ] | rfl))
          rw [h]
          (repeat (first | rw [if_pos (by omega)] | rw [if_neg (by omega)] | rw [hp_drew] | rw [hp_drewN] | rw [hp_alloc_size] | rw [hp_setCell_size] | rw [hp_alloc] | rw [hp_setCell] | rw [Option.map_some] | rw [upd_cells] | rw [List.set_cons_zero] | rw [List.set_cons_succ] | rfl))
        · refine Hr.out.keep fun x hx hl => ?_
          have := Hlo.out.2 x hx
          have hcl := Hcl2.out
          rw [setCell_else _ _ _ (by simp; omega), setCell_else _ _ _ (by simp; omega)]
        · exact (Hf.out.setCell (.inr (by simp; try omega)) _).setCell (.inr (by simp; try omega)) _
      · have hS := HS.out
        rw [if_neg hn] at hS
        have hnb : (na != nb) = true := by simpa using hn
        have hne : (na == nb) = false := by simpa using hn
        have HN := Lib.hid hn
        have hag := fun w3 (hf : Fr [] w w3) => against_calls (Ha.out.fr hf) (Hb.out.fr hf) HDa.out HDb.out HcA.out HcB.out (by omega) (by omega)
        clear hn HS
        by_cases hv : val 4294967296 da < val 4294967296 db
        · rw [if_pos hv] at hS
          have hc : cmpN (val 4294967296 da) (val 4294967296 db) = -1 := by unfold cmpN; rw [if_pos hv]
          rw [hc] at hag
          have hlen : da.length ≤ db.length := by
            rcases Nat.lt_or_ge db.length da.length with h | h
            · have := val_lt_len (by omega) HDb.out HDa.out HcA.out h; omega
            · exact h
          have HS1 := Lib.hid hS
          have Hlen := Lib.hid hlen
          have Hval := Lib.hid (Nat.le_of_lt hv)
          have Hag := Lib.hid hag
          clear hS hlen hc hag hv
          go_wp2_with fail
          refine (Hag.out _ Hf2.out).mono ?_
          rintro e w3 ⟨rfl, hd⟩
          have hf := hd.fr []
          have H23 := Lib.hid hf.size
          have ha3 := (hf.block _ al (by simp)).trans Ha2.out
          have hb3 := (hf.block _ bl (by simp)).trans Hb2.out
          have Hc3' := Lib.hid ((hf.block _ (lt_of_block Hc2.out) (by simp)).trans Hc2.out)
          have Hf3' := Lib.hid (Hf2.out.trans0 hf)
          clear a0 a1 al b0 b1 bl
          have a0 := heap_eq_cell ha3 0
          have a1 := heap_eq_cell ha3 1
          have al := lt_of_block ha3
          have b0 := heap_eq_cell hb3 0
          have b1 := heap_eq_cell hb3 1
          have bl := lt_of_block hb3
          have az0 := heap_eq_frozen ha3 0
          have az1 := heap_eq_frozen ha3 1
          have bz0 := heap_eq_frozen hb3 0
          have bz1 := heap_eq_frozen hb3 1
          have Ha3 := Lib.hid ha3
          have Hb3 := Lib.hid hb3
          clear hd hf ha3 hb3
          go_wp2
          refine abs_world (fun W => W.heap[w.heap.size]? = some (.cells #[.bool nb, .slice b db.length bc] 24 (0, 0)) ∧ W.heap[w.heap.size + 1]? = some (.cells #[.bool na, .slice a da.length ac] 24 (0, 0)) ∧
            W.heap[w.heap.size + 1 + 1]? = some (.cells #[.bool false, .slice none 0 0] 24 (0, 0)) ∧ Fr [] w W ∧ w2.heap.size ≤ W.heap.size) ?_ ?_
          · have ha3 := Ha3.out
            have hb3 := Hb3.out
            have hc3 := Hc3'.out
            refine ⟨by (repeat (first | rw [if_pos (by omega)] | rw [if_neg (by omega)] | rw [hp_drew] | rw [hp_drewN] | rw [hp_alloc_size] | rw [hp_setCell_size] | rw [hp_alloc] | rw [hp_setCell] | rw [Option.map_some] | rw [upd_cells] | rw [List.set_cons_zero] | rw [List.set_cons_succ] | rfl)); rw [ha3]; (repeat (first | rw [if_pos (by omega)] | rw [if_neg (by omega)] | rw [hp_drew] | rw [hp_drewN] | rw [hp_alloc_size] | rw [hp_setCell_size] | rw [hp_alloc] | rw [hp_setCell] | rw [Option.map_some] | rw [upd_cells] | rw [List.set_cons_zero] | rw [List.set_cons_succ] | rfl)), by (repeat (first | rw [if_pos (by omega)] | rw [if_neg (by omega)] | rw [hp_drew] | rw [hp_drewN] | rw [hp_alloc_size] | rw [hp_setCell_size] | rw [hp_alloc] | rw [hp_setCell] | rw [Option.map_some] | rw [upd_cells] | rw [List.set_cons_zero] | rw [List.set_cons_succ] | rfl)); rw [hb3]; (repeat (first | rw [if_pos (by omega)] | rw [if_neg (by omega)] | rw [hp_drew] | rw [hp_drewN] | rw [hp_alloc_size] | rw [hp_setCell_size] | rw [hp_alloc] | rw [hp_setCell] | rw [Option.map_some] | rw [upd_cells] | rw [List.set_cons_zero] | rw [List.set_cons_succ] | rfl)), by (repeat (first | rw [if_pos (by omega)] | rw [if_neg (by omega)] | rw [hp_drew] | rw [hp_drewN] | rw [hp_alloc_size] | rw [hp_setCell_size] | rw [hp_alloc] | rw [hp_setCell] | rw [Option.map_some] | rw [upd_cells] | rw [List.set_cons_zero] | rw [List.set_cons_succ] | rfl)); exact hc3, ?_, by simp only [hp_setCell_size]; exact H23.out⟩
            exact (((Hf3'.out.setCell (.inr (by simp; try omega)) _).setCell (.inr (by simp; try omega)) _).setCell (.inr (by simp; try omega)) _).setCell (.inr (by simp; try omega)) _
          clear a0 a1 al b0 b1 bl az0 az1 bz0 bz1
          rintro W5 ⟨ha5, hb5, hc5, hf5, h25⟩
          have a0 := heap_eq_cell ha5 0
          have a1 := heap_eq_cell ha5 1
          have al := lt_of_block ha5
          have b0 := heap_eq_cell hb5 0
          have b1 := heap_eq_cell hb5 1
          have bl := lt_of_block hb5
          have Ha5 := Lib.hid ha5
          have Hc5 := Lib.hid hc5
          have Hf5 := Lib.hid hf5
          have H25 := Lib.hid h25
          clear ha5 hb5 hc5 hf5 h25
          refine wp_region_segs [([0, 1, 2, 3, 4, 5, 6], [1]), ([7, 8, 9, 10, 11], [])] (by kernel_rfl) (by kernel_rfl) ?_
          (simp only [wpSegs, pick, Array.getD_eq_getD_getElem?, List.getElem?_toArray, List.getElem?_cons_succ, List.getElem?_cons_zero, Option.getD_some])
          go_wp2_with fail
          refine (minus_calls (Hb.out.fr ?q1) (Ha.out.fr ?q2) HDb.out HDa.out (by omega) Hlen.out Hval.out).mono ?_
          case q1 => have := Hf5.out; (repeat (first | exact Fr.refl _ _ | assumption | apply Fr.drewN | apply Fr.drew | apply Fr.alloc | refine Fr.setCell ?_ (Or.inr (by simp; try omega)) _))
          case q2 => have := Hf5.out; (repeat (first | exact Fr.refl _ _ | assumption | apply Fr.drewN | apply Fr.drew | apply Fr.alloc | refine Fr.setCell ?_ (Or.inr (by simp; try omega)) _))
          rintro e w6 ⟨pa, pc, ds, rfl, ho, hD, hV, hl, hlc, hf0⟩
          have hf : Fr [] W5 w6 := Fr.trans0 (by (repeat (first | exact Fr.refl _ _ | assumption | apply Fr.drewN | apply Fr.drew | apply Fr.alloc | refine Fr.setCell ?_ (Or.inr (by simp; try omega)) _))) hf0
          have ha3 := (hf.block _ al (by simp)).trans Ha5.out
          have a0' := heap_eq_cell ha3 0
          have a1' := heap_eq_cell ha3 1
          have al' := lt_of_block ha3
          have Ho3 := Lib.hid ho
          have HD3 := Lib.hid hD
          have HV3 := Lib.hid hV
          have Hl3 := Lib.hid hl
          have Hlc := Lib.hid hlc
          have Hc3 := Lib.hid ((hf.block _ (lt_of_block Hc5.out) (by simp)).trans Hc5.out)
          have Hf3 := Lib.hid (Hf5.out.trans0 hf)
          clear ho hD hV hl hlc hf hf0 ha3 a0 a1 al b0 b1 bl
          go_wp2
          refine Mid.intro ⟨⟨again_cell (T := 4) rfl rfl rfl Tryd.underlying4 rfl a0' rfl, trivial⟩, ?_⟩
          go_wp2_with fail
          refine (made_calls (neg := nb) (Reads.of_owns Ho3.out) HD3.out (by have := Hl3.out; omega) Hlc.out (A := fun g => w2.heap.size ≤ g) (fun g hg => by have h1 : W5.heap.size ≤ g := owns_ge Ho3.out hg; have := H25.out; omega)).mono ?_
          rintro e w7 ⟨ra, rc, hlo, rfl, hr, hf⟩
          rw [HV3.out, ← HS1.out] at hlo hr
          rw [HV3.out, ← HS1.out]
          have hc4 := (hf.block _ (lt_of_block Hc3.out) (by simp)).trans Hc3.out
          have c0 := heap_eq_cell hc4 0
          have c1 := heap_eq_cell hc4 1
          have z0 := heap_eq_frozen hc4 0
          have z1 := heap_eq_frozen hc4 1
          have cl := lt_of_block hc4
          have Hc := Lib.hid hc4
          have Hlo := Lib.hid hlo
          have Hr := Lib.hid hr
          have Hf := Lib.hid (Hf3.out.trans0 hf)
          have hcl2 : w.heap.size + 1 + 1 < w2.heap.size := lt_of_block Hc2.out
          have Hcl2 := Lib.hid hcl2
          clear hlo hr hf hc4 a0' a1' al' hcl2
          obtain ⟨r1, r2, r3⟩ := r
          go_wp2
          refine Mid.intro ⟨trivial, Strict.intro rfl ?_⟩
          go_wp2
          (try simp only [Exit.inBlock, Exit.then])
          refine bodyPost_ret (big_result rfl (b := w.heap.size + 1 + 1) (x := .bool r1) (y := .slice ra r2.length rc) rfl ?_ rfl) rfl ⟨_, _, ⟨Hlo.out.1, fun g hg => (by have := Hlo.out.2 g hg; have := Hcl2.out; omega)⟩, rfl, ?_, ?_⟩
          · have h := Hc.out
            (repeat (first | rw [if_pos (by omega)] | rw [if_neg (by omega)] | rw [hp_drew] | rw [hp_drewN] | rw [hp_alloc_size] | rw [hp_setCell_size] | rw [hp_alloc] | rw [hp_setCell] | rw [Option.map_some] | rw [upd_cells] | rw [List.set_cons_zero] | rw [List.set_cons_succ] | rfl))
            rw [h]
            (repeat (first | rw [if_pos (by omega)] | rw [if_neg (by omega)] | rw [hp_drew] | rw [hp_drewN] | rw [hp_alloc_size] | rw [hp_setCell_size] | rw [hp_alloc] | rw [hp_setCell] | rw [Option.map_some] | rw [upd_cells] | rw [List.set_cons_zero] | rw [List.set_cons_succ] | rfl))
          · refine Hr.out.keep fun x hx hl => ?_
            have := Hlo.out.2 x hx
            have hcl := Hcl2.out
            rw [setCell_else _ _ _ (by simp; omega), setCell_else _ _ _ (by simp; omega)]
          · exact (Hf.out.setCell (.inr (by simp; try omega)) _).setCell (.inr (by simp; try omega)) _
        · rw [if_neg hv] at hS
          have hc : 0 ≤ cmpN (val 4294967296 da) (val 4294967296 db) := by unfold cmpN; rw [if_neg hv]; split <;> omega
          have hlen : db.length ≤ da.length := by
            rcases Nat.lt_or_ge da.length db.length with h | h
            · have := val_lt_len (by omega) HDa.out HDb.out HcB.out h; omega
            · exact h
          obtain ⟨q, hq⟩ : ∃ q, cmpN (val 4294967296 da) (val 4294967296 db) = q := ⟨_, rfl⟩
          rw [hq] at hag hc
          have HS1 := Lib.hid hS
          have Hlen := Lib.hid hlen
          have Hval := Lib.hid (Nat.le_of_not_lt hv)
          have Hag := Lib.hid hag
          have hqd : decide (q < 0) = false := by simp; omega
          clear hS hlen hag hv hq
          go_wp2_with fail
          refine (Hag.out _ Hf2.out).mono ?_
          rintro e W5 ⟨rfl, hd⟩
          have hf := hd.fr []
          have H25 := Lib.hid hf.size
          have ha3 := (hf.block _ al (by simp)).trans Ha2.out
          have hb3 := (hf.block _ bl (by simp)).trans Hb2.out
          have Hc5 := Lib.hid ((hf.block _ (lt_of_block Hc2.out) (by simp)).trans Hc2.out)
          have Hf5 := Lib.hid (Hf2.out.trans0 hf)
          clear a0 a1 al b0 b1 bl
          have a0 := heap_eq_cell ha3 0
          have a1 := heap_eq_cell ha3 1
          have al := lt_of_block ha3
          have b0 := heap_eq_cell hb3 0
          have b1 := heap_eq_cell hb3 1
          have bl := lt_of_block hb3
          have Ha5 := Lib.hid ha3
          clear hd hf ha3 hb3
          go_wp2
          refine wp_region_segs [([0, 1, 2, 3, 4, 5, 6], [1]), ([7, 8, 9, 10, 11], [])] (by kernel_rfl) (by kernel_rfl) ?_
          (simp only [wpSegs, pick, Array.getD_eq_getD_getElem?, List.getElem?_toArray, List.getElem?_cons_succ, List.getElem?_cons_zero, Option.getD_some])
          go_wp2_with fail
          refine (minus_calls (Ha.out.fr ?q1) (Hb.out.fr ?q2) HDa.out HDb.out (by omega) Hlen.out Hval.out).mono ?_
          case q1 => have := Hf5.out; (repeat (first | exact Fr.refl _ _ | assumption | apply Fr.drewN | apply Fr.drew | apply Fr.alloc | refine Fr.setCell ?_ (Or.inr (by simp; try omega)) _))
          case q2 => have := Hf5.out; (repeat (first | exact Fr.refl _ _ | assumption | apply Fr.drewN | apply Fr.drew | apply Fr.alloc | refine Fr.setCell ?_ (Or.inr (by simp; try omega)) _))
          rintro e w6 ⟨pa, pc, ds, rfl, ho, hD, hV, hl, hlc, hf0⟩
          have hf : Fr [] W5 w6 := Fr.trans0 (by (repeat (first | exact Fr.refl _ _ | assumption | apply Fr.drewN | apply Fr.drew | apply Fr.alloc | refine Fr.setCell ?_ (Or.inr (by simp; try omega)) _))) hf0
          have ha3 := (hf.block _ al (by simp)).trans Ha5.out
          have a0' := heap_eq_cell ha3 0
          have a1' := heap_eq_cell ha3 1
          have al' := lt_of_block ha3
          have Ho3 := Lib.hid ho
          have HD3 := Lib.hid hD
          have HV3 := Lib.hid hV
          have Hl3 := Lib.hid hl
          have Hlc := Lib.hid hlc
          have Hc3 := Lib.hid ((hf.block _ (lt_of_block Hc5.out) (by simp)).trans Hc5.out)
          have Hf3 := Lib.hid (Hf5.out.trans0 hf)
          clear ho hD hV hl hlc hf hf0 ha3 a0 a1 al b0 b1 bl
          go_wp2
          refine Mid.intro ⟨⟨again_cell (T := 4) rfl rfl rfl Tryd.underlying4 rfl a0' rfl, trivial⟩, ?_⟩
          go_wp2_with fail
          refine (made_calls (neg := na) (Reads.of_owns Ho3.out) HD3.out (by have := Hl3.out; omega) Hlc.out (A := fun g => w2.heap.size ≤ g) (fun g hg => by have h1 : W5.heap.size ≤ g := owns_ge Ho3.out hg; have := H25.out; omega)).mono ?_
          rintro e w7 ⟨ra, rc, hlo, rfl, hr, hf⟩
          rw [HV3.out, ← HS1.out] at hlo hr
          rw [HV3.out, ← HS1.out]
          have hc4 := (hf.block _ (lt_of_block Hc3.out) (by simp)).trans Hc3.out
          have c0 := heap_eq_cell hc4 0
          have c1 := heap_eq_cell hc4 1
          have z0 := heap_eq_frozen hc4 0
          have z1 := heap_eq_frozen hc4 1
          have cl := lt_of_block hc4
          have Hc := Lib.hid hc4
          have Hlo := Lib.hid hlo
          have Hr := Lib.hid hr
          have Hf := Lib.hid (Hf3.out.trans0 hf)
          have hcl2 : w.heap.size + 1 + 1 < w2.heap.size := lt_of_block Hc2.out
          have Hcl2 := Lib.hid hcl2
          clear hlo hr hf hc4 a0' a1' al' hcl2
          obtain ⟨r1, r2, r3⟩ := r
          go_wp2
          refine Mid.intro ⟨trivial, Strict.intro rfl ?_⟩
          go_wp2
          (try simp only [Exit.inBlock, Exit.then])
          refine bodyPost_ret (big_result rfl (b := w.heap.size + 1 + 1) (x := .bool r1) (y := .slice ra r2.length rc) rfl ?_ rfl) rfl ⟨_, _, ⟨Hlo.out.1, fun g hg => (by have := Hlo.out.2 g hg; have := Hcl2.out; omega)⟩, rfl, ?_, ?_⟩
          · have h := Hc.out
            (repeat (first | rw [if_pos (by omega)] | rw [if_neg (by omega)] | rw [hp_drew] | rw [hp_drewN] | rw [hp_alloc_size] | rw [hp_setCell_size] | rw [hp_alloc] | rw [hp_setCell] | rw [Option.map_some] | rw [upd_cells] | rw [List.set_cons_zero] | rw [List.set_cons_succ] | rfl))
            rw [h]
            (repeat (first | rw [if_pos (by omega)] | rw [if_neg (by omega)] | rw [hp_drew] | rw [hp_drewN] | rw [hp_alloc_size] | rw [hp_setCell_size] | rw [hp_alloc] | rw [hp_setCell] | rw [Option.map_some] | rw [upd_cells] | rw [List.set_cons_zero] | rw [List.set_cons_succ] | rfl))
          · refine Hr.out.keep fun x hx hl => ?_
            have := Hlo.out.2 x hx
            have hcl := Hcl2.out
            rw [setCell_else _ _ _ (by simp; omega), setCell_else _ _ _ (by simp; omega)]
          · exact (Hf.out.setCell (.inr (by simp; try omega)) _).setCell (.inr (by simp; try omega)) _
end Go.Proofs.YtbacamboknmppaaDoor
