/- The reference of big integers: Compare. -/
import Derived.Test.YtbacamboknmppaaDoorKf
namespace Go.Proofs.YtbacamboknmppaaDoor
open Go Go.RowKit Go.Proofs.Rg Go.Proofs.Hp Go.Proofs.Bn
set_option linter.unusedVariables false
set_option linter.unusedSimpArgs false
set_option maxHeartbeats 8000000 in
set_option maxRecDepth 100000 in
theorem RCompare_calls {w : World} {na nb : Bool} {da db : List Nat} {va vb : Value} (ha : Reads w va da.length 1 (u32s da)) (hb : Reads w vb db.length 1 (u32s db)) (hDa : Dig 4294967296 da) (hDb : Dig 4294967296 db) (hla : da.length ≤ 10000) (hlb : db.length ≤ 10000) :
    Calls Tryd.prog 34 #[.agg #[.bool na, va], .agg #[.bool nb, vb]] w fun e w' => e = .returned (.int .i64 (cmpS na da nb db)) ∧ Fr [] w w' := by
  have hra := fun w1 (hf : Fr [] w w1) => RRight_calls (neg := na) (ha.fr hf) (by omega)
  have hrb := fun w1 (hf : Fr [] w w1) => RRight_calls (neg := nb) (hb.fr hf) (by omega)
  have Ha0 := Lib.hid ha
  have Hb0 := Lib.hid hb
  obtain ⟨_, a, ac, rfl, _⟩ := ha
  obtain ⟨_, b, bc, rfl, _⟩ := hb
  have HDa := Lib.hid hDa
  have HDb := Lib.hid hDb
  obtain ⟨r, hS⟩ : ∃ r, r = cmpS na da nb db := ⟨_, rfl⟩
  rw [← hS]
  unfold cmpS at hS
  clear hDa hDb
  cases hR1 : RightB na da with
  | false =>
    rw [hR1] at hra hS
    simp only [Bool.false_and, if_true] at hS
    subst hS
    have Hra := Lib.hid hra
    clear hR1 hra hrb
    go_enter Tryd.func34, Tryd.ntmps34
    go_wp2_with fail
    refine (Hra.out _ (by (repeat (first | exact Fr.refl _ _ | assumption | apply Fr.drewN | apply Fr.drew | apply Fr.alloc | refine Fr.setCell ?_ (Or.inr (by simp; try omega)) _)))).mono ?_
    rintro e w1 ⟨rfl, hf⟩
    have ha_ := (hf.block (w.heap.size) (by first | (simp; done) | (simp; omega)) (by simp)).trans (show _ = some (.cells #[.bool na, .slice a da.length ac] 24 (0, 0)) by (repeat (first | rw [if_pos (by omega)] | rw [if_neg (by omega)] | rw [hp_drew] | rw [hp_drewN] | rw [hp_alloc_size] | rw [hp_setCell_size] | rw [hp_alloc] | rw [hp_setCell] | rw [Option.map_some] | rw [upd_cells] | rw [List.set_cons_zero] | rw [List.set_cons_succ] | rfl)))
    have a0 := heap_eq_cell ha_ 0
    have a1 := heap_eq_cell ha_ 1
    have al := lt_of_block ha_
    have Ha := Lib.hid ha_
    clear ha_
    have hb_ := (hf.block (w.heap.size + 1) (by first | (simp; done) | (simp; omega)) (by simp)).trans (show _ = some (.cells #[.bool nb, .slice b db.length bc] 24 (0, 0)) by (repeat (first | rw [if_pos (by omega)] | rw [if_neg (by omega)] | rw [hp_drew] | rw [hp_drewN] | rw [hp_alloc_size] | rw [hp_setCell_size] | rw [hp_alloc] | rw [hp_setCell] | rw [Option.map_some] | rw [upd_cells] | rw [List.set_cons_zero] | rw [List.set_cons_succ] | rfl)))
    have b0 := heap_eq_cell hb_ 0
    have b1 := heap_eq_cell hb_ 1
    have bl := lt_of_block hb_
    have Hb := Lib.hid hb_
    clear hb_
    have Hf := Lib.hid (Fr.trans0 (by (repeat (first | exact Fr.refl _ _ | assumption | apply Fr.drewN | apply Fr.drew | apply Fr.alloc | refine Fr.setCell ?_ (Or.inr (by simp; try omega)) _)) : Fr [] w _) hf)
    clear hf
    go_wp2
    go_ret
    exact ⟨rfl, Hf.out⟩
  | true =>
    rw [hR1] at hra
    have Hra := Lib.hid hra
    obtain ⟨cA, lA, nA⟩ := right_canon hR1
    rw [hR1] at hS
    clear hR1 hra nA
    cases hR2 : RightB nb db with
    | false =>
      rw [hR2] at hrb hS
      simp only [Bool.and_false, if_true] at hS
      subst hS
      have Hrb := Lib.hid hrb
      clear hR2 hrb
      go_enter Tryd.func34, Tryd.ntmps34
      go_wp2_with fail
      refine (Hra.out _ (by (repeat (first | exact Fr.refl _ _ | assumption | apply Fr.drewN | apply Fr.drew | apply Fr.alloc | refine Fr.setCell ?_ (Or.inr (by simp; try omega)) _)))).mono ?_
      rintro e w1 ⟨rfl, hf⟩
      have ha_ := (hf.block (w.heap.size) (by first | (simp; done) | (simp; omega)) (by simp)).trans (show _ = some (.cells #[.bool na, .slice a da.length ac] 24 (0, 0)) by (repeat (first | rw [if_pos (by omega)] | rw [if_neg (by omega)] | rw [hp_drew] | rw [hp_drewN] | rw [hp_alloc_size] | rw [hp_setCell_size] | rw [hp_alloc] | rw [hp_setCell] | rw [Option.map_some] | rw [upd_cells] | rw [List.set_cons_zero] | rw [List.set_cons_succ] | rfl)))
      have a0 := heap_eq_cell ha_ 0
      have a1 := heap_eq_cell ha_ 1
      have al := lt_of_block ha_
      have Ha := Lib.hid ha_
      clear ha_
      have hb_ := (hf.block (w.heap.size + 1) (by first | (simp; done) | (simp; omega)) (by simp)).trans (show _ = some (.cells #[.bool nb, .slice b db.length bc] 24 (0, 0)) by (repeat (first | rw [if_pos (by omega)] | rw [if_neg (by omega)] | rw [hp_drew] | rw [hp_drewN] | rw [hp_alloc_size] | rw [hp_setCell_size] | rw [hp_alloc] | rw [hp_setCell] | rw [Option.map_some] | rw [upd_cells] | rw [List.set_cons_zero] | rw [List.set_cons_succ] | rfl)))
      have b0 := heap_eq_cell hb_ 0
      have b1 := heap_eq_cell hb_ 1
      have bl := lt_of_block hb_
      have Hb := Lib.hid hb_
      clear hb_
      have Hf := Lib.hid (Fr.trans0 (by (repeat (first | exact Fr.refl _ _ | assumption | apply Fr.drewN | apply Fr.drew | apply Fr.alloc | refine Fr.setCell ?_ (Or.inr (by simp; try omega)) _)) : Fr [] w _) hf)
      clear hf
      go_wp2_with fail
      refine (Hrb.out _ Hf.out).mono ?_
      rintro e w2 ⟨rfl, hf⟩
      (try clear a0)
      (try clear a1)
      (try clear al)
      have ha_ := (hf.block _ (lt_of_block Ha.out) (by simp)).trans Ha.out
      clear Ha
      have a0 := heap_eq_cell ha_ 0
      have a1 := heap_eq_cell ha_ 1
      have al := lt_of_block ha_
      have Ha := Lib.hid ha_
      clear ha_
      (try clear b0)
      (try clear b1)
      (try clear bl)
      have hb_ := (hf.block _ (lt_of_block Hb.out) (by simp)).trans Hb.out
      clear Hb
      have b0 := heap_eq_cell hb_ 0
      have b1 := heap_eq_cell hb_ 1
      have bl := lt_of_block hb_
      have Hb := Lib.hid hb_
      clear hb_
      have Hf := Lib.hid (Hf.out.trans0 hf)
      clear hf
      go_wp2
      go_ret
      exact ⟨rfl, Hf.out⟩
    | true =>
      rw [hR2] at hrb hS
      simp only [Bool.and_self, Bool.true_eq_false, if_false] at hS
      have Hrb := Lib.hid hrb
      obtain ⟨cB, lB, nB⟩ := right_canon hR2
      have HcA := Lib.hid cA
      have HcB := Lib.hid cB
      have HS := Lib.hid hS
      clear hR2 hrb cA cB hS nB
      go_enter Tryd.func34, Tryd.ntmps34
      go_wp2_with fail
      refine (Hra.out _ (by (repeat (first | exact Fr.refl _ _ | assumption | apply Fr.drewN | apply Fr.drew | apply Fr.alloc | refine Fr.setCell ?_ (Or.inr (by simp; try omega)) _)))).mono ?_
      rintro e w1 ⟨rfl, hf⟩
      have ha_ := (hf.block (w.heap.size) (by first | (simp; done) | (simp; omega)) (by simp)).trans (show _ = some (.cells #[.bool na, .slice a da.length ac] 24 (0, 0)) by (repeat (first | rw [if_pos (by omega)] | rw [if_neg (by omega)] | rw [hp_drew] | rw [hp_drewN] | rw [hp_alloc_size] | rw [hp_setCell_size] | rw [hp_alloc] | rw [hp_setCell] | rw [Option.map_some] | rw [upd_cells] | rw [List.set_cons_zero] | rw [List.set_cons_succ] | rfl)))
      have a0 := heap_eq_cell ha_ 0
      have a1 := heap_eq_cell ha_ 1
      have al := lt_of_block ha_
      have Ha := Lib.hid ha_
      clear ha_
      have hb_ := (hf.block (w.heap.size + 1) (by first | (simp; done) | (simp; omega)) (by simp)).trans (show _ = some (.cells #[.bool nb, .slice b db.length bc] 24 (0, 0)) by (repeat (first | rw [if_pos (by omega)] | rw [if_neg (by omega)] | rw [hp_drew] | rw [hp_drewN] | rw [hp_alloc_size] | rw [hp_setCell_size] | rw [hp_alloc] | rw [hp_setCell] | rw [Option.map_some] | rw [upd_cells] | rw [List.set_cons_zero] | rw [List.set_cons_succ] | rfl)))
      have b0 := heap_eq_cell hb_ 0
      have b1 := heap_eq_cell hb_ 1
      have bl := lt_of_block hb_
      have Hb := Lib.hid hb_
      clear hb_
      have Hf := Lib.hid (Fr.trans0 (by (repeat (first | exact Fr.refl _ _ | assumption | apply Fr.drewN | apply Fr.drew | apply Fr.alloc | refine Fr.setCell ?_ (Or.inr (by simp; try omega)) _)) : Fr [] w _) hf)
      clear hf
      go_wp2_with fail
      refine (Hrb.out _ Hf.out).mono ?_
      rintro e w2 ⟨rfl, hf⟩
      (try clear a0)
      (try clear a1)
      (try clear al)
      have ha_ := (hf.block _ (lt_of_block Ha.out) (by simp)).trans Ha.out
      clear Ha
      have a0 := heap_eq_cell ha_ 0
      have a1 := heap_eq_cell ha_ 1
      have al := lt_of_block ha_
      have Ha := Lib.hid ha_
      clear ha_
      (try clear b0)
      (try clear b1)
      (try clear bl)
      have hb_ := (hf.block _ (lt_of_block Hb.out) (by simp)).trans Hb.out
      clear Hb
      have b0 := heap_eq_cell hb_ 0
      have b1 := heap_eq_cell hb_ 1
      have bl := lt_of_block hb_
      have Hb := Lib.hid hb_
      clear hb_
      have Hf := Lib.hid (Hf.out.trans0 hf)
      clear hf
      go_wp2
      refine wp_region_segs [([0, 2, 1], [2]), ([3, 4, 5], [])] (by kernel_rfl) (by kernel_rfl) ?_
      (simp only [wpSegs, pick, Array.getD_eq_getD_getElem?, List.getElem?_toArray, List.getElem?_cons_succ, List.getElem?_cons_zero, Option.getD_some])
      go_wp2_with fail
      refine (bytes_calls (neg := na) (Ha0.out.fr (by have := Hf.out; (repeat (first | exact Fr.refl _ _ | assumption | apply Fr.drewN | apply Fr.drew | apply Fr.alloc | refine Fr.setCell ?_ (Or.inr (by simp; try omega)) _)))) HDa.out (by omega)).mono ?_
      rintro e w3 ⟨xa, xc, hlo, rfl, hr, hf0⟩
      have hf : Fr [] w2 w3 := Fr.trans0 (by (repeat (first | exact Fr.refl _ _ | assumption | apply Fr.drewN | apply Fr.drew | apply Fr.alloc | refine Fr.setCell ?_ (Or.inr (by simp; try omega)) _))) hf0
      (try clear a0)
      (try clear a1)
      (try clear al)
      have ha_ := (hf.block _ (lt_of_block Ha.out) (by simp)).trans Ha.out
      clear Ha
      have a0 := heap_eq_cell ha_ 0
      have a1 := heap_eq_cell ha_ 1
      have al := lt_of_block ha_
      have Ha := Lib.hid ha_
      clear ha_
      (try clear b0)
      (try clear b1)
      (try clear bl)
      have hb_ := (hf.block _ (lt_of_block Hb.out) (by simp)).trans Hb.out
      clear Hb
      have b0 := heap_eq_cell hb_ 0
      have b1 := heap_eq_cell hb_ 1
      have bl := lt_of_block hb_
      have Hb := Lib.hid hb_
      clear hb_
      have Hf := Lib.hid (Hf.out.trans0 hf)
      have Hx := Lib.hid hr
      have Hxc := Lib.hid hlo.1
      clear hf hf0 hr hlo
      go_wp2
      refine Mid.intro ⟨⟨again_row (T := 24) (cs := [.bool nb, .slice b db.length bc]) rfl rfl rfl Tryd.underlying24 rfl (by kernel_rfl) (fun j v hj => ?rng) rfl, trivial⟩, ?_⟩
      case rng =>
        rw [Nat.zero_add, heap_eq_cell Hb.out, ← hj]
        exact (Array.getElem?_toList (xs := #[Value.bool nb, .slice b db.length bc])).symm
      go_wp2_with fail
      refine (bytes_calls (neg := nb) (Hb0.out.fr Hf.out) HDb.out (by omega)).mono ?_
      rintro e w4 ⟨ya, yc, hlo, rfl, hr, hf⟩
      (try clear a0)
      (try clear a1)
      (try clear al)
      have ha_ := (hf.block _ (lt_of_block Ha.out) (by simp)).trans Ha.out
      clear Ha
      have a0 := heap_eq_cell ha_ 0
      have a1 := heap_eq_cell ha_ 1
      have al := lt_of_block ha_
      have Ha := Lib.hid ha_
      clear ha_
      (try clear b0)
      (try clear b1)
      (try clear bl)
      have hb_ := (hf.block _ (lt_of_block Hb.out) (by simp)).trans Hb.out
      clear Hb
      have b0 := heap_eq_cell hb_ 0
      have b1 := heap_eq_cell hb_ 1
      have bl := lt_of_block hb_
      have Hb := Lib.hid hb_
      clear hb_
      have Hf := Lib.hid (Hf.out.trans0 hf)
      have Hx := Lib.hid (Hx.out.fr hf)
      have Hy := Lib.hid hr
      have Hyc := Lib.hid hlo.1
      clear hf hr hlo
      go_wp2
      refine Mid.intro ⟨trivial, Strict.intro rfl ?_⟩
      obtain ⟨Va, hVa⟩ : ∃ Va, val 4294967296 da = Va := ⟨_, rfl⟩
      obtain ⟨Vb, hVb⟩ : ∃ Vb, val 4294967296 db = Vb := ⟨_, rfl⟩
      rw [hVa] at Hx HS Hxc ⊢
      rw [hVb] at Hy HS Hyc ⊢
      obtain ⟨X, hX⟩ : ∃ X, dg 256 Va = X := ⟨_, rfl⟩
      obtain ⟨Y, hY⟩ : ∃ Y, dg 256 Vb = Y := ⟨_, rfl⟩
      have hXV : val 256 X = Va := by rw [← hX]; exact val_dg (by omega) Va
      have hYV : val 256 Y = Vb := by rw [← hY]; exact val_dg (by omega) Vb
      have hXD : Dig 256 X := by rw [← hX]; exact dg_dig (by omega) Va
      have hYD : Dig 256 Y := by rw [← hY]; exact dg_dig (by omega) Vb
      have hXC : Canon X := by rw [← hX]; exact dg_canon (by omega) Va
      have hYC : Canon Y := by rw [← hY]; exact dg_canon (by omega) Vb
      have hlen : ∀ (ds : List Nat) V, Dig 4294967296 ds → ds.length ≤ 64 → val 4294967296 ds = V → (dg 256 V).length ≤ 256 := by
        intro ds V hD hl h
        rw [dg_length_le (by omega), show 256 ^ 256 = 4294967296 ^ 64 from pow256 64, ← h]
        exact Nat.lt_of_lt_of_le (val_lt hD) (Nat.pow_le_pow_right (by omega) hl)
      have hXl := hlen _ _ HDa.out lA hVa
      have hYl := hlen _ _ HDb.out lB hVb
      rw [hX] at Hx Hxc hXl ⊢
      rw [hY] at Hy Hyc hYl ⊢
      have HXV := Lib.hid hXV
      have HYV := Lib.hid hYV
      have HXD := Lib.hid hXD
      have HYD := Lib.hid hYD
      have HXC := Lib.hid hXC
      have HYC := Lib.hid hYC
      clear hVa hVb hX hY hXV hYV hXD hYD hXC hYC hlen
      cases na <;> cases nb
      ·
        have hc := HS.out
        simp only [if_true, Bool.false_eq_true, if_false] at hc
        have Hc := Lib.hid hc
        clear hc HS
        have Hl1 := Lib.hid (fun w1 (hf1 : Fr [] w4 w1) => less_calls (Hx.out.fr hf1) (Hy.out.fr hf1) HXD.out HYD.out HXC.out HYC.out (by omega) (by omega))
        have Hl2 := Lib.hid (fun w1 (hf1 : Fr [] w4 w1) => less_calls (Hy.out.fr hf1) (Hx.out.fr hf1) HYD.out HXD.out HYC.out HXC.out (by omega) (by omega))
        go_wp2_with fail
        refine (Hl1.out _ (by (repeat (first | exact Fr.refl _ _ | assumption | apply Fr.drewN | apply Fr.drew | apply Fr.alloc | refine Fr.setCell ?_ (Or.inr (by simp; try omega)) _)))).mono ?_
        rintro e w5 ⟨rfl, n5, rfl⟩
        rw [HXV.out, HYV.out]
        by_cases h1 : Va < Vb
        · have hr : r = -1 := by rw [Hc.out]; unfold cmpN; rw [if_pos h1]
          rw [decide_eq_true h1]
          have Hr := Lib.hid hr
          clear hr h1
          go_wp2
          go_ret
          exact ⟨by rw [Hr.out]; rfl, by have := Hf.out; (repeat (first | exact Fr.refl _ _ | assumption | apply Fr.drewN | apply Fr.drew | apply Fr.alloc | refine Fr.setCell ?_ (Or.inr (by simp; try omega)) _))⟩
        · rw [decide_eq_false h1]
          have Hh1 := Lib.hid h1
          clear h1
          go_wp2_with fail
          refine (Hl2.out _ (by (repeat (first | exact Fr.refl _ _ | assumption | apply Fr.drewN | apply Fr.drew | apply Fr.alloc | refine Fr.setCell ?_ (Or.inr (by simp; try omega)) _)))).mono ?_
          rintro e w6 ⟨rfl, n6, rfl⟩
          rw [HXV.out, HYV.out]
          by_cases h2 : Vb < Va
          · have hr : r = 1 := by rw [Hc.out]; unfold cmpN; rw [if_neg Hh1.out, if_pos h2]
            rw [decide_eq_true h2]
            have Hr := Lib.hid hr
            clear hr h2
            go_wp2
            go_ret
            exact ⟨by rw [Hr.out]; rfl, by have := Hf.out; (repeat (first | exact Fr.refl _ _ | assumption | apply Fr.drewN | apply Fr.drew | apply Fr.alloc | refine Fr.setCell ?_ (Or.inr (by simp; try omega)) _))⟩
          · have hr : r = 0 := by rw [Hc.out]; unfold cmpN; rw [if_neg Hh1.out, if_neg h2]
            rw [decide_eq_false h2]
            have Hr := Lib.hid hr
            clear hr h2
            go_wp2
            go_ret
            exact ⟨by rw [Hr.out]; rfl, by have := Hf.out; (repeat (first | exact Fr.refl _ _ | assumption | apply Fr.drewN | apply Fr.drew | apply Fr.alloc | refine Fr.setCell ?_ (Or.inr (by simp; try omega)) _))⟩
      · have hr : r = 1 := HS.out
        have Hr := Lib.hid hr
        clear hr HS
        go_wp2
        go_ret
        exact ⟨by rw [Hr.out]; rfl, by have := Hf.out; (repeat (first | exact Fr.refl _ _ | assumption | apply Fr.drewN | apply Fr.drew | apply Fr.alloc | refine Fr.setCell ?_ (Or.inr (by simp; try omega)) _))⟩
      · have hr : r = -1 := HS.out
        have Hr := Lib.hid hr
        clear hr HS
        go_wp2
        go_ret
        exact ⟨by rw [Hr.out]; rfl, by have := Hf.out; (repeat (first | exact Fr.refl _ _ | assumption | apply Fr.drewN | apply Fr.drew | apply Fr.alloc | refine Fr.setCell ?_ (Or.inr (by simp; try omega)) _))⟩
      ·
        have hc := HS.out
        simp only [if_true, Bool.false_eq_true, if_false] at hc
        have Hc := Lib.hid hc
        clear hc HS
        have Hl1 := Lib.hid (fun w1 (hf1 : Fr [] w4 w1) => less_calls (Hy.out.fr hf1) (Hx.out.fr hf1) HYD.out HXD.out HYC.out HXC.out (by omega) (by omega))
        have Hl2 := Lib.hid (fun w1 (hf1 : Fr [] w4 w1) => less_calls (Hx.out.fr hf1) (Hy.out.fr hf1) HXD.out HYD.out HXC.out HYC.out (by omega) (by omega))
        go_wp2_with fail
        refine (Hl1.out _ (by (repeat (first | exact Fr.refl _ _ | assumption | apply Fr.drewN | apply Fr.drew | apply Fr.alloc | refine Fr.setCell ?_ (Or.inr (by simp; try omega)) _)))).mono ?_
        rintro e w5 ⟨rfl, n5, rfl⟩
        rw [HYV.out, HXV.out]
        by_cases h1 : Vb < Va
        · have hr : r = -1 := by rw [Hc.out]; unfold cmpN; rw [if_pos h1]
          rw [decide_eq_true h1]
          have Hr := Lib.hid hr
          clear hr h1
          go_wp2
          go_ret
          exact ⟨by rw [Hr.out]; rfl, by have := Hf.out; (repeat (first | exact Fr.refl _ _ | assumption | apply Fr.drewN | apply Fr.drew | apply Fr.alloc | refine Fr.setCell ?_ (Or.inr (by simp; try omega)) _))⟩
        · rw [decide_eq_false h1]
          have Hh1 := Lib.hid h1
          clear h1
          go_wp2_with fail
          refine (Hl2.out _ (by (repeat (first | exact Fr.refl _ _ | assumption | apply Fr.drewN | apply Fr.drew | apply Fr.alloc | refine Fr.setCell ?_ (Or.inr (by simp; try omega)) _)))).mono ?_
          rintro e w6 ⟨rfl, n6, rfl⟩
          rw [HYV.out, HXV.out]
          by_cases h2 : Va < Vb
          · have hr : r = 1 := by rw [Hc.out]; unfold cmpN; rw [if_neg Hh1.out, if_pos h2]
            rw [decide_eq_true h2]
            have Hr := Lib.hid hr
            clear hr h2
            go_wp2
            go_ret
            exact ⟨by rw [Hr.out]; rfl, by have := Hf.out; (repeat (first | exact Fr.refl _ _ | assumption | apply Fr.drewN | apply Fr.drew | apply Fr.alloc | refine Fr.setCell ?_ (Or.inr (by simp; try omega)) _))⟩
          · have hr : r = 0 := by rw [Hc.out]; unfold cmpN; rw [if_neg Hh1.out, if_neg h2]
            rw [decide_eq_false h2]
            have Hr := Lib.hid hr
            clear hr h2
            go_wp2
            go_ret
            exact ⟨by rw [Hr.out]; rfl, by have := Hf.out; (repeat (first | exact Fr.refl _ _ | assumption | apply Fr.drewN | apply Fr.drew | apply Fr.alloc | refine Fr.setCell ?_ (Or.inr (by simp; try omega)) _))⟩
end Go.Proofs.YtbacamboknmppaaDoor
