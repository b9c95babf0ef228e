/- SweepNeeds and SweepCollects: what the laws' functions return. -/
import Derived.Test.YtgeomalefpjfdaaYa
namespace Go.Proofs.Ytgeomalefpjfdaa
open Go Go.RowKit Go.Proofs.Rg Go.Proofs.Mp Go.Proofs.Hp Go.Proofs.Qs
set_option linter.unusedVariables false
def needL (s : Int) (ns : List K4) (roots : List Int) : List Int := match marks s ns roots with
  | some m => nl m (s + ns.length).toNat
  | none => []
def needE (s : Int) (ns : List K4) (roots : List Int) : Int := match marks s ns roots with
  | some _ => 0
  | none => 13
theorem need_any {w w' : World} {s : Int} {ns : List K4} {roots : List Int} {e : Ending} (h : NeedPost w s ns roots e w') :
    ∃ v, e = .returned (.tuple #[v, .int .i64 (needE s ns roots)]) ∧ w'.ownsRow w.heap.size 3 1 v (needL s ns roots).length (i64s (needL s ns roots)) ∧ Fr [] w w' := by
  unfold needL needE
  cases hm : marks s ns roots with
  | none =>
    obtain ⟨rfl, hf⟩ := h.1 hm
    exact ⟨_, rfl, World.ownsRow_nil _ _ _ _, hf⟩
  | some m =>
    obtain ⟨v, rfl, ho, hf⟩ := h.2 m hm
    exact ⟨_, rfl, ho, hf⟩
theorem needL_len {s : Int} {ns : List K4} (hg : GoodQ s ns) (hl : ns.length ≤ 200) (roots : List Int) : (needL s ns roots).length ≤ 1000 := by
  unfold needL
  cases hm : marks s ns roots with
  | none => simp
  | some m => have := nl_length m (s + ns.length).toNat; have := hg.2.1; simp only; omega
set_option maxHeartbeats 8000000 in
set_option maxRecDepth 100000 in
theorem SweepNeeds_calls {w : World} {s : Int} {ns : List K4} {v rv : Value} {roots : List Int} (hv : Reads w v ns.length 4 (flat ns)) (hr : Reads w rv roots.length 1 (i64s roots)) :
    Calls Try.prog 3 #[.agg #[.int .i64 s, v], rv] w fun e w' => e = .returned (.bool true) ∧ Fr [] w w' := by
  have hvk := hv
  have hrk := hr
  obtain ⟨_, a, c, rfl, _⟩ := hv
  obtain ⟨_, ra, rc, rfl, _⟩ := hr
  have Hv := Lib.hid hvk
  have Hr := Lib.hid hrk
  clear hvk hrk
  by_cases hg : ns.length ≤ 200 ∧ GoodQ s ns
  rotate_left
  · have Hg := Lib.hid hg
    clear hg
    go_enter Try.func3, Try.ntmps3
    go_wp2_with fail
    refine (load_calls (s := s) (Hv.out.fr (by (repeat (first | exact Fr.refl _ _ | assumption | apply Fr.drewN | apply Fr.drew | apply Fr.alloc | refine Fr.setCell ?_ (Or.inr (by simp; try omega)) _))))).mono ?_
    rintro e w1 ⟨_, h1⟩
    obtain ⟨rfl, hf⟩ := h1 Hg.out
    have Hf := Lib.hid (Fr.trans0 (by (repeat (first | exact Fr.refl _ _ | assumption | apply Fr.drewN | apply Fr.drew | apply Fr.alloc | refine Fr.setCell ?_ (Or.inr (by simp; try omega)) _)) : Fr [] w _) hf)
    clear h1 hf
    go_wp2_with fail
    refine (alive_calls _).mono ?_
    rintro e w2 ⟨rfl, hf⟩
    have Hf2 := Lib.hid (Hf.out.trans0 (Fr.trans0 (by (repeat (first | exact Fr.refl _ _ | assumption | apply Fr.drewN | apply Fr.drew | apply Fr.alloc | refine Fr.setCell ?_ (Or.inr (by simp; try omega)) _)) : Fr [] w1 _) hf))
    clear hf
    go_wp2
    go_ret
    exact ⟨rfl, Hf2.out⟩
  have Hg := Lib.hid hg
  clear hg
  by_cases hl : 100 < roots.length
  · have hd : decide ((100 : Int) < ↑roots.length) = true := by simp; omega
    have hd2 : decide (100 < roots.length) = true := by simpa using hl
    clear hl
    go_enter Try.func3, Try.ntmps3
    go_wp2_with fail
    refine (load_calls (s := s) (Hv.out.fr (by (repeat (first | exact Fr.refl _ _ | assumption | apply Fr.drewN | apply Fr.drew | apply Fr.alloc | refine Fr.setCell ?_ (Or.inr (by simp; try omega)) _))))).mono ?_
    rintro e w1 ⟨h1, _⟩
    obtain ⟨b, F, rfl, _, hf, _⟩ := h1 Hg.out
    have Hf := Lib.hid (Fr.trans0 (by (repeat (first | exact Fr.refl _ _ | assumption | apply Fr.drewN | apply Fr.drew | apply Fr.alloc | refine Fr.setCell ?_ (Or.inr (by simp; try omega)) _)) : Fr [] w _) hf)
    clear h1 hf
    go_wp2_with fail
    refine (alive_calls _).mono ?_
    rintro e w2 ⟨rfl, hf⟩
    have Hf2 := Lib.hid (Hf.out.trans0 (Fr.trans0 (by (repeat (first | exact Fr.refl _ _ | assumption | apply Fr.drewN | apply Fr.drew | apply Fr.alloc | refine Fr.setCell ?_ (Or.inr (by simp; try omega)) _)) : Fr [] w1 _) hf))
    clear hf
    go_wp2
    go_ret
    exact ⟨rfl, Hf2.out⟩
  have hd : decide ((100 : Int) < ↑roots.length) = false := by simp; omega
  have hd2 : decide (100 < roots.length) = false := by simpa using hl
  have HL := Lib.hid hl
  clear hl
  go_enter Try.func3, Try.ntmps3
  go_wp2_with fail
  refine (load_calls (s := s) (Hv.out.fr (by (repeat (first | exact Fr.refl _ _ | assumption | apply Fr.drewN | apply Fr.drew | apply Fr.alloc | refine Fr.setCell ?_ (Or.inr (by simp; try omega)) _))))).mono ?_
  rintro e w1 ⟨h1, _⟩
  obtain ⟨b, F, rfl, hS, hf, _⟩ := h1 Hg.out
  have hb := (hf.block w.heap.size (by simp) (by simp)).trans (show _ = some (.cells #[.int .i64 s, .slice a ns.length c] 24 (0, 0)) by (repeat (first | rw [if_pos (by omega)] | rw [if_neg (by omega)] | rw [hp_drew] | rw [hp_drewN] | rw [hp_alloc_size] | rw [hp_setCell_size] | rw [hp_alloc] | rw [hp_setCell] | rw [Option.map_some] | rw [upd_cells] | rw [List.set_cons_zero] | rw [List.set_cons_succ] | rfl)))
  have Hb1 := Lib.hid hb
  have HS1 := Lib.hid hS
  have Hf1 := Lib.hid (Fr.trans0 (by (repeat (first | exact Fr.refl _ _ | assumption | apply Fr.drewN | apply Fr.drew | apply Fr.alloc | refine Fr.setCell ?_ (Or.inr (by simp; try omega)) _)) : Fr [] w _) hf)
  clear h1 hf hb hS
  go_wp2_with fail
  refine (Needed_calls (roots := roots) HS1.out (Hr.out.fr Hf1.out) (by have := HL.out; omega)).mono ?_
  rintro e w2 h
  obtain ⟨lv, rfl, ho, hf⟩ := need_any h
  obtain ⟨la, lc, rfl, _, _⟩ := owns_form ho
  have hb := (hf.block w.heap.size (lt_of_block Hb1.out) (by simp)).trans Hb1.out
  have b0 := heap_eq_cell hb 0
  have b1 := heap_eq_cell hb 1
  have bl := lt_of_block hb
  have Hb2 := Lib.hid hb
  have HS2 := Lib.hid (HS1.out.fr hf (by simp))
  have Hf2 := Lib.hid (Hf1.out.trans0 hf)
  have Hl2 := Lib.hid (Reads.of_owns ho)
  clear h ho hf hb
  go_wp2_with fail
  refine (RNeeded_calls (roots := roots) Hg.out.2 (Hv.out.fr Hf2.out) (Hr.out.fr Hf2.out) (by have := HL.out; omega)).mono ?_
  rintro e w3 h
  obtain ⟨mv, rfl, ho, hf⟩ := need_any h
  obtain ⟨ma, mc, rfl, _, _⟩ := owns_form ho
  have hb := (hf.block w.heap.size bl (by simp)).trans Hb2.out
  have b0' := heap_eq_cell hb 0
  have b1' := heap_eq_cell hb 1
  have bl' := lt_of_block hb
  have Hb3 := Lib.hid hb
  have HS3 := Lib.hid (HS2.out.fr hf (by simp))
  have Hf3 := Lib.hid (Hf2.out.trans0 hf)
  have Hl3 := Lib.hid (Hl2.out.fr hf)
  have Hm3 := Lib.hid (Reads.of_owns ho)
  have Hnl := Lib.hid (needL_len Hg.out.2 Hg.out.1 roots)
  clear h ho hf hb b0 b1
  generalize needL s ns roots = L at *
  generalize needE s ns roots = q at *
  go_wp2
  refine wp_region_segs [([0, 1, 2, 3, 4, 5, 6, 7, 8, 9, 11, 10], [11]), ([12, 13, 14, 15, 16, 17], [])] (by kernel_rfl) (by kernel_rfl) ?_
  (simp only [wpSegs, pick, Array.getD_eq_getD_getElem?, List.getElem?_toArray, List.getElem?_cons_succ, List.getElem?_cons_zero, Option.getD_some])
  go_wp2_with fail
  refine (RSame_calls (L1 := L) (L2 := L) (Hl3.out.fr (by (repeat (first | exact Fr.refl _ _ | assumption | apply Fr.drewN | apply Fr.drew | apply Fr.alloc | refine Fr.setCell ?_ (Or.inr (by simp; try omega)) _)))) (Hm3.out.fr (by (repeat (first | exact Fr.refl _ _ | assumption | apply Fr.drewN | apply Fr.drew | apply Fr.alloc | refine Fr.setCell ?_ (Or.inr (by simp; try omega)) _)))) (by have := Hnl.out; omega)).mono ?_
  rintro e w4 ⟨rfl, hd'⟩
  rw [decide_eq_true rfl]
  have hf : Fr [] w3 w4 := Fr.trans0 (by (repeat (first | exact Fr.refl _ _ | assumption | apply Fr.drewN | apply Fr.drew | apply Fr.alloc | refine Fr.setCell ?_ (Or.inr (by simp; try omega)) _))) (hd'.fr [])
  have hb := (hf.block w.heap.size bl' (by simp)).trans Hb3.out
  have b0 := heap_eq_cell hb 0
  have b1 := heap_eq_cell hb 1
  have bl4 := lt_of_block hb
  have Hb4 := Lib.hid hb
  have HS4 := Lib.hid (HS3.out.fr hf (by simp))
  have Hf4 := Lib.hid (Hf3.out.trans0 hf)
  clear hd' hf hb b0' b1'
  go_wp2_with fail
  refine (Data_calls HS4.out).mono ?_
  rintro e w5 ⟨dv, rfl, ho, hf⟩
  obtain ⟨da, dc, rfl, _, _⟩ := owns_form ho
  have hb := (hf.block w.heap.size bl4 (by simp)).trans Hb4.out
  have b0' := heap_eq_cell hb 0
  have b1' := heap_eq_cell hb 1
  have bl5 := lt_of_block hb
  have Hb5 := Lib.hid hb
  have Hf5 := Lib.hid (Hf4.out.trans0 hf)
  have Hd5 := Lib.hid (Reads.of_owns ho)
  clear ho hf hb b0 b1
  go_wp2
  refine Mid.intro ⟨⟨again_row (T := 24) (cs := [.int .i64 s, .slice a ns.length c]) rfl rfl rfl Try.underlying24 rfl (by kernel_rfl) (range_blk Hb5.out) rfl, trivial⟩, ?_⟩
  go_wp2_with fail
  refine (Same_ref (n1 := ns) (n2 := ns) (by have := Hg.out.1; omega) Hd5.out (Hv.out.fr Hf5.out)).mono ?_
  rintro e w6 ⟨rfl, hs⟩
  rw [show sameQ s s ns ns = true by simp [sameQ]]
  have Hf6 := Lib.hid (Hf5.out.trans0 (same_fr hs))
  clear hs b0' b1'
  go_wp2_with fail
  refine (alive_calls _).mono ?_
  rintro e w7 ⟨rfl, hf⟩
  have Hf7 := Lib.hid (Hf6.out.trans0 hf)
  clear hf
  go_wp2
  refine Mid.intro ⟨trivial, Strict.intro rfl ?_⟩
  go_wp2
  go_ret
  exact ⟨rfl, Hf7.out⟩
end Go.Proofs.Ytgeomalefpjfdaa
