/- SweepCollects: what the law's function returns. -/
import Derived.Test.YtgeomalefpjfdaaYb
namespace Go.Proofs.Ytgeomalefpjfdaa
open Go Go.RowKit Go.Proofs.Rg Go.Proofs.Mp Go.Proofs.Hp Go.Proofs.Qs
set_option linter.unusedVariables false
set_option maxHeartbeats 16000000 in
set_option maxRecDepth 100000 in
theorem SweepCollects_calls {w : World} {s : Int} {ns : List K4} {v rv : Value} {roots : List Int} (hv : Reads w v ns.length 4 (flat ns)) (hr : Reads w rv roots.length 1 (i64s roots)) :
    Calls Try.prog 4 #[.agg #[.int .i64 s, v], rv] w fun e w' => e = .returned (.bool true) ∧ Fr [] w w' := by
  have hvk := hv
  have hrk := hr
  obtain ⟨_, a, c, rfl, _⟩ := hv
  obtain ⟨_, ra, rc, rfl, _⟩ := hr
  have Hv := Lib.hid hvk
  have Hr := Lib.hid hrk
  clear hvk hrk
  by_cases hg : ns.length ≤ 200 ∧ GoodQ s ns
  rotate_left
  · have Hg := Lib.hid hg
    clear hg
    go_enter Try.func4, Try.ntmps4
    go_wp2_with fail
    refine (load_calls (s := s) (Hv.out.fr (by (repeat (first | exact Fr.refl _ _ | assumption | apply Fr.drewN | apply Fr.drew | apply Fr.alloc | refine Fr.setCell ?_ (Or.inr (by simp; try omega)) _))))).mono ?_
    rintro e w1 ⟨_, h1⟩
    obtain ⟨rfl, hf⟩ := h1 Hg.out
    have Hf := Lib.hid (Fr.trans0 (by (repeat (first | exact Fr.refl _ _ | assumption | apply Fr.drewN | apply Fr.drew | apply Fr.alloc | refine Fr.setCell ?_ (Or.inr (by simp; try omega)) _)) : Fr [] w _) hf)
    clear h1 hf
    go_wp2_with fail
    refine (alive_calls _).mono ?_
    rintro e w2 ⟨rfl, hf⟩
    have Hf2 := Lib.hid (Hf.out.trans0 (Fr.trans0 (by (repeat (first | exact Fr.refl _ _ | assumption | apply Fr.drewN | apply Fr.drew | apply Fr.alloc | refine Fr.setCell ?_ (Or.inr (by simp; try omega)) _)) : Fr [] w1 _) hf))
    clear hf
    go_wp2
    go_ret
    exact ⟨rfl, Hf2.out⟩
  have Hg := Lib.hid hg
  clear hg
  by_cases hl : 100 < roots.length
  · have hd : decide ((100 : Int) < ↑roots.length) = true := by simp; omega
    have hd2 : decide (100 < roots.length) = true := by simpa using hl
    clear hl
    go_enter Try.func4, Try.ntmps4
    go_wp2_with fail
    refine (load_calls (s := s) (Hv.out.fr (by (repeat (first | exact Fr.refl _ _ | assumption | apply Fr.drewN | apply Fr.drew | apply Fr.alloc | refine Fr.setCell ?_ (Or.inr (by simp; try omega)) _))))).mono ?_
    rintro e w1 ⟨h1, _⟩
    obtain ⟨b, F, rfl, _, hf, _⟩ := h1 Hg.out
    have Hf := Lib.hid (Fr.trans0 (by (repeat (first | exact Fr.refl _ _ | assumption | apply Fr.drewN | apply Fr.drew | apply Fr.alloc | refine Fr.setCell ?_ (Or.inr (by simp; try omega)) _)) : Fr [] w _) hf)
    clear h1 hf
    go_wp2_with fail
    refine (alive_calls _).mono ?_
    rintro e w2 ⟨rfl, hf⟩
    have Hf2 := Lib.hid (Hf.out.trans0 (Fr.trans0 (by (repeat (first | exact Fr.refl _ _ | assumption | apply Fr.drewN | apply Fr.drew | apply Fr.alloc | refine Fr.setCell ?_ (Or.inr (by simp; try omega)) _)) : Fr [] w1 _) hf))
    clear hf
    go_wp2
    go_ret
    exact ⟨rfl, Hf2.out⟩
  have hd : decide ((100 : Int) < ↑roots.length) = false := by simp; omega
  have hd2 : decide (100 < roots.length) = false := by simpa using hl
  have HL := Lib.hid hl
  clear hl
  go_enter Try.func4, Try.ntmps4
  go_wp2_with fail
  refine (load_calls (s := s) (Hv.out.fr (by (repeat (first | exact Fr.refl _ _ | assumption | apply Fr.drewN | apply Fr.drew | apply Fr.alloc | refine Fr.setCell ?_ (Or.inr (by simp; try omega)) _))))).mono ?_
  rintro e w1 ⟨h1, _⟩
  obtain ⟨b, F, rfl, hS, hf, _⟩ := h1 Hg.out
  have hb := (hf.block w.heap.size (by simp) (by simp)).trans (show _ = some (.cells #[.int .i64 s, .slice a ns.length c] 24 (0, 0)) by (repeat (first | rw [if_pos (by omega)] | rw [if_neg (by omega)] | rw [hp_drew] | rw [hp_drewN] | rw [hp_alloc_size] | rw [hp_setCell_size] | rw [hp_alloc] | rw [hp_setCell] | rw [Option.map_some] | rw [upd_cells] | rw [List.set_cons_zero] | rw [List.set_cons_succ] | rfl)))
  have Hb1 := Lib.hid hb
  have HS1 := Lib.hid hS
  have Hf1 := Lib.hid (Fr.trans0 (by (repeat (first | exact Fr.refl _ _ | assumption | apply Fr.drewN | apply Fr.drew | apply Fr.alloc | refine Fr.setCell ?_ (Or.inr (by simp; try omega)) _)) : Fr [] w _) hf)
  clear h1 hf hb hS
  go_wp2_with fail
  refine (Sweep_calls (roots := roots) HS1.out (Hr.out.fr Hf1.out) (by have := HL.out; omega)).mono ?_
  rintro e w2 ⟨h1, h2⟩
  have H1 := Lib.hid h1
  have H2 := Lib.hid h2
  clear h1 h2
  cases hm : marks s ns roots with
  | none =>
    obtain ⟨rfl, hf⟩ := H1.out hm
    have hb := (hf.block w.heap.size (lt_of_block Hb1.out) (by simp)).trans Hb1.out
    have c20 := heap_eq_cell hb 0
    have c21 := heap_eq_cell hb 1
    have c2l := lt_of_block hb
    have Hb2 := Lib.hid hb
    have Hf2 := Lib.hid (Hf1.out.trans0 hf)
    have HS2 := Lib.hid (HS1.out.fr hf (by simp))
    have Hm := Lib.hid hm
    clear hb hf hm
    go_wp2_with fail
    refine (RSweep_calls (roots := roots) Hg.out.2 (Hv.out.fr Hf2.out) (Hr.out.fr Hf2.out) (by have := HL.out; omega)).mono ?_
    rintro e w3 ⟨h1, _⟩
    obtain ⟨rfl, hf⟩ := h1 Hm.out
    have hb := (hf.block w.heap.size (lt_of_block Hb2.out) (by simp)).trans Hb2.out
    have c30 := heap_eq_cell hb 0
    have c31 := heap_eq_cell hb 1
    have c3l := lt_of_block hb
    have Hb3 := Lib.hid hb
    have Hf3 := Lib.hid (Hf2.out.trans0 hf)
    have HS3 := Lib.hid (HS2.out.fr hf (by simp))
    clear hb hf h1 c20 c21 c30 c31
    go_wp2
    refine wp_region_segs [([0, 1, 2, 3, 4, 5, 6, 7, 8, 9, 10, 12, 11], [12]), ([13, 14, 15], [])] (by kernel_rfl) (by kernel_rfl) ?_
    (simp only [wpSegs, pick, Array.getD_eq_getD_getElem?, List.getElem?_toArray, List.getElem?_cons_succ, List.getElem?_cons_zero, Option.getD_some])
    go_wp2_with fail
    refine (RSame_calls (L1 := []) (L2 := []) (Reads.of_owns (World.ownsRow_nil _ 0 3 1)) (Reads.of_owns (World.ownsRow_nil _ 0 3 1)) (by simp)).mono ?_
    rintro e w4 ⟨rfl, hd'⟩
    rw [decide_eq_true rfl]
    have hf : Fr [] w3 w4 := Fr.trans0 (by (repeat (first | exact Fr.refl _ _ | assumption | apply Fr.drewN | apply Fr.drew | apply Fr.alloc | refine Fr.setCell ?_ (Or.inr (by simp; try omega)) _))) (hd'.fr [])
    have hb := (hf.block w.heap.size (lt_of_block Hb3.out) (by simp)).trans Hb3.out
    have c40 := heap_eq_cell hb 0
    have c41 := heap_eq_cell hb 1
    have c4l := lt_of_block hb
    have Hb4 := Lib.hid hb
    have Hf4 := Lib.hid (Hf3.out.trans0 hf)
    have HS4 := Lib.hid (HS3.out.fr hf (by simp))
    clear hb hf hd'
    go_wp2_with fail
    refine (Data_calls HS4.out).mono ?_
    rintro e w5 ⟨dv, rfl, ho, hf⟩
    obtain ⟨da, dc, rfl, _, _⟩ := owns_form ho
    have hb := (hf.block w.heap.size (lt_of_block Hb4.out) (by simp)).trans Hb4.out
    have c50 := heap_eq_cell hb 0
    have c51 := heap_eq_cell hb 1
    have c5l := lt_of_block hb
    have Hb5 := Lib.hid hb
    have Hf5 := Lib.hid (Hf4.out.trans0 hf)
    have Hd5 := Lib.hid (Reads.of_owns ho)
    clear ho hf hb c40 c41
    go_wp2
    refine Mid.intro ⟨⟨again_row (T := 24) (cs := [.int .i64 s, .slice a ns.length c]) rfl rfl rfl Try.underlying24 rfl (by kernel_rfl) (range_blk Hb5.out) rfl, trivial⟩, ?_⟩
    go_wp2_with fail
    refine (Same_ref (n1 := ns) (n2 := ns) (by have := Hg.out.1; omega) Hd5.out (Hv.out.fr Hf5.out)).mono ?_
    rintro e w6 ⟨rfl, hs⟩
    rw [show sameQ s s ns ns = true by simp [sameQ]]
    have Hf6 := Lib.hid (Hf5.out.trans0 (same_fr hs))
    clear hs c50 c51
    go_wp2
    refine Mid.intro ⟨trivial, Strict.intro rfl ?_⟩
    go_wp2_with fail
    refine (alive_calls _).mono ?_
    rintro e w7 ⟨rfl, hf⟩
    have Hf7 := Lib.hid (Hf6.out.trans0 (Fr.trans0 (by (repeat (first | exact Fr.refl _ _ | assumption | apply Fr.drewN | apply Fr.drew | apply Fr.alloc | refine Fr.setCell ?_ (Or.inr (by simp; try omega)) _)) : Fr [] w6 _) hf))
    clear hf
    go_wp2
    go_ret
    exact ⟨rfl, Hf7.out⟩
  | some m =>
    obtain ⟨bt, G, mv, rfl, hT, ho, hf, _, _⟩ := H2.out m hm
    obtain ⟨ma, mc, rfl, _, _⟩ := owns_form ho
    have hb := (hf.block w.heap.size (lt_of_block Hb1.out) (by simp)).trans Hb1.out
    have c20 := heap_eq_cell hb 0
    have c21 := heap_eq_cell hb 1
    have c2l := lt_of_block hb
    have Hb2 := Lib.hid hb
    have Hf2 := Lib.hid (Hf1.out.trans0 hf)
    have HS2 := Lib.hid (HS1.out.fr hf (by simp))
    have HT2 := Lib.hid hT
    have Hm2 := Lib.hid (Reads.of_owns ho)
    have Hm := Lib.hid hm
    clear hb hf hm hT ho
    go_wp2_with fail
    refine (RSweep_calls (roots := roots) Hg.out.2 (Hv.out.fr Hf2.out) (Hr.out.fr Hf2.out) (by have := HL.out; omega)).mono ?_
    rintro e w3 ⟨_, h1⟩
    obtain ⟨nv, rv', rfl, ho1, ho2, hf⟩ := h1 m Hm.out
    obtain ⟨na, nc, rfl, _, _⟩ := owns_form ho1
    obtain ⟨ra', rc', rfl, _, _⟩ := owns_form ho2
    have hb := (hf.block w.heap.size (lt_of_block Hb2.out) (by simp)).trans Hb2.out
    have c30 := heap_eq_cell hb 0
    have c31 := heap_eq_cell hb 1
    have c3l := lt_of_block hb
    have Hb3 := Lib.hid hb
    have Hf3 := Lib.hid (Hf2.out.trans0 hf)
    have HS3 := Lib.hid (HS2.out.fr hf (by simp))
    have HT3 := Lib.hid (HT2.out.fr hf (by simp))
    have Hm3 := Lib.hid (Hm2.out.fr hf)
    have Hn3 := Lib.hid (Reads.of_owns ho1)
    have Hr3 := Lib.hid (Reads.of_owns ho2)
    have hlq : (sw s ns m ns.length).2.length ≤ 200 := by have := sw_len s ns m ns.length; have := Hg.out.1; omega
    clear hb hf h1 ho1 ho2 c20 c21 c30 c31
    obtain ⟨L, hL⟩ : ∃ L, roots.map (geti (sw s ns m ns.length).1) = L := ⟨_, rfl⟩
    have hLl : L.length = roots.length := by rw [← hL, List.length_map]
    rw [hL] at Hm3 Hr3
    rw [← hLl] at Hm3 Hr3 ⊢
    have HLl := Lib.hid hLl
    clear hL hLl
    generalize (sw s ns m ns.length).2 = Q at *
    go_wp2
    refine wp_region_segs [([0, 1, 2, 3, 4, 5, 6, 7, 8, 9, 10, 12, 11], [12]), ([13, 14, 15], [])] (by kernel_rfl) (by kernel_rfl) ?_
    (simp only [wpSegs, pick, Array.getD_eq_getD_getElem?, List.getElem?_toArray, List.getElem?_cons_succ, List.getElem?_cons_zero, Option.getD_some])
    go_wp2_with fail
    refine (RSame_calls (L1 := L) (L2 := L) (Hm3.out.fr (by (repeat (first | exact Fr.refl _ _ | assumption | apply Fr.drewN | apply Fr.drew | apply Fr.alloc | refine Fr.setCell ?_ (Or.inr (by simp; try omega)) _)))) (Hr3.out.fr (by (repeat (first | exact Fr.refl _ _ | assumption | apply Fr.drewN | apply Fr.drew | apply Fr.alloc | refine Fr.setCell ?_ (Or.inr (by simp; try omega)) _)))) (by have := HLl.out; have := HL.out; omega)).mono ?_
    rintro e w4 ⟨rfl, hd'⟩
    rw [decide_eq_true rfl]
    have hf : Fr [] w3 w4 := Fr.trans0 (by (repeat (first | exact Fr.refl _ _ | assumption | apply Fr.drewN | apply Fr.drew | apply Fr.alloc | refine Fr.setCell ?_ (Or.inr (by simp; try omega)) _))) (hd'.fr [])
    have hq := ((hd'.fr []).block w3.heap.size (by simp) (by simp)).trans (show _ = some (.cells #[.int .i64 s, .slice na Q.length nc] 24 (0, 0)) by (repeat (first | rw [if_pos (by omega)] | rw [if_neg (by omega)] | rw [hp_drew] | rw [hp_drewN] | rw [hp_alloc_size] | rw [hp_setCell_size] | rw [hp_alloc] | rw [hp_setCell] | rw [Option.map_some] | rw [upd_cells] | rw [List.set_cons_zero] | rw [List.set_cons_succ] | rfl)))
    have Hq4 := Lib.hid hq
    have hb := (hf.block w.heap.size (lt_of_block Hb3.out) (by simp)).trans Hb3.out
    have c40 := heap_eq_cell hb 0
    have c41 := heap_eq_cell hb 1
    have c4l := lt_of_block hb
    have Hb4 := Lib.hid hb
    have Hf4 := Lib.hid (Hf3.out.trans0 hf)
    have HS4 := Lib.hid (HS3.out.fr hf (by simp))
    have HT4 := Lib.hid (HT3.out.fr hf (by simp))
    have Hn4 := Lib.hid (Hn3.out.fr hf)
    clear hb hf hd' hq
    go_wp2_with fail
    refine (Data_calls HS4.out).mono ?_
    rintro e w5 ⟨dv, rfl, ho, hf⟩
    obtain ⟨da, dc, rfl, _, _⟩ := owns_form ho
    have hb := (hf.block w.heap.size (lt_of_block Hb4.out) (by simp)).trans Hb4.out
    have c50 := heap_eq_cell hb 0
    have c51 := heap_eq_cell hb 1
    have c5l := lt_of_block hb
    have Hb5 := Lib.hid hb
    have Hf5 := Lib.hid (Hf4.out.trans0 hf)
    have Hq5 := Lib.hid ((hf.block w3.heap.size (lt_of_block Hq4.out) (by simp)).trans Hq4.out)
    have HT5 := Lib.hid (HT4.out.fr hf (by simp))
    have Hn5 := Lib.hid (Hn4.out.fr hf)
    have Hd5 := Lib.hid (Reads.of_owns ho)
    clear ho hf hb c40 c41
    go_wp2
    refine Mid.intro ⟨⟨again_row (T := 24) (cs := [.int .i64 s, .slice a ns.length c]) rfl rfl rfl Try.underlying24 rfl (by kernel_rfl) (range_blk Hb5.out) rfl, trivial⟩, ?_⟩
    go_wp2_with fail
    refine (Same_ref (n1 := ns) (n2 := ns) (by have := Hg.out.1; omega) Hd5.out (Hv.out.fr Hf5.out)).mono ?_
    rintro e w6 ⟨rfl, hs⟩
    rw [show sameQ s s ns ns = true by simp [sameQ]]
    have hf := same_fr hs
    have Hf6 := Lib.hid (Hf5.out.trans0 hf)
    have hq := (hf.block w3.heap.size (lt_of_block Hq5.out) (by simp)).trans Hq5.out
    have q0 := heap_eq_cell hq 0
    have q1 := heap_eq_cell hq 1
    have ql := lt_of_block hq
    have Hq6 := Lib.hid hq
    have HT6 := Lib.hid (HT5.out.fr hf (by simp))
    have Hn6 := Lib.hid (Hn5.out.fr hf)
    clear hs hf hq c50 c51
    go_wp2
    refine Mid.intro ⟨trivial, Strict.intro rfl ?_⟩
    go_wp2
    refine wp_region_segs [([0, 1, 2, 3, 5, 4], [5]), ([6, 7, 8, 9, 10, 11], [])] (by kernel_rfl) (by kernel_rfl) ?_
    (simp only [wpSegs, pick, Array.getD_eq_getD_getElem?, List.getElem?_toArray, List.getElem?_cons_succ, List.getElem?_cons_zero, Option.getD_some])
    go_wp2_with fail
    refine (Data_calls (HT6.out.fr (by (repeat (first | exact Fr.refl _ _ | assumption | apply Fr.drewN | apply Fr.drew | apply Fr.alloc | refine Fr.setCell ?_ (Or.inr (by simp; try omega)) _)) : Fr [] w6 _) (by simp))).mono ?_
    rintro e w7 ⟨dv, rfl, ho, hf0⟩
    obtain ⟨ea, ec, rfl, _, _⟩ := owns_form ho
    have hf : Fr [] w6 w7 := Fr.trans0 (by (repeat (first | exact Fr.refl _ _ | assumption | apply Fr.drewN | apply Fr.drew | apply Fr.alloc | refine Fr.setCell ?_ (Or.inr (by simp; try omega)) _))) hf0
    have Hq7 := Lib.hid ((hf.block w3.heap.size (lt_of_block Hq6.out) (by simp)).trans Hq6.out)
    have Hf7 := Lib.hid (Hf6.out.trans0 hf)
    have Hn7 := Lib.hid (Hn6.out.fr hf)
    have Hd7 := Lib.hid (Reads.of_owns ho)
    clear ho hf hf0 q0 q1 ql
    go_wp2
    refine Mid.intro ⟨⟨again_row (T := 24) (cs := [.int .i64 s, .slice na Q.length nc]) rfl rfl rfl Try.underlying24 rfl (by kernel_rfl) (range_blk Hq7.out) rfl, trivial⟩, ?_⟩
    go_wp2_with fail
    refine (Same_ref (n1 := Q) (n2 := Q) (by omega) Hd7.out Hn7.out).mono ?_
    rintro e w8 ⟨rfl, hs⟩
    rw [show sameQ s s Q Q = true by simp [sameQ]]
    have Hf8 := Lib.hid (Hf7.out.trans0 (same_fr hs))
    clear hs
    go_wp2_with fail
    refine (alive_calls _).mono ?_
    rintro e w9 ⟨rfl, hf⟩
    have Hf9 := Lib.hid (Hf8.out.trans0 (Fr.trans0 (by (repeat (first | exact Fr.refl _ _ | assumption | apply Fr.drewN | apply Fr.drew | apply Fr.alloc | refine Fr.setCell ?_ (Or.inr (by simp; try omega)) _)) : Fr [] w8 _) hf))
    clear hf
    go_wp2
    refine Mid.intro ⟨trivial, Strict.intro rfl ?_⟩
    go_wp2
    go_ret
    exact ⟨rfl, Hf9.out⟩
end Go.Proofs.Ytgeomalefpjfdaa
