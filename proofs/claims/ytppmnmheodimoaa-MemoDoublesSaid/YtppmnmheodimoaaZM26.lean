/- Own texts of this claim, part 27: no condition. -/
import Derived.Test.YtppmnmheodimoaaZM25
import Derived.Test.YtppmnmheodimoaaZM19
section
/- The rule of the fixed example, as it is returned. -/
namespace Go.Proofs.Ytppmnmheodimoaa
open Go Go.RowKit Go.Proofs.Rg Go.Proofs.Mp Go.Proofs.Hp Go.Proofs.Qs Go.Proofs.Ev
set_option linter.unusedVariables false
set_option linter.unusedSimpArgs false
set_option maxHeartbeats 4000000 in
set_option maxRecDepth 100000 in
theorem LRight_calls {w : World} : Calls Try.prog 11 #[] w fun e w' => ∃ ha na hc nc, e = .returned (.agg #[.int .i64 2, .slice ha 2 hc, .slice na 2 nc]) ∧ (∀ w2 : World, (∀ x, w.heap.size ≤ x → x < w'.heap.size → w2.heap[x]? = w'.heap[x]?) → RuleAt w2 (.slice ha 2 hc) (.slice na 2 nc) rightRule) ∧ Fr [] w w' := by
  go_enter Try.func11, Try.ntmps11
  go_wp2_with fail
  refine (RRead_calls (hb := w.heap.size + 1) (c := 2) (reads_blk (t := 87) (fr := (0, 0)) (cs := pts rightHood) (by (repeat (first | rw [if_pos (by omega)] | rw [if_neg (by omega)] | rw [hp_drew] | rw [hp_drewN] | rw [hp_alloc_size] | rw [hp_setCell_size] | rw [hp_alloc] | rw [hp_setCell] | rw [Option.map_some] | rw [upd_cells] | rw [List.set_cons_zero] | rw [List.set_cons_succ] | rfl))) rfl)).mono ?_
  rintro e w1 ⟨na, nc, rfl, hn, hf⟩
  have hb_ := (hf.block (w.heap.size) (by first | (simp; done) | (simp; omega)) (by simp)).trans (show _ = some (.cells #[.int .i64 0, .slice none 0 0, .slice none 0 0] 31 (0, 0)) by (repeat (first | rw [if_pos (by omega)] | rw [if_neg (by omega)] | rw [hp_drew] | rw [hp_drewN] | rw [hp_alloc_size] | rw [hp_setCell_size] | rw [hp_alloc] | rw [hp_setCell] | rw [Option.map_some] | rw [upd_cells] | rw [List.set_cons_zero] | rw [List.set_cons_succ] | rfl)))
  have b0 := heap_eq_cell hb_ 0
  have b0z := heap_eq_frozen hb_ 0
  have b1 := heap_eq_cell hb_ 1
  have b1z := heap_eq_frozen hb_ 1
  have b2 := heap_eq_cell hb_ 2
  have b2z := heap_eq_frozen hb_ 2
  have bl := lt_of_block hb_
  have Hb := Lib.hid hb_
  clear hb_
  have hh : w1.heap[w.heap.size + 1]? = some (.cells (pts rightHood).toArray 87 (0, 0)) := (hf.block (w.heap.size + 1) (by simp) (by simp)).trans (by (repeat (first | rw [if_pos (by omega)] | rw [if_neg (by omega)] | rw [hp_drew] | rw [hp_drewN] | rw [hp_alloc_size] | rw [hp_setCell_size] | rw [hp_alloc] | rw [hp_setCell] | rw [Option.map_some] | rw [upd_cells] | rw [List.set_cons_zero] | rw [List.set_cons_succ] | rfl)))
  have HHd := Lib.hid hh
  have HN := Lib.hid hn
  have hsz := hf.size
  have Hf := Lib.hid (Fr.trans0 (by (repeat (first | exact Fr.refl _ _ | assumption | apply Fr.drewN | apply Fr.drew | apply Fr.alloc | refine Fr.setCell ?_ (Or.inr (by simp; try omega)) _)) : Fr [] w _) hf)
  clear hh hn hf
  simp only [hp_alloc_size] at hsz
  go_wp2
  refine bodyPost_ret (tree_result1 rfl (b := w.heap.size) (x := .int .i64 2) (y := .slice (some ⟨w.heap.size + 1, 0, none⟩) 2 2) (z := .slice na 2 nc) rfl ?_) rfl ⟨_, na, 2, nc, rfl, fun w2 hk => ⟨reads_blk (t := 87) (fr := (0, 0)) (cs := pts rightHood) ?_ rfl, HN.out _ fun x h1 h2 => ?_⟩, ?_⟩
  · have G := Hb.out
    (repeat (first | rw [if_pos (by omega)] | rw [if_neg (by omega)] | rw [hp_drew] | rw [hp_drewN] | rw [hp_alloc_size] | rw [hp_setCell_size] | rw [hp_alloc] | rw [hp_setCell] | rw [Option.map_some] | rw [upd_cells] | rw [List.set_cons_zero] | rw [List.set_cons_succ] | rfl))
    rw [G]
    (repeat (first | rw [if_pos (by omega)] | rw [if_neg (by omega)] | rw [hp_drew] | rw [hp_drewN] | rw [hp_alloc_size] | rw [hp_setCell_size] | rw [hp_alloc] | rw [hp_setCell] | rw [Option.map_some] | rw [upd_cells] | rw [List.set_cons_zero] | rw [List.set_cons_succ] | rfl))
  · have G := HHd.out
    refine (hk (w.heap.size + 1) (by omega) (by simp; omega)).trans ?_
    (repeat (first | rw [if_pos (by omega)] | rw [if_neg (by omega)] | rw [hp_drew] | rw [hp_drewN] | rw [hp_alloc_size] | rw [hp_setCell_size] | rw [hp_alloc] | rw [hp_setCell] | rw [Option.map_some] | rw [upd_cells] | rw [List.set_cons_zero] | rw [List.set_cons_succ] | rfl))
    exact G
  · simp only [hp_alloc_size] at h1
    refine (hk x (by omega) (by simp; omega)).trans ?_
    (repeat (first | rw [if_pos (by omega)] | rw [if_neg (by omega)] | rw [hp_drew] | rw [hp_drewN] | rw [hp_alloc_size] | rw [hp_setCell_size] | rw [hp_alloc] | rw [hp_setCell] | rw [Option.map_some] | rw [upd_cells] | rw [List.set_cons_zero] | rw [List.set_cons_succ] | rfl))
  · have := Hf.out
    (repeat (first | exact Fr.refl _ _ | assumption | apply Fr.drewN | apply Fr.drew | apply Fr.alloc | refine Fr.setCell ?_ (Or.inr (by simp; try omega)) _))
/-- a rule as a thing -/
def ruleR (hv nv : Value) (r : Rule) : Res where
  holds w F := (∀ w2 : World, (∀ x ∈ F, w2.heap[x]? = w.heap[x]?) → RuleAt w2 hv nv r) ∧ ∀ x ∈ F, x < w.heap.size
  keep := fun ⟨h1, h2⟩ hk => ⟨fun w2 h => h1 w2 fun x hx => (h x hx).trans (hk x hx), fun x hx => by
    have := hk x hx
    rw [Array.getElem?_eq_getElem (h2 x hx)] at this
    exact lt_of_block this⟩
  lt := fun ⟨h1, h2⟩ => h2
theorem rule_new {W w w' : World} {hv nv : Value} {r : Rule} {Ps : List Res} (h : Has W w Ps) (hr : ∀ w2 : World, (∀ x, w.heap.size ≤ x → x < w'.heap.size → w2.heap[x]? = w'.heap[x]?) → RuleAt w2 hv nv r) (hf : Fr [] w w') : Has W w' (ruleR hv nv r :: Ps) :=
  h.new (F := (List.range w'.heap.size).filter fun x => decide (w.heap.size ≤ x)) hf ⟨fun w2 hk => hr w2 fun x h1 h2 => hk x (by simp; omega), fun x hx => by simp at hx; exact hx.1⟩ fun x hx => by simp at hx; exact hx.2
theorem has_mem {W w : World} {P : Res} : ∀ {Ps : List Res}, Has W w Ps → P ∈ Ps → ∃ F, P.holds w F
  | [], _, hm => by cases hm
  | Q :: Qs, h, hm => by
    rcases List.mem_cons.1 hm with rfl | hm
    · exact h.head
    · exact has_mem h.drop hm
theorem rule_src {W : World} {hv nv : Value} {r : Rule} {Ps : List Res} : RuleSrc W hv nv r (ruleR hv nv r :: Ps) := fun w Qs h hm => by
  obtain ⟨F, h1, h2⟩ := has_mem h (hm (ruleR hv nv r) (by simp))
  exact h1 w fun x hx => rfl
end Go.Proofs.Ytppmnmheodimoaa
end
