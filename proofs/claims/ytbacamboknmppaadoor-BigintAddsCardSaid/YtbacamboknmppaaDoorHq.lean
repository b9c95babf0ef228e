/- Rows that a call owns: a store into one, a new one; more on the heap. No condition on a program. -/
import Derived.Test.YtbacamboknmppaaDoorHp
namespace Go.Proofs.Hp
open Go Go.RowKit
set_option linter.unusedVariables false
set_option linter.unusedSimpArgs false
/-- a store into an owned row -/
theorem owns_set {w : World} {base e size n : Nat} {v : Value} {xs : List Value} {g cap j : Nat} (h : w.ownsRow base e size v n xs) (hv : v = .slice (some ⟨g, 0, none⟩) n cap) (hj : j < xs.length) (u : Value) : (w.setCell ⟨g, j, none⟩ u).ownsRow base e size v n (xs.set j u) := by
  obtain ⟨h1, h2⟩ := h
  refine ⟨by rw [List.length_set]; exact h1, ?_⟩
  rcases h2 with ⟨h2, _⟩ | ⟨g', cap', cur, hv', hb, hh, hn, hm, hs, ht⟩
  · rw [h2] at hv; cases hv
  · rw [hv'] at hv
    cases hv
    refine .inr ⟨g, cap, cur.setIfInBounds j u, hv', hb, heap_setCell_here hh j u, hn, hm, by simpa using hs, ?_⟩
    rw [Array.toList_setIfInBounds, List.take_set, ht]
theorem owns_frozen {w : World} {base e size n : Nat} {v : Value} {xs : List Value} {g cap : Nat} (h : w.ownsRow base e size v n xs) (hv : v = .slice (some ⟨g, 0, none⟩) n cap) (j : Nat) : w.frozen? ⟨g, j, none⟩ = false := by
  rcases h.2 with ⟨h2, _⟩ | ⟨g', cap', cur, hv', _, hh, _⟩
  · rw [h2] at hv; cases hv
  · rw [hv'] at hv
    cases hv
    exact heap_eq_frozen hh j
/-- a row made by make or by a literal: a block that holds just its elements -/
theorem owns_mk {w : World} {base e size n : Nat} {xs : List Value} {g cap : Nat} {cur : Array Value} (hg : w.heap[g]? = some (.cells cur e (0, 0))) (hb : base ≤ g) (hn : n ≤ cap) (hm : cap ≤ maxLen) (hs : cur.size = cap * size) (ht : cur.toList.take (n * size) = xs) : w.ownsRow base e size (.slice (some ⟨g, 0, none⟩) n cap) n xs := by
  refine ⟨?_, .inr ⟨g, cap, cur, rfl, hb, hg, hn, hm, hs, ht⟩⟩
  rw [← ht, List.length_take, Array.length_toList, hs]
  exact Nat.min_eq_left (Nat.mul_le_mul_right _ hn)
/-- behind an append to a row that is new since w -/
theorem fr_append {w wr w9 : World} {e size n : Nat} {v : Value} {xs : List Value} (hf : Fr [] w wr) (ho : wr.ownsRow w.heap.size e size v n xs) {o : Obj} (h : Fr v.ownBlock.toList (wr.alloc o) w9) : Fr [] w w9 :=
  (hf.alloc o).trans h fun x hx => .inr (owns_ge ho (by simpa using hx))
theorem heap_new (w : World) (o : Obj) (h : w.heap.size < (w.alloc o).heap.size) : (w.alloc o).heap[w.heap.size] = o := (Array.getElem?_eq_some_iff.1 ((hp_alloc w o _).trans (if_pos rfl))).2
theorem setCell_else (w : World) (a : Addr) (u : Value) {k : Nat} (h : k ≠ a.block) : (w.setCell a u).heap[k]? = w.heap[k]? := Below.heap_setCell _ _ _ _ h
end Go.Proofs.Hp
