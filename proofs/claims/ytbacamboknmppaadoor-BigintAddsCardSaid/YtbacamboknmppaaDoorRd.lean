/- Slices that are read. No condition on a program. -/
import Derived.Test.YtbacamboknmppaaDoorHq
namespace Go.Proofs.Hp
set_option linter.unusedVariables false
set_option linter.unusedSimpArgs false
open Go Go.RowKit
def Reads (w : World) (v : Value) (n size : Nat) (xs : List Value) : Prop :=
  xs.length = n * size ∧ ∃ a c, v = .slice a n c ∧ (0 < n → ∃ g off, a = some ⟨g, off, none⟩ ∧ g < w.heap.size ∧ ∀ j u, xs[j]? = some u → w.cell? ⟨g, off + j, none⟩ = some u)
theorem Reads.keep {w w' : World} {v : Value} {n size : Nat} {xs : List Value} (h : Reads w v n size xs) (hk : ∀ x, v.ownBlock = some x → x < w.heap.size → w'.heap[x]? = w.heap[x]?) : Reads w' v n size xs := by
  obtain ⟨h1, a, c, rfl, h2⟩ := h
  refine ⟨h1, a, c, rfl, fun hn => ?_⟩
  obtain ⟨g, off, rfl, hg, hc⟩ := h2 hn
  have hb := hk g rfl hg
  refine ⟨g, off, rfl, ?_, fun j u hj => ?_⟩
  · have : w.heap[g]? = some w.heap[g] := Array.getElem?_eq_getElem hg
    exact lt_of_block (hb.trans this)
  · rw [World.cell?_of_block (w := w) (a := ⟨g, off + j, none⟩) hb]; exact hc j u hj
theorem Reads.fr {w w' : World} {v : Value} {n size : Nat} {xs : List Value} (h : Reads w v n size xs) (hf : Fr [] w w') : Reads w' v n size xs := h.keep fun x _ hx => hf.block x hx (by simp)
theorem Reads.of_owns {w : World} {base e n size : Nat} {v : Value} {xs : List Value} (h : w.ownsRow base e size v n xs) : Reads w v n size xs := by
  refine ⟨h.1, ?_⟩
  obtain ⟨a, c, rfl, ha, _⟩ := owns_form h
  refine ⟨a, c, rfl, fun hn => ?_⟩
  obtain ⟨g, rfl⟩ := ha hn
  exact ⟨g, 0, rfl, owns_lt h rfl, fun j u hj => by rw [Nat.zero_add]; exact owns_cell h rfl hj⟩
theorem reads_blk {w : World} {b n size c : Nat} {cs : List Value} {t : TypeId} {fr : Nat × Nat} (h : w.heap[b]? = some (.cells cs.toArray t fr)) (hl : cs.length = n * size) : Reads w (.slice (some ⟨b, 0, none⟩) n c) n size cs :=
  ⟨hl, _, _, rfl, fun _ => ⟨b, 0, rfl, lt_of_block h, fun j u hj => by rw [Nat.zero_add, heap_eq_cell h]; simpa using hj⟩⟩
end Go.Proofs.Hp
