/- Both stores of layer 25 side by side: calls of either leave the other as it was. -/
import Derived.Test.YtgcompnpjpmanaaRe
import Derived.Test.YtgcompnpjpmanaaRt
import Derived.Test.YtgcompnpjpmanaaQv
namespace Go.Proofs.Ytgcompnpjpmanaa
open Go Go.RowKit Go.Proofs.Rg Go.Proofs.Mp Go.Proofs.Hp Go.Proofs.Qs
/-- a store and a reference's store, both new since W -/
structure Two (W w : World) (b b' : Nat) (s : Int) (ns ms : List K4) (F F' : List Nat) : Prop where
  st : StoreAt w b s ns F
  rf : RefAt w b' s ms F'
  fr : Fr [] W w
  ge : ∀ x ∈ F, W.heap.size ≤ x
  ge' : ∀ x ∈ F', W.heap.size ≤ x
  dj : ∀ x ∈ F, x ∉ F'
section
variable {W w w' : World} {b b' : Nat} {s : Int} {ns ms ns' ms' : List K4} {F F' F1 : List Nat}
theorem Two.step (h : Two W w b b' s ns ms F F') (hf : Fr [] w w') : Two W w' b b' s ns ms F F' :=
  ⟨h.st.fr hf (by simp), h.rf.fr hf (by simp), h.fr.trans0 hf, h.ge, h.ge', h.dj⟩
theorem Two.stStep (h : Two W w b b' s ns ms F F') (hS : StoreAt w' b s ns' F1) (hf : Fr F w w') (hs : ∀ x ∈ F1, x ∈ F ∨ w.heap.size ≤ x) : Two W w' b b' s ns' ms F1 F' where
  st := hS
  rf := h.rf.fr hf fun x hx hx' => h.dj x hx' hx
  fr := h.fr.trans hf fun x hx => .inr (h.ge x hx)
  ge := fun x hx => by
    rcases hs x hx with h1 | h1
    · exact h.ge x h1
    · have := h.fr.size; omega
  ge' := h.ge'
  dj := fun x hx hx' => by
    rcases hs x hx with h1 | h1
    · exact h.dj x h1 hx'
    · have := h.rf.lt x hx'; omega
theorem Two.rfStep (h : Two W w b b' s ns ms F F') (hS : RefAt w' b' s ms' F1) (hf : Fr F' w w') (hs : ∀ x ∈ F1, x ∈ F' ∨ w.heap.size ≤ x) : Two W w' b b' s ns ms' F F1 where
  st := h.st.fr hf fun x hx hx' => h.dj x hx hx'
  rf := hS
  fr := h.fr.trans hf fun x hx => .inr (h.ge' x hx)
  ge := h.ge
  ge' := fun x hx => by
    rcases hs x hx with h1 | h1
    · exact h.ge' x h1
    · have := h.fr.size; omega
  dj := fun x hx hx' => by
    rcases hs x hx' with h1 | h1
    · exact h.dj x hx h1
    · have := h.st.lt x hx; omega
theorem join_len2 (s : Int) (ns : List K4) (l : Int) (h : GoodQ s ns) (h1 : ns.length + 256 ≤ 90000) : (emptyQ s ns l).2.length ≤ ns.length + 256 := by
  by_cases hneg : l < 0
  · rw [empty_low hneg]; simp
  by_cases hbig : 256 < l
  · rw [empty_high hbig]; simp
  obtain ⟨L, rfl⟩ : ∃ L : Nat, l = L := ⟨l.toNat, by omega⟩
  rw [empty_grow h (by omega) (by omega)]
  have := grow_len s L 0 ns
  show (grow s L 0 ns).2.length ≤ _
  omega
/-- a step of a law that has both stores: what holds in between, and a block of its own that stays -/
def In (W w : World) (b b' : Nat) (s : Int) (ns ms : List K4) (y : Nat) (o : Obj) : Prop := ∃ F F', Two W w b b' s ns ms F F' ∧ y ∉ F ∧ y ∉ F' ∧ y < w.heap.size ∧ w.heap[y]? = some o
variable {y : Nat} {o : Obj}
theorem In.step (h : In W w b b' s ns ms y o) (hf : Fr [] w w') : In W w' b b' s ns ms y o := by
  obtain ⟨F, F', h1, h2, h3, h4, h5⟩ := h
  have := hf.size
  exact ⟨F, F', h1.step hf, h2, h3, by omega, (hf.block y h4 (by simp)).trans h5⟩
theorem In.stJoin (h : In W w b b' s ns ms y o) (k : K4) :
    Calls Try.prog 19 #[.pointer (some ⟨b, 0, none⟩), .int .i64 k.a, .int .i64 k.b, .int .i64 k.c, .int .i64 k.d] w fun e w' =>
      e = .returned (.tuple #[.int .i64 (join s ns k).1.1, .int .i64 (join s ns k).1.2]) ∧ In W w' b b' s (join s ns k).2 ms y o := by
  obtain ⟨F, F', h1, h2, h3, h4, h5⟩ := h
  exact (Join_calls h1.st k).mono fun e w' ⟨he, F1, hS, hf, hs⟩ => ⟨he, F1, F', h1.stStep hS hf hs, fun hy => by rcases hs y hy with h | h <;> first | exact h2 h | omega, h3, by have := hf.size; omega, (hf.block y h4 h2).trans h5⟩
theorem In.rfJoin (h : In W w b b' s ns ms y o) (hl : ms.length < 90000) (k : K4) :
    Calls Try.prog 26 #[.pointer (some ⟨b', 0, none⟩), .int .i64 k.a, .int .i64 k.b, .int .i64 k.c, .int .i64 k.d] w fun e w' =>
      e = .returned (.tuple #[.int .i64 (join s ms k).1.1, .int .i64 (join s ms k).1.2]) ∧ In W w' b b' s ns (join s ms k).2 y o := by
  obtain ⟨F, F', h1, h2, h3, h4, h5⟩ := h
  exact (RJoin_calls h1.rf hl k).mono fun e w' ⟨he, F1, hS, hf, hs⟩ => ⟨he, F, F1, h1.rfStep hS hf hs, h2, fun hy => by rcases hs y hy with h | h <;> first | exact h3 h | omega, by have := hf.size; omega, (hf.block y h4 h3).trans h5⟩
theorem In.stEmpty (h : In W w b b' s ns ms y o) (l : Int) :
    Calls Try.prog 21 #[.pointer (some ⟨b, 0, none⟩), .int .i64 l] w fun e w' =>
      e = .returned (.tuple #[.int .i64 (emptyQ s ns l).1.1, .int .i64 (emptyQ s ns l).1.2]) ∧ In W w' b b' s (emptyQ s ns l).2 ms y o := by
  obtain ⟨F, F', h1, h2, h3, h4, h5⟩ := h
  exact (Empty_calls h1.st l).mono fun e w' ⟨he, F1, hS, hf, hs⟩ => ⟨he, F1, F', h1.stStep hS hf hs, fun hy => by rcases hs y hy with h | h <;> first | exact h2 h | omega, h3, by have := hf.size; omega, (hf.block y h4 h2).trans h5⟩
theorem In.rfEmpty (h : In W w b b' s ns ms y o) (hl : ms.length + 256 ≤ 90000) (l : Int) :
    Calls Try.prog 29 #[.pointer (some ⟨b', 0, none⟩), .int .i64 l] w fun e w' =>
      e = .returned (.tuple #[.int .i64 (emptyQ s ms l).1.1, .int .i64 (emptyQ s ms l).1.2]) ∧ In W w' b b' s ns (emptyQ s ms l).2 y o := by
  obtain ⟨F, F', h1, h2, h3, h4, h5⟩ := h
  exact (REmpty_calls h1.rf hl l).mono fun e w' ⟨he, F1, hS, hf, hs⟩ => ⟨he, F, F1, h1.rfStep hS hf hs, h2, fun hy => by rcases hs y hy with h | h <;> first | exact h3 h | omega, by have := hf.size; omega, (hf.block y h4 h3).trans h5⟩
theorem In.stKids (h : In W w b b' s ns ms y o) (id : Int) :
    Calls Try.prog 18 #[.pointer (some ⟨b, 0, none⟩), .int .i64 id] w fun e w' => e = .returned (.tuple #[kv (kidsOf s ns id).1, .bool (kidsOf s ns id).2]) ∧ In W w' b b' s ns ms y o ∧ Fr [] w w' := by
  have hk := h
  obtain ⟨F, F', h1, _⟩ := h
  exact (Kids_calls h1.st id).mono fun e w' ⟨he, hf⟩ => ⟨he, hk.step hf, hf⟩
theorem In.rfKids (h : In W w b b' s ns ms y o) (id : Int) :
    Calls Try.prog 27 #[.pointer (some ⟨b', 0, none⟩), .int .i64 id] w fun e w' => e = .returned (.tuple #[kv (kidsOf s ms id).1, .bool (kidsOf s ms id).2]) ∧ In W w' b b' s ns ms y o ∧ Fr [] w w' := by
  have hk := h
  obtain ⟨F, F', h1, _⟩ := h
  exact (RKids_calls h1.rf id).mono fun e w' ⟨he, hf⟩ => ⟨he, hk.step hf, hf⟩
theorem In.stLevel (h : In W w b b' s ns ms y o) (id : Int) :
    Calls Try.prog 20 #[.pointer (some ⟨b, 0, none⟩), .int .i64 id] w fun e w' => e = .returned (.int .i64 (lvl s (levs s ns) id)) ∧ In W w' b b' s ns ms y o ∧ Fr [] w w' := by
  have hk := h
  obtain ⟨F, F', h1, _⟩ := h
  exact (Level_calls h1.st id).mono fun e w' ⟨he, hf⟩ => ⟨he, hk.step (hf.fr _), hf.fr _⟩
theorem In.rfLevel (h : In W w b b' s ns ms y o) (id : Int) :
    Calls Try.prog 28 #[.pointer (some ⟨b', 0, none⟩), .int .i64 id] w fun e w' => e = .returned (.int .i64 (lvl s (levs s ms) id)) ∧ In W w' b b' s ns ms y o ∧ Fr [] w w' := by
  have hk := h
  obtain ⟨F, F', h1, _⟩ := h
  exact (RLevel_calls h1.rf id).mono fun e w' ⟨he, hf⟩ => ⟨he, hk.step hf, hf⟩
theorem Two.in_ (h : Two W w b b' s ns ms F F') (hy : w.heap[y]? = some o) (h1 : y ∉ F) (h2 : y ∉ F') : In W w b b' s ns ms y o := ⟨F, F', h, h1, h2, lt_of_block hy, hy⟩
theorem In.out (h : In W w b b' s ns ms y o) : ∃ F F', Two W w b b' s ns ms F F' := by obtain ⟨F, F', h, _⟩ := h; exact ⟨F, F', h⟩
theorem In.blk (h : In W w b b' s ns ms y o) : w.heap[y]? = some o := by obtain ⟨F, F', _, _, _, _, h⟩ := h; exact h
end
end Go.Proofs.Ytgcompnpjpmanaa
