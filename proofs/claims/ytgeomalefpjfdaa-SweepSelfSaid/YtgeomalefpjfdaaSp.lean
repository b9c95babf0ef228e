/- Things in the heap side by side: each has blocks of its own, new since a world W; a call that turns one leaves the others. No condition on a program. -/
import Derived.Test.YtgeomalefpjfdaaRd
namespace Go.Proofs.Hp
open Go Go.RowKit
set_option linter.unusedVariables false
/-- a thing in the heap: what it says of the world and of the list of its blocks -/
structure Res where
  holds : World → List Nat → Prop
  keep : ∀ {w w' : World} {F : List Nat}, holds w F → (∀ x ∈ F, w'.heap[x]? = w.heap[x]?) → holds w' F
  lt : ∀ {w : World} {F : List Nat}, holds w F → ∀ x ∈ F, x < w.heap.size
def Seps (w : World) : List Res → List Nat → Prop
  | [], F => F = []
  | P :: Ps, F => ∃ F1 F2, P.holds w F1 ∧ Seps w Ps F2 ∧ (∀ x ∈ F1, x ∉ F2) ∧ F = F1 ++ F2
def Has (W w : World) (Ps : List Res) : Prop := ∃ F, Seps w Ps F ∧ Fr [] W w ∧ ∀ x ∈ F, W.heap.size ≤ x
theorem Seps.keep {w w' : World} : ∀ {Ps : List Res} {F : List Nat}, Seps w Ps F → (∀ x ∈ F, w'.heap[x]? = w.heap[x]?) → Seps w' Ps F
  | [], _, h, _ => h
  | P :: Ps, F, ⟨F1, F2, h1, h2, h3, h4⟩, hk => ⟨F1, F2, P.keep h1 fun x hx => hk x (by rw [h4]; simp [hx]), Seps.keep h2 fun x hx => hk x (by rw [h4]; simp [hx]), h3, h4⟩
theorem Seps.lt {w : World} : ∀ {Ps : List Res} {F : List Nat}, Seps w Ps F → ∀ x ∈ F, x < w.heap.size
  | [], _, h, x, hx => by rw [show _ = [] from h] at hx; cases hx
  | P :: Ps, F, ⟨F1, F2, h1, h2, h3, h4⟩, x, hx => by
    rw [h4, List.mem_append] at hx
    rcases hx with hx | hx
    · exact P.lt h1 x hx
    · exact Seps.lt h2 x hx
section
variable {W w w' : World} {P P' Q : Res} {Ps : List Res}
theorem Has.fr (h : Has W w Ps) : Fr [] W w := by obtain ⟨_, _, h, _⟩ := h; exact h
theorem Has.nil (h : Fr [] W w) : Has W w [] := ⟨[], rfl, h, by simp⟩
theorem Has.step (h : Has W w Ps) (hf : Fr [] w w') : Has W w' Ps := by
  obtain ⟨F, h1, h2, h3⟩ := h
  exact ⟨F, h1.keep fun x hx => hf.block x (h1.lt x hx) (by simp), h2.trans0 hf, h3⟩
theorem Has.drew (h : Has W w Ps) (hd : Drew w w') : Has W w' Ps := h.step (hd.fr _)
theorem Has.head (h : Has W w (P :: Ps)) : ∃ F, P.holds w F := by obtain ⟨F, ⟨F1, F2, h1, _⟩, _⟩ := h; exact ⟨F1, h1⟩
theorem Has.new {F : List Nat} (h : Has W w Ps) (hf : Fr [] w w') (hP : P.holds w' F) (hF : ∀ x ∈ F, w.heap.size ≤ x) : Has W w' (P :: Ps) := by
  obtain ⟨G, h1, h2, h3⟩ := h
  refine ⟨F ++ G, ⟨F, G, hP, h1.keep fun x hx => hf.block x (h1.lt x hx) (by simp), fun x hx hx' => ?_, rfl⟩, h2.trans0 hf, fun x hx => ?_⟩
  · have := hF x hx; have := h1.lt x hx'; omega
  · rw [List.mem_append] at hx
    rcases hx with hx | hx
    · have := hF x hx; have := h2.size; omega
    · exact h3 x hx
theorem Has.swap (h : Has W w (P :: Q :: Ps)) : Has W w (Q :: P :: Ps) := by
  obtain ⟨F, ⟨F1, F2, h1, ⟨G1, G2, g1, g2, g3, rfl⟩, h3, rfl⟩, hf, hge⟩ := h
  refine ⟨G1 ++ (F1 ++ G2), ⟨G1, F1 ++ G2, g1, ⟨F1, G2, h1, g2, fun x hx hx' => h3 x hx (by simp [hx']), rfl⟩, fun x hx hx' => ?_, rfl⟩, hf, fun x hx => hge x ?_⟩
  · rw [List.mem_append] at hx'
    rcases hx' with h | h
    · exact h3 x h (by simp [hx])
    · exact g3 x hx h
  · simp only [List.mem_append] at hx ⊢
    rcases hx with h | h | h <;> simp [h]
theorem Has.drop (h : Has W w (P :: Ps)) : Has W w Ps := by
  obtain ⟨F, ⟨F1, F2, h1, h2, h3, rfl⟩, hf, hge⟩ := h
  exact ⟨F2, h2, hf, fun x hx => hge x (by simp [hx])⟩
/-- a call turns the first thing -/
theorem Has.upd (h : Has W w (P :: Ps)) {R : Ending → Prop} {Pr : Program} {f : FuncId} {args : Array Value}
    (hc : ∀ F, P.holds w F → Calls Pr f args w fun e w' => R e ∧ ∃ F', P'.holds w' F' ∧ Fr F w w' ∧ ∀ x ∈ F', x ∈ F ∨ w.heap.size ≤ x) : Calls Pr f args w fun e w' => R e ∧ Has W w' (P' :: Ps) := by
  obtain ⟨F, ⟨F1, F2, h1, h2, h3, rfl⟩, hf, hge⟩ := h
  refine (hc F1 h1).mono ?_
  rintro e w' ⟨hR, F', hP, hf', hs⟩
  refine ⟨hR, F' ++ F2, ⟨F', F2, hP, h2.keep fun x hx => hf'.block x (h2.lt x hx) fun hx' => h3 x hx' hx, fun x hx hx' => ?_, rfl⟩, hf.trans hf' fun x hx => .inr (hge x (by simp [hx])), fun x hx => ?_⟩
  · rcases hs x hx with h | h
    · exact h3 x h hx'
    · have := h2.lt x hx'; omega
  · rw [List.mem_append] at hx
    rcases hx with hx | hx
    · rcases hs x hx with h | h
      · exact hge x (by simp [h])
      · have := hf.size; omega
    · exact hge x (by simp [hx])
/-- the first thing is turned by what the law itself does -/
theorem Has.turn (h : Has W w (P :: Ps)) (hc : ∀ F, P.holds w F → ∃ F', P'.holds w' F' ∧ Fr F w w' ∧ ∀ x ∈ F', x ∈ F ∨ w.heap.size ≤ x) : Has W w' (P' :: Ps) := by
  obtain ⟨F, ⟨F1, F2, h1, h2, h3, rfl⟩, hf, hge⟩ := h
  obtain ⟨F', hP, hf', hs⟩ := hc F1 h1
  refine ⟨F' ++ F2, ⟨F', F2, hP, h2.keep fun x hx => hf'.block x (h2.lt x hx) fun hx' => h3 x hx' hx, fun x hx hx' => ?_, rfl⟩, hf.trans hf' fun x hx => .inr (hge x (by simp [hx])), fun x hx => ?_⟩
  · rcases hs x hx with h | h
    · exact h3 x h hx'
    · have := h2.lt x hx'; omega
  · rw [List.mem_append] at hx
    rcases hx with hx | hx
    · rcases hs x hx with h | h
      · exact hge x (by simp [h])
      · have := hf.size; omega
    · exact hge x (by simp [hx])
/-- a call only looks at the first thing -/
theorem Has.look (h : Has W w (P :: Ps)) {R : Ending → World → Prop} {Pr : Program} {f : FuncId} {args : Array Value}
    (hc : ∀ F, P.holds w F → Calls Pr f args w fun e w' => R e w' ∧ Fr [] w w') : Calls Pr f args w fun e w' => R e w' ∧ Has W w' (P :: Ps) := by
  obtain ⟨F, hP⟩ := h.head
  exact (hc F hP).mono fun e w' ⟨h1, h2⟩ => ⟨h1, h.step h2⟩
end
theorem Seps.perm {w : World} {Ps Qs : List Res} (p : Ps.Perm Qs) : ∀ {F : List Nat}, Seps w Ps F → ∃ G, Seps w Qs G ∧ ∀ x, x ∈ G ↔ x ∈ F := by
  induction p with
  | nil => exact fun h => ⟨_, h, fun x => Iff.rfl⟩
  | cons P _ ih =>
    rintro F ⟨F1, F2, h1, h2, h3, rfl⟩
    obtain ⟨G, g1, g2⟩ := ih h2
    exact ⟨F1 ++ G, ⟨F1, G, h1, g1, fun x hx hx' => h3 x hx ((g2 x).1 hx'), rfl⟩, fun x => by simp [g2]⟩
  | swap P Q l =>
    rintro F ⟨F1, F2, h1, ⟨G1, G2, g1, g2, g3, rfl⟩, h3, rfl⟩
    refine ⟨G1 ++ (F1 ++ G2), ⟨G1, F1 ++ G2, g1, ⟨F1, G2, h1, g2, fun x hx hx' => h3 x hx (by simp [hx']), rfl⟩, fun x hx hx' => ?_, rfl⟩, fun x => ?_⟩
    · rw [List.mem_append] at hx'
      rcases hx' with h | h
      · exact h3 x h (by simp [hx])
      · exact g3 x hx h
    · simp only [List.mem_append]
      constructor <;> intro h <;> rcases h with h | h | h <;> simp [h]
  | trans _ _ ih1 ih2 =>
    intro F h
    obtain ⟨G, g1, g2⟩ := ih1 h
    obtain ⟨G', g1', g2'⟩ := ih2 g1
    exact ⟨G', g1', fun x => (g2' x).trans (g2 x)⟩
theorem Has.perm {W w : World} {Ps Qs : List Res} (h : Has W w Ps) (p : Ps.Perm Qs) : Has W w Qs := by
  obtain ⟨F, h1, h2, h3⟩ := h
  obtain ⟨G, g1, g2⟩ := h1.perm p
  exact ⟨G, g1, h2, fun x hx => h3 x ((g2 x).1 hx)⟩
theorem Has.third {W w : World} {A B C : Res} {Ps : List Res} (h : Has W w (A :: B :: C :: Ps)) : Has W w (C :: A :: B :: Ps) := h.perm (((List.Perm.swap C B Ps).cons A).trans (List.Perm.swap C A (B :: Ps)))
theorem Has.fourth {W w : World} {A B C D : Res} {Ps : List Res} (h : Has W w (A :: B :: C :: D :: Ps)) : Has W w (D :: A :: B :: C :: Ps) :=
  h.perm (((((List.Perm.swap D C Ps).cons B).trans (List.Perm.swap D B (C :: Ps))).cons A).trans (List.Perm.swap D A (B :: C :: Ps)))
/-- one block, known whole -/
def blk (b : Nat) (o : Obj) : Res where
  holds w F := w.heap[b]? = some o ∧ F = [b]
  keep := fun ⟨h1, h2⟩ hk => ⟨by rw [hk b (by simp [h2])]; exact h1, h2⟩
  lt := fun ⟨h1, h2⟩ x hx => by rw [h2] at hx; simp at hx; subst hx; exact lt_of_block h1
theorem Has.blk {W w : World} {Ps : List Res} {b : Nat} {o : Obj} (h : Has W w (Hp.blk b o :: Ps)) : w.heap[b]? = some o := by obtain ⟨F, h1, _⟩ := h.head; exact h1
/-- a row that was made -/
def row (T size : Nat) (v : Value) (n : Nat) (xs : List Value) : Res where
  holds w F := w.ownsRow 0 T size v n xs ∧ F = v.ownBlock.toList
  keep := fun ⟨h1, h2⟩ hk => ⟨owns_of_block h1 fun g hg => hk g (by simp [h2, hg]), h2⟩
  lt := fun ⟨h1, h2⟩ x hx => by rw [h2] at hx; exact owns_lt h1 (by simpa using hx)
theorem Has.row {W w : World} {Ps : List Res} {T size n : Nat} {v : Value} {xs : List Value} (h : Has W w (Hp.row T size v n xs :: Ps)) : w.ownsRow 0 T size v n xs := by obtain ⟨F, h1, _⟩ := h.head; exact h1
theorem Has.newRow {W w w' : World} {Ps : List Res} {T size n : Nat} {v : Value} {xs : List Value} (h : Has W w Ps) (hf : Fr [] w w') (ho : w'.ownsRow w.heap.size T size v n xs) : Has W w' (Hp.row T size v n xs :: Ps) :=
  h.new hf (F := v.ownBlock.toList) ⟨owns_base ho (Nat.zero_le _), rfl⟩ fun x hx => owns_ge ho (by simpa using hx)
theorem Has.newBlk {W w : World} {Ps : List Res} (h : Has W w Ps) (o : Obj) : Has W (w.alloc o) (Hp.blk w.heap.size o :: Ps) :=
  h.new ((Fr.refl [] w).alloc o) (F := [w.heap.size]) ⟨by rw [hp_alloc, if_pos rfl], rfl⟩ (by simp)
end Go.Proofs.Hp
