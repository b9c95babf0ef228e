/- Own texts of this claim, part 3: no condition. -/
import Derived.Maps.AppendAt
import Derived.Laws.AppendOwnNone
import Derived.Laws.OwnMore
import Derived.Test.YtbpaadpocihahaaZM1
set_option linter.unusedVariables false
set_option linter.unusedSimpArgs false
section
/- Slices that are read. No condition on a program. -/
namespace Go.Proofs.Hp
set_option linter.unusedVariables false
set_option linter.unusedSimpArgs false
open Go Go.RowKit
def Reads (w : World) (v : Value) (n size : Nat) (xs : List Value) : Prop :=
  xs.length = n * size ∧ ∃ a c, v = .slice a n c ∧ (0 < n → ∃ g off, a = some ⟨g, off, none⟩ ∧ g < w.heap.size ∧ ∀ j u, xs[j]? = some u → w.cell? ⟨g, off + j, none⟩ = some u)
theorem Reads.keep {w w' : World} {v : Value} {n size : Nat} {xs : List Value} (h : Reads w v n size xs) (hk : ∀ x, v.ownBlock = some x → x < w.heap.size → w'.heap[x]? = w.heap[x]?) : Reads w' v n size xs := by
  obtain ⟨h1, a, c, rfl, h2⟩ := h
  refine ⟨h1, a, c, rfl, fun hn => ?_⟩
  obtain ⟨g, off, rfl, hg, hc⟩ := h2 hn
  have hb := hk g rfl hg
  refine ⟨g, off, rfl, ?_, fun j u hj => ?_⟩
  · have : w.heap[g]? = some w.heap[g] := Array.getElem?_eq_getElem hg
    exact lt_of_block (hb.trans this)
  · rw [World.cell?_of_block (w := w) (a := ⟨g, off + j, none⟩) hb]; exact hc j u hj
theorem Reads.fr {w w' : World} {v : Value} {n size : Nat} {xs : List Value} (h : Reads w v n size xs) (hf : Fr [] w w') : Reads w' v n size xs := h.keep fun x _ hx => hf.block x hx (by simp)
theorem Reads.of_owns {w : World} {base e n size : Nat} {v : Value} {xs : List Value} (h : w.ownsRow base e size v n xs) : Reads w v n size xs := by
  refine ⟨h.1, ?_⟩
  obtain ⟨a, c, rfl, ha, _⟩ := owns_form h
  refine ⟨a, c, rfl, fun hn => ?_⟩
  obtain ⟨g, rfl⟩ := ha hn
  exact ⟨g, 0, rfl, owns_lt h rfl, fun j u hj => by rw [Nat.zero_add]; exact owns_cell h rfl hj⟩
theorem reads_blk {w : World} {b n size c : Nat} {cs : List Value} {t : TypeId} {fr : Nat × Nat} (h : w.heap[b]? = some (.cells cs.toArray t fr)) (hl : cs.length = n * size) : Reads w (.slice (some ⟨b, 0, none⟩) n c) n size cs :=
  ⟨hl, _, _, rfl, fun _ => ⟨b, 0, rfl, lt_of_block h, fun j u hj => by rw [Nat.zero_add, heap_eq_cell h]; simpa using hj⟩⟩
end Go.Proofs.Hp
end

section
/- Things in the heap side by side: each has blocks of its own, new since a world W; a call that turns one leaves the others. No condition on a program. -/
namespace Go.Proofs.Hp
open Go Go.RowKit
set_option linter.unusedVariables false
set_option linter.unusedSimpArgs false
/-- a thing in the heap: what it says of the world and of the list of its blocks -/
structure Res where
  holds : World → List Nat → Prop
  keep : ∀ {w w' : World} {F : List Nat}, holds w F → (∀ x ∈ F, w'.heap[x]? = w.heap[x]?) → holds w' F
  lt : ∀ {w : World} {F : List Nat}, holds w F → ∀ x ∈ F, x < w.heap.size
def Seps (w : World) : List Res → List Nat → Prop
  | [], F => F = []
  | P :: Ps, F => ∃ F1 F2, P.holds w F1 ∧ Seps w Ps F2 ∧ (∀ x ∈ F1, x ∉ F2) ∧ F = F1 ++ F2
def Has (W w : World) (Ps : List Res) : Prop := ∃ F, Seps w Ps F ∧ Fr [] W w ∧ ∀ x ∈ F, W.heap.size ≤ x
theorem Seps.keep {w w' : World} : ∀ {Ps : List Res} {F : List Nat}, Seps w Ps F → (∀ x ∈ F, w'.heap[x]? = w.heap[x]?) → Seps w' Ps F
  | [], _, h, _ => h
  | P :: Ps, F, ⟨F1, F2, h1, h2, h3, h4⟩, hk => ⟨F1, F2, P.keep h1 fun x hx => hk x (by rw [h4]; simp [hx]), Seps.keep h2 fun x hx => hk x (by rw [h4]; simp [hx]), h3, h4⟩
theorem Seps.lt {w : World} : ∀ {Ps : List Res} {F : List Nat}, Seps w Ps F → ∀ x ∈ F, x < w.heap.size
  | [], _, h, x, hx => by rw [show _ = [] from h] at hx; cases hx
  | P :: Ps, F, ⟨F1, F2, h1, h2, h3, h4⟩, x, hx => by
    rw [h4, List.mem_append] at hx
    rcases hx with hx | hx
    · exact P.lt h1 x hx
    · exact Seps.lt h2 x hx
section
variable {W w w' : World} {P P' Q : Res} {Ps : List Res}
theorem Has.fr (h : Has W w Ps) : Fr [] W w := by obtain ⟨_, _, h, _⟩ := h; exact h
theorem Has.nil (h : Fr [] W w) : Has W w [] := ⟨[], rfl, h, by simp⟩
theorem Has.step (h : Has W w Ps) (hf : Fr [] w w') : Has W w' Ps := by
  obtain ⟨F, h1, h2, h3⟩ := h
  exact ⟨F, h1.keep fun x hx => hf.block x (h1.lt x hx) (by simp), h2.trans0 hf, h3⟩
theorem Has.drew (h : Has W w Ps) (hd : Drew w w') : Has W w' Ps := h.step (hd.fr _)
theorem Has.head (h : Has W w (P :: Ps)) : ∃ F, P.holds w F := by obtain ⟨F, ⟨F1, F2, h1, _⟩, _⟩ := h; exact ⟨F1, h1⟩
theorem Has.new {F : List Nat} (h : Has W w Ps) (hf : Fr [] w w') (hP : P.holds w' F) (hF : ∀ x ∈ F, w.heap.size ≤ x) : Has W w' (P :: Ps) := by
  obtain ⟨G, h1, h2, h3⟩ := h
  refine ⟨F ++ G, ⟨F, G, hP, h1.keep fun x hx => hf.block x (h1.lt x hx) (by simp), fun x hx hx' => ?_, rfl⟩, h2.trans0 hf, fun x hx => ?_⟩
  · have := hF x hx; have := h1.lt x hx'; omega
  · rw [List.mem_append] at hx
    rcases hx with hx | hx
    · have := hF x hx; have := h2.size; omega
    · exact h3 x hx
theorem Has.swap (h : Has W w (P :: Q :: Ps)) : Has W w (Q :: P :: Ps) := by
  obtain ⟨F, ⟨F1, F2, h1, ⟨G1, G2, g1, g2, g3, rfl⟩, h3, rfl⟩, hf, hge⟩ := h
  refine ⟨G1 ++ (F1 ++ G2), ⟨G1, F1 ++ G2, g1, ⟨F1, G2, h1, g2, fun x hx hx' => h3 x hx (by simp [hx']), rfl⟩, fun x hx hx' => ?_, rfl⟩, hf, fun x hx => hge x ?_⟩
  · rw [List.mem_append] at hx'
    rcases hx' with h | h
    · exact h3 x h (by simp [hx])
    · exact g3 x hx h
  · simp only [List.mem_append] at hx ⊢
    rcases hx with h | h | h <;> simp [h]
theorem Has.drop (h : Has W w (P :: Ps)) : Has W w Ps := by
  obtain ⟨F, ⟨F1, F2, h1, h2, h3, rfl⟩, hf, hge⟩ := h
  exact ⟨F2, h2, hf, fun x hx => hge x (by simp [hx])⟩
/-- a call turns the first thing -/
theorem Has.upd (h : Has W w (P :: Ps)) {R : Ending → Prop} {Pr : Program} {f : FuncId} {args : Array Value}
    (hc : ∀ F, P.holds w F → Calls Pr f args w fun e w' => R e ∧ ∃ F', P'.holds w' F' ∧ Fr F w w' ∧ ∀ x ∈ F', x ∈ F ∨ w.heap.size ≤ x) : Calls Pr f args w fun e w' => R e ∧ Has W w' (P' :: Ps) := by
  obtain ⟨F, ⟨F1, F2, h1, h2, h3, rfl⟩, hf, hge⟩ := h
  refine (hc F1 h1).mono ?_
  rintro e w' ⟨hR, F', hP, hf', hs⟩
  refine ⟨hR, F' ++ F2, ⟨F', F2, hP, h2.keep fun x hx => hf'.block x (h2.lt x hx) fun hx' => h3 x hx' hx, fun x hx hx' => ?_, rfl⟩, hf.trans hf' fun x hx => .inr (hge x (by simp [hx])), fun x hx => ?_⟩
  · rcases hs x hx with h | h
    · exact h3 x h hx'
    · have := h2.lt x hx'; omega
  · rw [List.mem_append] at hx
    rcases hx with hx | hx
    · rcases hs x hx with h | h
      · exact hge x (by simp [h])
      · have := hf.size; omega
    · exact hge x (by simp [hx])
/-- the first thing is turned by what the law itself does -/
theorem Has.turn (h : Has W w (P :: Ps)) (hc : ∀ F, P.holds w F → ∃ F', P'.holds w' F' ∧ Fr F w w' ∧ ∀ x ∈ F', x ∈ F ∨ w.heap.size ≤ x) : Has W w' (P' :: Ps) := by
  obtain ⟨F, ⟨F1, F2, h1, h2, h3, rfl⟩, hf, hge⟩ := h
  obtain ⟨F', hP, hf', hs⟩ := hc F1 h1
  refine ⟨F' ++ F2, ⟨F', F2, hP, h2.keep fun x hx => hf'.block x (h2.lt x hx) fun hx' => h3 x hx' hx, fun x hx hx' => ?_, rfl⟩, hf.trans hf' fun x hx => .inr (hge x (by simp [hx])), fun x hx => ?_⟩
  · rcases hs x hx with h | h
    · exact h3 x h hx'
    · have := h2.lt x hx'; omega
  · rw [List.mem_append] at hx
    rcases hx with hx | hx
    · rcases hs x hx with h | h
      · exact hge x (by simp [h])
      · have := hf.size; omega
    · exact hge x (by simp [hx])
/-- a call only looks at the first thing -/
theorem Has.look (h : Has W w (P :: Ps)) {R : Ending → World → Prop} {Pr : Program} {f : FuncId} {args : Array Value}
    (hc : ∀ F, P.holds w F → Calls Pr f args w fun e w' => R e w' ∧ Fr [] w w') : Calls Pr f args w fun e w' => R e w' ∧ Has W w' (P :: Ps) := by
  obtain ⟨F, hP⟩ := h.head
  exact (hc F hP).mono fun e w' ⟨h1, h2⟩ => ⟨h1, h.step h2⟩
end
theorem Seps.perm {w : World} {Ps Qs : List Res} (p : Ps.Perm Qs) : ∀ {F : List Nat}, Seps w Ps F → ∃ G, Seps w Qs G ∧ ∀ x, x ∈ G ↔ x ∈ F := by
  induction p with
  | nil => exact fun h => ⟨_, h, fun x => Iff.rfl⟩
  | cons P _ ih =>
    rintro F ⟨F1, F2, h1, h2, h3, rfl⟩
    obtain ⟨G, g1, g2⟩ := ih h2
    exact ⟨F1 ++ G, ⟨F1, G, h1, g1, fun x hx hx' => h3 x hx ((g2 x).1 hx'), rfl⟩, fun x => by simp [g2]⟩
  | swap P Q l =>
    rintro F ⟨F1, F2, h1, ⟨G1, G2, g1, g2, g3, rfl⟩, h3, rfl⟩
    refine ⟨G1 ++ (F1 ++ G2), ⟨G1, F1 ++ G2, g1, ⟨F1, G2, h1, g2, fun x hx hx' => h3 x hx (by simp [hx']), rfl⟩, fun x hx hx' => ?_, rfl⟩, fun x => ?_⟩
    · rw [List.mem_append] at hx'
      rcases hx' with h | h
      · exact h3 x h (by simp [hx])
      · exact g3 x hx h
    · simp only [List.mem_append]
      constructor <;> intro h <;> rcases h with h | h | h <;> simp [h]
  | trans _ _ ih1 ih2 =>
    intro F h
    obtain ⟨G, g1, g2⟩ := ih1 h
    obtain ⟨G', g1', g2'⟩ := ih2 g1
    exact ⟨G', g1', fun x => (g2' x).trans (g2 x)⟩
theorem Has.perm {W w : World} {Ps Qs : List Res} (h : Has W w Ps) (p : Ps.Perm Qs) : Has W w Qs := by
  obtain ⟨F, h1, h2, h3⟩ := h
  obtain ⟨G, g1, g2⟩ := h1.perm p
  exact ⟨G, g1, h2, fun x hx => h3 x ((g2 x).1 hx)⟩
theorem Has.third {W w : World} {A B C : Res} {Ps : List Res} (h : Has W w (A :: B :: C :: Ps)) : Has W w (C :: A :: B :: Ps) := h.perm (((List.Perm.swap C B Ps).cons A).trans (List.Perm.swap C A (B :: Ps)))
theorem Has.fourth {W w : World} {A B C D : Res} {Ps : List Res} (h : Has W w (A :: B :: C :: D :: Ps)) : Has W w (D :: A :: B :: C :: Ps) :=
  h.perm (((((List.Perm.swap D C Ps).cons B).trans (List.Perm.swap D B (C :: Ps))).cons A).trans (List.Perm.swap D A (B :: C :: Ps)))
/-- one block, known whole -/
def blk (b : Nat) (o : Obj) : Res where
  holds w F := w.heap[b]? = some o ∧ F = [b]
  keep := fun ⟨h1, h2⟩ hk => ⟨by rw [hk b (by simp [h2])]; exact h1, h2⟩
  lt := fun ⟨h1, h2⟩ x hx => by rw [h2] at hx; simp at hx; subst hx; exact lt_of_block h1
theorem Has.blk {W w : World} {Ps : List Res} {b : Nat} {o : Obj} (h : Has W w (Hp.blk b o :: Ps)) : w.heap[b]? = some o := by obtain ⟨F, h1, _⟩ := h.head; exact h1
/-- a row that was made -/
def row (T size : Nat) (v : Value) (n : Nat) (xs : List Value) : Res where
  holds w F := w.ownsRow 0 T size v n xs ∧ F = v.ownBlock.toList
  keep := fun ⟨h1, h2⟩ hk => ⟨owns_of_block h1 fun g hg => hk g (by simp [h2, hg]), h2⟩
  lt := fun ⟨h1, h2⟩ x hx => by rw [h2] at hx; exact owns_lt h1 (by simpa using hx)
theorem Has.row {W w : World} {Ps : List Res} {T size n : Nat} {v : Value} {xs : List Value} (h : Has W w (Hp.row T size v n xs :: Ps)) : w.ownsRow 0 T size v n xs := by obtain ⟨F, h1, _⟩ := h.head; exact h1
theorem Has.newRow {W w w' : World} {Ps : List Res} {T size n : Nat} {v : Value} {xs : List Value} (h : Has W w Ps) (hf : Fr [] w w') (ho : w'.ownsRow w.heap.size T size v n xs) : Has W w' (Hp.row T size v n xs :: Ps) :=
  h.new hf (F := v.ownBlock.toList) ⟨owns_base ho (Nat.zero_le _), rfl⟩ fun x hx => owns_ge ho (by simpa using hx)
theorem Has.newBlk {W w : World} {Ps : List Res} (h : Has W w Ps) (o : Obj) : Has W (w.alloc o) (Hp.blk w.heap.size o :: Ps) :=
  h.new ((Fr.refl [] w).alloc o) (F := [w.heap.size]) ⟨by rw [hp_alloc, if_pos rfl], rfl⟩ (by simp)
end Go.Proofs.Hp
end

section
/- Things put into another order, and left. -/
namespace Go.Proofs.Hp
open Go Go.RowKit
set_option linter.unusedVariables false
set_option linter.unusedSimpArgs false
theorem range_take {α : Type} (n : Nat) (xs : List α) : (List.range n).filterMap (fun i => xs[i]?) = xs.take n := by
  induction n with
  | zero => simp
  | succ n ih =>
    rw [List.range_succ, List.filterMap_append, ih]
    by_cases h : n < xs.length
    · rw [List.take_add_one, List.getElem?_eq_getElem h]; simp [h]
    · rw [List.take_add_one]; simp [List.getElem?_eq_none (by omega : xs.length ≤ n)]
theorem Has.drops {W w : World} {Qs : List Res} : ∀ {Es : List Res}, Has W w (Es ++ Qs) → Has W w Qs
  | [], h => h
  | _ :: _, h => Has.drops h.drop
/-- the things at the numbers `is` of the first n, then the rest behind the first n -/
theorem Has.ord {W w : World} {Xs : List Res} (n : Nat) (is : List Nat) (h : Has W w Xs) (hs : (is ++ (List.range n).filter (fun i => !is.contains i)).isPerm (List.range n) = true := by decide) : Has W w (is.filterMap (fun i => Xs[i]?) ++ Xs.drop n) := by
  have hp := List.isPerm_iff.1 hs
  have h2 := hp.filterMap (fun i => Xs[i]?)
  rw [range_take, List.filterMap_append] at h2
  have h3 : Xs.Perm ((((List.range n).filter (fun i => !is.contains i)).filterMap fun i => Xs[i]?) ++ (is.filterMap (fun i => Xs[i]?) ++ Xs.drop n)) := by
    refine (List.Perm.of_eq (List.take_append_drop n Xs).symm).trans ?_
    refine (h2.symm.append_right _).trans ?_
    rw [← List.append_assoc]
    exact List.perm_append_comm.append_right _
  exact Has.drops (h.perm h3)
end Go.Proofs.Hp
end

section
/- Appending a slice that is read; slices of slices that are read. No condition on a program. -/
namespace Go.Proofs.Hp
open Go Go.RowKit
set_option linter.unusedVariables false
set_option linter.unusedSimpArgs false
theorem addr_add (g off j : Nat) : (⟨g, off, none⟩ : Addr).add j = ⟨g, off + j, none⟩ := by
  unfold Addr.add
  split
  · rename_i h0; rw [h0]; rfl
  · rfl
/-- append of a slice that is read onto a row that is owned -/
theorem append_reads {P : Program} {ops : Array Oper} {rest : List Oper} {o : Oper} {a : Act} {W : World} {Q : Exit → Act → World → Prop} (hgd : o.guard = none) {s x : Operand} {t : TypeId}
    (ho : o.op = .call { callee := .builtin .append, args := #[s, x], argTypes := #[t, t] }) {base e : Nat} {z : Value} {size bytes : Nat} (ht : P.underlying t = some (.slice e)) (hinfo : (P.info? e).map (fun i => (i.zero, i.size, i.bytes)) = some (some z, size, bytes))
    (hzs : z.cells.size = size) (hsz : 0 < size) {v : Value} {n : Nat} {xs : List Value} (hs : a.eval s = v) (hown : W.ownsRow base e size v n xs) {ad : Option Addr} {m c : Nat} {news : List Value} (hx : a.eval x = .slice ad m c)
    (hr : Reads W (.slice ad m c) m size news) (hz : ad = none → c = 0) (h1 : ∀ u ∈ news, u.oneCell' = true) (h63 : n + m ≤ maxLen) (hbytes : (n + m) * bytes ≤ 140737488355328) (hbase : base ≤ W.heap.size)
    (h : ∀ v' w', w'.ownsRow base e size v' (n + m) (xs ++ news) → Fr v.ownBlock.toList W w' → (v'.ownBlock = v.ownBlock ∨ v'.ownBlock = some W.heap.size) → wpList P ops Q rest (a.put o.dst v') w') : wpList P ops Q (o :: rest) a W := by
  obtain ⟨i0, hi0, hi1, hi2, hi3⟩ := info_parts hinfo
  have hfr : ∀ w', W.grownBy w' v.ownBlock → Fr v.ownBlock.toList W w' := fun w' h2 => (Fr.refl _ _).grown h2 fun k hk => .inl (by simp [hk])
  cases ad with
  | none =>
    have hc0 : c = 0 := hz rfl
    subst hc0
    obtain ⟨hl, a', c', he, hp⟩ := hr
    cases he
    have h0 : m = 0 := by
      rcases Nat.eq_zero_or_pos m with h | h
      · exact h
      · obtain ⟨g, off, hh, _⟩ := hp h; cases hh
    subst h0
    obtain rfl : news = [] := List.eq_nil_of_length_eq_zero (by rw [hl, Nat.zero_mul])
    refine wpList_append_own_none hgd s x _ ho base _ i0 size ht hi0 v n xs hs hown hx ?_
    exact h v W (by simpa using hown) (Fr.refl _ _) (.inl rfl)
  | some ad =>
    obtain ⟨hl, a', c', he, hp⟩ := hr
    cases he
    rcases Nat.eq_zero_or_pos m with h0 | h0
    · subst h0
      obtain rfl : news = [] := List.eq_nil_of_length_eq_zero (by rw [hl, Nat.zero_mul])
      exact wpList_append_own_at _ hgd s x _ ho base _ i0 z size bytes ht hi0 hi1 hi2 hi3 hzs hsz v n xs hs hown ad _ c _ hx (by simp) (by simp) h1 h63 hbytes hbase fun v' w' h1 h2 _ h4 => h v' w' h1 (hfr w' h2) h4
    · obtain ⟨g, off, hh, _, hc⟩ := hp h0
      cases hh
      refine wpList_append_own_at _ hgd s x _ ho base _ i0 z size bytes ht hi0 hi1 hi2 hi3 hzs hsz v n xs hs hown ⟨g, off, none⟩ _ c _ hx hl (fun j u hj => ?_) h1 h63 hbytes hbase fun v' w' h1 h2 _ h4 => h v' w' h1 (hfr w' h2) h4
      rw [addr_add]; exact hc j u hj
/-! ### Ints, and rows of ints -/
def iv (l : List Int) : List Value := l.map fun n => Value.int .i64 n
theorem iv_length (l : List Int) : (iv l).length = l.length := by simp [iv]
theorem iv_one (l : List Int) : ∀ u ∈ iv l, u.oneCell' = true := by
  intro u hu
  obtain ⟨n, _, rfl⟩ := List.mem_map.1 hu
  rfl
theorem iv_append (l m : List Int) : iv l ++ iv m = iv (l ++ m) := by simp [iv]
theorem iv_get {l : List Int} {i : Nat} {x : Int} (h : l[i]? = some x) : (iv l)[i]? = some (.int .i64 x) := by rw [iv, List.getElem?_map, h]; rfl
theorem iv_set (l : List Int) (i : Nat) (x : Int) : (iv l).set i (.int .i64 x) = iv (l.set i x) := by unfold iv; rw [List.map_set]
theorem iv_replicate (n : Nat) : List.replicate n (Value.int .i64 0) = iv (List.replicate n 0) := by simp [iv]
/-- a slice of ints that is read -/
def IntsAt (w : World) (v : Value) (l : List Int) : Prop := Reads w v l.length 1 (iv l)
theorem IntsAt.fr {w w' : World} {v : Value} {l : List Int} (h : IntsAt w v l) (hf : Fr [] w w') : IntsAt w' v l := Reads.fr h hf
theorem IntsAt.form {w : World} {v : Value} {l : List Int} (h : IntsAt w v l) : ∃ a c, v = .slice a l.length c := by
  obtain ⟨_, a, c, h, _⟩ := h
  exact ⟨a, c, h⟩
/-- a slice of slices of ints that is read -/
def RowsAt (w : World) (v : Value) (L : List (List Int)) : Prop := ∃ vs : List Value, Reads w v L.length 1 vs ∧ ∀ (i : Nat) (r : List Int), L[i]? = some r → ∃ u, vs[i]? = some u ∧ IntsAt w u r
theorem RowsAt.fr {w w' : World} {v : Value} {L : List (List Int)} (h : RowsAt w v L) (hf : Fr [] w w') : RowsAt w' v L := by
  obtain ⟨vs, h1, h2⟩ := h
  refine ⟨vs, h1.fr hf, fun i r hi => ?_⟩
  obtain ⟨u, hu, hr⟩ := h2 i r hi
  exact ⟨u, hu, hr.fr hf⟩
theorem RowsAt.form {w : World} {v : Value} {L : List (List Int)} (h : RowsAt w v L) : ∃ a c, v = .slice a L.length c := by
  obtain ⟨_, ⟨_, a, c, h, _⟩, _⟩ := h
  exact ⟨a, c, h⟩
/-- one row: its slice lies in a cell -/
theorem RowsAt.row {w : World} {a : Option Addr} {n c : Nat} {L : List (List Int)} (h : RowsAt w (.slice a n c) L) {i : Nat} {r : List Int} (hi : L[i]? = some r) :
    ∃ g off ra rc, a = some ⟨g, off, none⟩ ∧ g < w.heap.size ∧ w.cell? ⟨g, off + i, none⟩ = some (.slice ra r.length rc) ∧ IntsAt w (.slice ra r.length rc) r := by
  obtain ⟨vs, ⟨hl, a', c', he, hp⟩, h2⟩ := h
  cases he
  obtain ⟨u, hu, hr⟩ := h2 i r hi
  obtain ⟨ra, rc, rfl⟩ := hr.form
  have hlt := (List.getElem?_eq_some_iff.1 hi).1
  obtain ⟨g, off, rfl, hg, hc⟩ := hp (by omega)
  exact ⟨g, off, ra, rc, rfl, hg, hc i _ hu, hr⟩
theorem IntsAt.cell {w : World} {a : Option Addr} {n c : Nat} {l : List Int} (h : IntsAt w (.slice a n c) l) {i : Nat} {x : Int} (hi : l[i]? = some x) :
    ∃ g off, a = some ⟨g, off, none⟩ ∧ g < w.heap.size ∧ w.cell? ⟨g, off + i, none⟩ = some (.int .i64 x) := by
  obtain ⟨hl, a', c', he, hp⟩ := h
  cases he
  have hlt := (List.getElem?_eq_some_iff.1 hi).1
  obtain ⟨g, off, rfl, hg, hc⟩ := hp (by omega)
  exact ⟨g, off, rfl, hg, hc i _ (iv_get hi)⟩
/-- a part of a slice of ints -/
theorem IntsAt.part {w : World} {a : Option Addr} {g off n c c' : Nat} {l : List Int} (h : IntsAt w (.slice (some ⟨g, off, none⟩) n c) l) {i m : Nat} (hm : i + m ≤ l.length) : IntsAt w (.slice (some ⟨g, off + i, none⟩) m c') ((l.drop i).take m) := by
  obtain ⟨hl, a', c'', he, hp⟩ := h
  cases he
  have hlen : ((l.drop i).take m).length = m := by simp; omega
  refine ⟨by simp [iv], _, _, by rw [hlen], fun h0 => ?_⟩
  rw [hlen] at h0
  obtain ⟨g', off', he, hg, hc⟩ := hp (by omega)
  cases he
  refine ⟨g, off + i, rfl, hg, fun j u hj => ?_⟩
  have hj' : (iv l)[i + j]? = some u := by
    unfold iv at hj ⊢
    rw [List.getElem?_map, List.getElem?_take] at hj
    split at hj
    · rw [List.getElem?_drop] at hj; rw [List.getElem?_map]; exact hj
    · simp at hj
  have := hc (i + j) u hj'
  rwa [← Nat.add_assoc] at this
/-- a slice of slices that was made: the outer row is owned, each row is read -/
theorem RowsAt.of_owns {w : World} {base e : Nat} {v : Value} {vs : List Value} {L : List (List Int)} (h : w.ownsRow base e 1 v L.length vs) (hr : ∀ (i : Nat) (r : List Int), L[i]? = some r → ∃ u, vs[i]? = some u ∧ IntsAt w u r) : RowsAt w v L := ⟨vs, Reads.of_owns h, hr⟩
end Go.Proofs.Hp
end

section
/- make of n elements, all of it owned. No condition on a program. -/
namespace Go.Proofs.Hp
open Go Go.RowKit
set_option linter.unusedVariables false
set_option linter.unusedSimpArgs false
/-- make of n elements of one cell each -/
theorem wpList_make1 {P : Program} {ops : Array Oper} {rest : List Oper} {o : Oper} {a : Act} {W : World} {Q : Exit → Act → World → Prop} (hgd : o.guard = none) {l c : Operand} {t e : TypeId} (ho : o.op = .makeSlice t l c) {n : Nat}
    (hl : a.eval l = .int .i64 n) (hc : a.eval c = .int .i64 n) {z : Value} {bytes : Nat} (ht : P.underlying t = some (.slice e)) (hinfo : (P.info? e).map (fun i => (i.zero, i.size, i.bytes)) = some (some z, 1, bytes)) (hz : z.cells = #[z])
    (hb : bytes * n ≤ 281474976710656) (h63 : n ≤ maxLen)
    (h : ∀ w', w'.ownsRow W.heap.size e 1 (.slice (some ⟨W.heap.size, 0, none⟩) n n) n (List.replicate n z) → Fr [] W w' → W.heap.size < w'.heap.size → wpList P ops Q rest (a.put o.dst (.slice (some ⟨W.heap.size, 0, none⟩) n n)) w') : wpList P ops Q (o :: rest) a W := by
  obtain ⟨i, hi, hz0, hz1, hz2⟩ := info_parts hinfo
  obtain ⟨w', hr, ho', hg⟩ := run_make_full W W.heap.size t e i z 1 ht hi hz0 hz1 .i64 .i64 n (by rw [hz2]; exact hb) h63 (Nat.le_refl _) (P := P)
  have hcells : (madeCells z.cells (n * 1)).toList = List.replicate n z := by
    rw [hz, Nat.mul_one]
    unfold madeCells
    apply List.ext_getElem
    · simp
    · intro j h1 h2
      simp [Nat.mod_one]
  rw [hcells] at ho'
  refine Mp.wpList_run hgd (w' := w') (v := .slice (some ⟨W.heap.size, 0, none⟩) n n) ?_ (h w' ho' ((Fr.refl _ _).grown hg (by simp)) (owns_lt ho' rfl))
  unfold execOp
  simp only [ho, hl, hc, Sem.run_bind, hr, Result.andThen_ok]
  rfl
end Go.Proofs.Hp
end

section
/- Bundles of things, rows of a list, maps to rows; appending within a row. No condition on a program. -/
namespace Go.Proofs.Hp
open Go Go.RowKit Go.Proofs.Mp
set_option linter.unusedVariables false
set_option linter.unusedSimpArgs false
theorem Seps.append {w : World} : ∀ {Qs Ps : List Res} {F : List Nat}, Seps w (Qs ++ Ps) F ↔ ∃ F1 F2, Seps w Qs F1 ∧ Seps w Ps F2 ∧ (∀ x ∈ F1, x ∉ F2) ∧ F = F1 ++ F2
  | [], Ps, F => by
    constructor
    · intro h; exact ⟨[], F, rfl, h, by simp, rfl⟩
    · rintro ⟨F1, F2, h1, h2, _, rfl⟩
      rw [show F1 = [] from h1]; exact h2
  | Q :: Qs, Ps, F => by
    constructor
    · rintro ⟨F1, F2, h1, h2, h3, rfl⟩
      obtain ⟨G1, G2, g1, g2, g3, rfl⟩ := Seps.append.1 h2
      refine ⟨F1 ++ G1, G2, ⟨F1, G1, h1, g1, fun x hx hx' => h3 x hx (by simp [hx']), rfl⟩, g2, fun x hx hx' => ?_, by simp⟩
      rcases List.mem_append.1 hx with hx | hx
      · exact h3 x hx (by simp [hx'])
      · exact g3 x hx hx'
    · rintro ⟨F1, F2, ⟨G1, G2, g1, g2, g3, rfl⟩, h2, h3, rfl⟩
      refine ⟨G1, G2 ++ F2, g1, Seps.append.2 ⟨G2, F2, g2, h2, fun x hx => h3 x (by simp [hx]), rfl⟩, fun x hx hx' => ?_, by simp⟩
      rcases List.mem_append.1 hx' with hx' | hx'
      · exact g3 x hx hx'
      · exact h3 x (by simp [hx]) hx'
/-- a list of things as one -/
def bun (Qs : List Res) : Res where
  holds w F := Seps w Qs F
  keep := fun h hk => Seps.keep h hk
  lt := fun h => Seps.lt h
section
variable {W w w' : World} {Qs Ps : List Res}
theorem Has.unbun (h : Has W w (bun Qs :: Ps)) : Has W w (Qs ++ Ps) := by
  obtain ⟨F, ⟨F1, F2, h1, h2, h3, h4⟩, hf, hge⟩ := h
  exact ⟨F, Seps.append.2 ⟨F1, F2, h1, h2, h3, h4⟩, hf, hge⟩
theorem Has.rebun (h : Has W w (Qs ++ Ps)) : Has W w (bun Qs :: Ps) := by
  obtain ⟨F, h1, hf, hge⟩ := h
  obtain ⟨F1, F2, h1, h2, h3, h4⟩ := Seps.append.1 h1
  exact ⟨F, ⟨F1, F2, h1, h2, h3, h4⟩, hf, hge⟩
/-- one of a family of things -/
def exR {ι : Type} (P : ι → Res) : Res where
  holds w F := ∃ i, (P i).holds w F
  keep := fun ⟨i, h⟩ hk => ⟨i, (P i).keep h hk⟩
  lt := fun ⟨i, h⟩ => (P i).lt h
theorem Has.unex {ι : Type} {P : ι → Res} (h : Has W w (exR P :: Ps)) : ∃ i, Has W w (P i :: Ps) := by
  obtain ⟨F, ⟨F1, F2, ⟨i, h1⟩, h2, h3, h4⟩, hf, hge⟩ := h
  exact ⟨i, F, ⟨F1, F2, h1, h2, h3, h4⟩, hf, hge⟩
theorem Has.inex {ι : Type} {P : ι → Res} (i : ι) (h : Has W w (P i :: Ps)) : Has W w (exR P :: Ps) := by
  obtain ⟨F, ⟨F1, F2, h1, h2, h3, h4⟩, hf, hge⟩ := h
  exact ⟨F, ⟨F1, F2, ⟨i, h1⟩, h2, h3, h4⟩, hf, hge⟩
theorem perm_erase {α : Type} {l : List α} {k : Nat} {a : α} (h : l[k]? = some a) : l.Perm (a :: l.eraseIdx k) := by
  induction l generalizing k with
  | nil => cases h
  | cons b l ih =>
    cases k with
    | zero => cases h; exact List.Perm.refl _
    | succ k => exact ((ih (k := k) h).cons b).trans (List.Perm.swap _ _ _)
theorem set_erase {α : Type} (l : List α) (k : Nat) (b : α) : (l.set k b).eraseIdx k = l.eraseIdx k := by
  apply List.ext_getElem?
  intro i
  rw [List.getElem?_eraseIdx, List.getElem?_eraseIdx, List.getElem?_set, List.getElem?_set]
  split
  · rw [if_neg (by omega)]
  · rw [if_neg (by omega)]
/-- one of a list of things taken out, and laid back -/
theorem Has.pick {α : Type} {R : α → Res} {l : List α} {k : Nat} {a : α} (h : Has W w (bun (l.map R) :: Ps)) (ha : l[k]? = some a) : Has W w (R a :: bun ((l.eraseIdx k).map R) :: Ps) := by
  have h1 : Has W w (R a :: ((l.eraseIdx k).map R ++ Ps)) := h.unbun.perm (((perm_erase ha).map R).append_right Ps)
  exact (Has.rebun (Ps := R a :: Ps) (h1.perm List.perm_middle.symm)).swap
theorem Has.lay {α : Type} {R : α → Res} {l : List α} {k : Nat} {b : α} (h : Has W w (R b :: bun ((l.eraseIdx k).map R) :: Ps)) (hk : k < l.length) : Has W w (bun ((l.set k b).map R) :: Ps) := by
  have h1 := (h.swap.unbun.perm List.perm_middle : Has W w (R b :: ((l.eraseIdx k).map R ++ Ps)))
  refine Has.rebun (h1.perm ?_)
  have h2 := (perm_erase (l := l.set k b) (k := k) (a := b) (by simp [hk])).map R
  rw [set_erase] at h2
  exact (h2.append_right Ps).symm
theorem Has.layNew {α : Type} {R : α → Res} {l : List α} {b : α} (h : Has W w (R b :: bun (l.map R) :: Ps)) : Has W w (bun ((l ++ [b]).map R) :: Ps) := by
  have h1 := (h.swap.unbun.perm List.perm_middle : Has W w (R b :: (l.map R ++ Ps)))
  refine Has.rebun (h1.perm ?_)
  rw [List.map_append]
  exact (List.Perm.append_right Ps (List.perm_append_comm (l₁ := [R b]) (l₂ := l.map R)))
theorem Has.bunNil (h : Has W w Ps) : Has W w (bun [] :: Ps) := Has.rebun h
/-- a thing whose blocks are no blocks -/
theorem Has.vac {P : Res} (h : Has W w Ps) (hP : P.holds w []) : Has W w (P :: Ps) := h.new (Fr.refl [] w) hP (by simp)
/-! ### Rows -/
theorem Has.rowSet {T size n g cap : Nat} {xs : List Value} (h : Has W w (Hp.row T size (.slice (some ⟨g, 0, none⟩) n cap) n xs :: Ps)) {j : Nat} (hj : j < xs.length) (u : Value) : Has W (w.setCell ⟨g, j, none⟩ u) (Hp.row T size (.slice (some ⟨g, 0, none⟩) n cap) n (xs.set j u) :: Ps) :=
  h.turn fun F ⟨h1, h2⟩ => ⟨F, ⟨owns_set h1 rfl hj u, h2⟩, (Fr.refl F w).setCell (.inl (by rw [h2]; simp [Value.ownBlock])) u, fun x hx => .inl hx⟩
theorem Has.rowCut {T size n m g cap : Nat} {xs : List Value} (h : Has W w (Hp.row T size (.slice (some ⟨g, 0, none⟩) n cap) n xs :: Ps)) (hm : m ≤ n) : Has W w (Hp.row T size (.slice (some ⟨g, 0, none⟩) m cap) m (xs.take (m * size)) :: Ps) :=
  h.turn fun F ⟨h1, h2⟩ => ⟨F, ⟨by
    obtain ⟨h3, h4⟩ := h1
    refine ⟨by rw [List.length_take, h3]; exact Nat.min_eq_left (Nat.mul_le_mul_right _ hm), .inr ?_⟩
    rcases h4 with ⟨h4, _⟩ | ⟨g', cap', cur, hv, hb, hh, hn, hc, hs, ht⟩
    · cases h4
    · cases hv
      refine ⟨g, cap, cur, rfl, hb, hh, by omega, hc, hs, ?_⟩
      rw [← ht, List.take_take, Nat.min_eq_left (Nat.mul_le_mul_right _ hm)], h2⟩, Fr.refl F w, fun x hx => .inl hx⟩
theorem Has.nilRow (h : Has W w Ps) (T size : Nat) : Has W w (Hp.row T size (.slice none 0 0) 0 [] :: Ps) := h.vac ⟨World.ownsRow_nil _ _ _ _, rfl⟩
theorem Has.rowLen {T size n : Nat} {v : Value} {xs : List Value} (h : Has W w (Hp.row T size v n xs :: Ps)) : xs.length = n * size := h.row.1
theorem Has.rowReads {T size n : Nat} {v : Value} {xs : List Value} (h : Has W w (Hp.row T size v n xs :: Ps)) : Reads w v n size xs := Reads.of_owns h.row
theorem Has.appended {w9 : World} {T size n n' g : Nat} {v v' : Value} {xs xs' : List Value} (h : Has W w (Hp.row T size v n xs :: Ps)) (hown : w9.ownsRow 0 T size v' n' xs') (hv : v'.ownBlock = some g) (hf : Fr v.ownBlock.toList w w9) (hg : v.ownBlock = some g ∨ w.heap.size ≤ g) : Has W w9 (Hp.row T size v' n' xs' :: Ps) :=
  h.turn fun F ⟨h1, h2⟩ => ⟨[g], ⟨hown, by rw [hv]; rfl⟩, by rw [h2]; exact hf, fun x hx => by
      simp only [List.mem_singleton] at hx
      subst hx
      rcases hg with hg | hg
      · left; rw [h2, hg]; simp
      · right; exact hg⟩
/-- blocks -/
theorem Has.blkSet {b : Nat} {cs : Array Value} {t : TypeId} (h : Has W w (Hp.blk b (.cells cs t (0, 0)) :: Ps)) (j : Nat) (v : Value) : Has W (w.setCell ⟨b, j, none⟩ v) (Hp.blk b (.cells (cs.setIfInBounds j v) t (0, 0)) :: Ps) :=
  h.turn fun F ⟨h1, h2⟩ => ⟨F, ⟨heap_setCell_here h1 j v, h2⟩, (Fr.refl F w).setCell (.inl (by simp [h2])) v, fun x hx => .inl hx⟩
/-! ### Maps -/
/-- a map as a thing -/
def mapT {κ ν : Type} (b : Nat) (f : κ → Value) (g : ν → Value) (l : List (κ × ν)) : Res where
  holds w F := MapIs w b f g l ∧ F = [b]
  keep := fun ⟨h1, h2⟩ hk => ⟨h1.of_block (hk _ (by simp [h2])), h2⟩
  lt := fun ⟨h1, h2⟩ x hx => by rw [h2] at hx; simp at hx; subst hx; exact h1.lt
theorem Has.map {κ ν : Type} {b : Nat} {f : κ → Value} {g : ν → Value} {l : List (κ × ν)} (h : Has W w (mapT b f g l :: Ps)) : MapIs w b f g l := by obtain ⟨F, h1, _⟩ := h.head; exact h1
theorem Has.mapped {κ ν : Type} {b : Nat} {f : κ → Value} {g : ν → Value} {l l' : List (κ × ν)} {w9 : World} (h : Has W w (mapT b f g l :: Ps)) (hm : MapIs w9 b f g l') (hf : Fr [b] w w9) : Has W w9 (mapT b f g l' :: Ps) :=
  h.turn fun F ⟨h1, h2⟩ => ⟨[b], ⟨hm, rfl⟩, by rw [h2]; exact hf, fun x hx => .inl (by rw [h2]; exact hx)⟩
end
/-! ### Lists of pairs -/
section
variable {κ ν : Type} [DecidableEq κ]
theorem put_nil (k : κ) (v : ν) : put [] k v = [(k, v)] := rfl
theorem put_cons (p : κ × ν) (l : List (κ × ν)) (k : κ) (v : ν) : put (p :: l) k v = if p.1 = k then (k, v) :: l else p :: put l k v := by
  unfold put
  rw [List.map_cons, idxOf?_cons]
  by_cases h : p.1 = k
  · rw [if_pos h, if_pos h]; rfl
  · rw [if_neg h, if_neg h]
    cases (l.map (·.1)).idxOf? k <;> rfl
theorem get?_nil (k : κ) : get? ([] : List (κ × ν)) k = none := rfl
theorem get?_cons (p : κ × ν) (l : List (κ × ν)) (k : κ) : get? (p :: l) k = if p.1 = k then some p.2 else get? l k := by
  unfold get?
  rw [List.map_cons, idxOf?_cons]
  by_cases h : p.1 = k
  · rw [if_pos h, if_pos h]; rfl
  · rw [if_neg h, if_neg h]
    cases (l.map (·.1)).idxOf? k <;> rfl
/-- the pairs without the first of a key -/
def out : List (κ × ν) → κ → List (κ × ν)
  | [], _ => []
  | p :: l, k => if p.1 = k then l else p :: out l k
theorem get?_put (l : List (κ × ν)) (k j : κ) (v : ν) : get? (put l k v) j = if j = k then some v else get? l j := by
  induction l with
  | nil => rw [put_nil, get?_cons, get?_nil]; by_cases h : k = j <;> simp [h, eq_comm]
  | cons p l ih =>
    rw [put_cons]
    by_cases h : p.1 = k
    · rw [if_pos h, get?_cons, get?_cons]
      by_cases h2 : k = j
      · simp [h2]
      · rw [if_neg h2, if_neg (fun e => h2 e.symm), h, if_neg h2]
    · rw [if_neg h, get?_cons, get?_cons, ih]
      by_cases h2 : p.1 = j
      · rw [if_pos h2, if_pos h2, if_neg (fun e => h (h2.trans e))]
      · rw [if_neg h2, if_neg h2]
theorem get?_out {l : List (κ × ν)} {k j : κ} (h : j ≠ k) : get? (out l k) j = get? l j := by
  induction l with
  | nil => rfl
  | cons p l ih =>
    rw [out, get?_cons]
    by_cases h1 : p.1 = k
    · rw [if_pos h1, if_neg (fun e => h (e.symm.trans h1))]
    · rw [if_neg h1, get?_cons, ih]
theorem put_out {l : List (κ × ν)} {k j : κ} (h : j ≠ k) (v : ν) : out (put l j v) k = put (out l k) j v := by
  induction l with
  | nil =>
    rw [put_nil, out]
    simp [out, put_nil, h]
  | cons p l ih =>
    rw [put_cons, out]
    by_cases h1 : p.1 = k
    · rw [if_pos h1, if_neg (fun e => h (e.symm.trans h1)), out, if_pos h1]
    · rw [if_neg h1, put_cons]
      by_cases h2 : p.1 = j
      · rw [if_pos h2, if_pos h2, out, if_neg h]
      · rw [if_neg h2, if_neg h2, out, if_neg h1, ih]
theorem perm_out {l : List (κ × ν)} {k : κ} {v : ν} (h : get? l k = some v) : l.Perm ((k, v) :: out l k) := by
  induction l with
  | nil => cases h
  | cons p l ih =>
    rw [get?_cons] at h
    rw [out]
    by_cases h1 : p.1 = k
    · rw [if_pos h1] at h ⊢
      cases h
      rw [← h1]
    · rw [if_neg h1] at h ⊢
      exact ((ih h).cons p).trans (List.Perm.swap _ _ _)
theorem out_none {l : List (κ × ν)} {k : κ} (h : get? l k = none) : out l k = l := by
  induction l with
  | nil => rfl
  | cons p l ih =>
    rw [get?_cons] at h
    rw [out]
    by_cases h1 : p.1 = k
    · rw [if_pos h1] at h; cases h
    · rw [if_neg h1] at h ⊢; rw [ih h]
theorem perm_put (l : List (κ × ν)) (k : κ) (v : ν) : (put l k v).Perm ((k, v) :: out l k) := by
  induction l with
  | nil => rw [put_nil, out]
  | cons p l ih =>
    rw [put_cons, out]
    by_cases h1 : p.1 = k
    · rw [if_pos h1, if_pos h1]
    · rw [if_neg h1, if_neg h1]
      exact (ih.cons p).trans (List.Perm.swap _ _ _)
end
/-- numbers as values -/
def nv (l : List Nat) : List Value := l.map fun n : Nat => Value.int .i64 (n : Int)
theorem nv_length (l : List Nat) : (nv l).length = l.length := by simp [nv]
theorem nv_append (l m : List Nat) : nv (l ++ m) = nv l ++ nv m := by simp [nv]
theorem nv_get {l : List Nat} {i n : Nat} (h : l[i]? = some n) : (nv l)[i]? = some (.int .i64 (n : Int)) := by simp [nv, h]
theorem nv_one (l : List Nat) : ∀ u ∈ nv l, u.oneCell' = true := by
  intro u hu
  obtain ⟨n, _, rfl⟩ := List.mem_map.1 hu
  rfl
section
variable {W w : World} {Ps : List Res} {κ : Type} [DecidableEq κ]
/-- a map to slices of numbers: the slice at a key, and its numbers -/
def wv (L : List (κ × (Value × List Nat))) (k : κ) : Value := ((get? L k).map (·.1)).getD (.slice none 0 0)
def wl (L : List (κ × (Value × List Nat))) (k : κ) : List Nat := ((get? L k).map (·.2)).getD []
def rowI (T : Nat) (p : κ × (Value × List Nat)) : Res := Hp.row T 1 p.2.1 p.2.2.length (nv p.2.2)
theorem wl_put (L : List (κ × (Value × List Nat))) (k j : κ) (v : Value) (l : List Nat) : wl (put L k (v, l)) j = if j = k then l else wl L j := by
  unfold wl; rw [get?_put]; split <;> rfl
theorem wv_put (L : List (κ × (Value × List Nat))) (k j : κ) (v : Value) (l : List Nat) : wv (put L k (v, l)) j = if j = k then v else wv L j := by
  unfold wv; rw [get?_put]; split <;> rfl
theorem wl_out {L : List (κ × (Value × List Nat))} {k j : κ} (h : j ≠ k) : wl (out L k) j = wl L j := by unfold wl; rw [get?_out h]
theorem wv_out {L : List (κ × (Value × List Nat))} {k j : κ} (h : j ≠ k) : wv (out L k) j = wv L j := by unfold wv; rw [get?_out h]
/-- the row of a key taken out, and laid back -/
theorem Has.pickKey {T : Nat} {L : List (κ × (Value × List Nat))} (h : Has W w (bun (L.map (rowI T)) :: Ps)) (k : κ) : Has W w (Hp.row T 1 (wv L k) (wl L k).length (nv (wl L k)) :: bun ((out L k).map (rowI T)) :: Ps) := by
  unfold wv wl
  cases hg : get? L k with
  | none =>
    rw [out_none hg]
    exact h.nilRow T 1
  | some p =>
    have h1 : Has W w (rowI T (k, p) :: ((out L k).map (rowI T) ++ Ps)) := h.unbun.perm (((perm_out hg).map (rowI T)).append_right Ps)
    exact (Has.rebun (Ps := rowI T (k, p) :: Ps) (h1.perm List.perm_middle.symm)).swap
theorem Has.layKey {T : Nat} {L : List (κ × (Value × List Nat))} {k : κ} {v : Value} {l : List Nat} (h : Has W w (Hp.row T 1 v l.length (nv l) :: bun ((out L k).map (rowI T)) :: Ps)) : Has W w (bun ((put L k (v, l)).map (rowI T)) :: Ps) := by
  have h1 := (h.swap.unbun.perm List.perm_middle : Has W w (rowI T (k, (v, l)) :: ((out L k).map (rowI T) ++ Ps)))
  exact Has.rebun (h1.perm (((perm_put L k (v, l)).map (rowI T)).append_right Ps).symm)
end
section
variable {P : Program} {ops : Array Oper} {rest : List Oper} {o : Oper} {a : Act} {w : World} {Q : Exit → Act → World → Prop} {κ : Type} [DecidableEq κ] {f : κ → Value}
/-- a look-up in a map to slices of numbers, whether there is one or not -/
theorem wpList_lookup_wv {T K E : TypeId} {m x : Operand} {b : Nat} {L : List (κ × (Value × List Nat))} {k : κ} (hg : o.guard = none) (ho : o.op = .lookup T m x false) (hm : a.eval m = .map (some b)) (hx : a.eval x = f k) (h : MapIs w b f (fun p : Value × List Nat => p.1) L)
    (hT : P.underlying T = some (.map K E)) (hK : KeysBy P K f) (hz : (zeroValue E).run P w = .ok (.slice none 0 0) w) (hnext : wpList P ops Q rest (a.put o.dst (wv L k)) w) : wpList P ops Q (o :: rest) a w := by
  refine wpList_run hg ?_ hnext
  rw [exec_lookup ho, hm, hx, h.lookup hT hK hz k false]
  unfold wv
  rfl
/-- a store into a map to slices of numbers -/
theorem wpList_update_wl {T K E : TypeId} {m x u : Operand} {b : Nat} {L : List (κ × (Value × List Nat))} {k : κ} {v : Value} (l : List Nat) (hg : o.guard = none) (ho : o.op = .mapUpdate T m x u) (hm : a.eval m = .map (some b)) (hx : a.eval x = f k) (hu : a.eval u = v)
    (h : MapIs w b f (fun p : Value × List Nat => p.1) L) (hT : P.underlying T = some (.map K E)) (hK : KeysBy P K f)
    (hnext : ∀ w', MapIs w' b f (fun p : Value × List Nat => p.1) (put L k (v, l)) → Fr [b] w w' → w'.heap.size = w.heap.size → wpList P ops Q rest (a.put o.dst undef) w') : wpList P ops Q (o :: rest) a w :=
  wpList_update_is (v := (v, l)) hg ho hm hx hu h hT hK fun q hq => hnext _ hq ((Fr.refl _ _).setBlock (.inl (by simp)) _) (by simp)
end
theorem list_inner {α : Type} {p q n : Nat} {news : List α} (A : List α) (hl : news.length = q) (h : p + q ≤ n) (hn : n ≤ A.length) : (A.take p ++ news ++ A.drop (p + q)).take n = (A.take n).take p ++ news ++ (A.take n).drop (p + q) := by
  have e1 : A.take p = (A.take n).take p := by rw [List.take_take, Nat.min_eq_left (by omega)]
  have e2 : A.drop (p + q) = (A.take n).drop (p + q) ++ A.drop n := by
    rw [← List.drop_append_of_le_length (by rw [List.length_take]; omega), List.take_append_drop]
  rw [e1, e2, ← List.append_assoc, List.take_left']
  rw [List.length_append, List.length_append, List.length_take, List.length_drop, List.length_take]; omega
/-- append within a row that is owned: the elements behind stay -/
theorem append_inner {P : Program} {ops : Array Oper} {rest : List Oper} {o : Oper} {a : Act} {W : World} {Q : Exit → Act → World → Prop} (hgd : o.guard = none) {s x : Operand} {t : TypeId}
    (ho : o.op = .call { callee := .builtin .append, args := #[s, x], argTypes := #[t, t] }) {base e : Nat} {z : Value} {size bytes : Nat} (ht : P.underlying t = some (.slice e)) (hinfo : (P.info? e).map (fun i => (i.zero, i.size, i.bytes)) = some (some z, size, bytes))
    {g cap n j m c : Nat} {xs news : List Value} (hs : a.eval s = .slice (some ⟨g, 0, none⟩) j cap) (hown : W.ownsRow base e size (.slice (some ⟨g, 0, none⟩) n cap) n xs) {ad : Addr} (hx : a.eval x = .slice (some ad) m c)
    (hl : news.length = m * size) (hc : ∀ i u, news[i]? = some u → W.cell? (ad.add i) = some u) (h1 : ∀ u ∈ news, u.oneCell' = true) (hjm : j + m ≤ n)
    (h : ∀ w', w'.ownsRow base e size (.slice (some ⟨g, 0, none⟩) n cap) n (xs.take (j * size) ++ news ++ xs.drop (j * size + m * size)) → Fr [g] W w' → w'.heap.size = W.heap.size → wpList P ops Q rest (a.put o.dst (.slice (some ⟨g, 0, none⟩) (j + m) cap)) w') : wpList P ops Q (o :: rest) a W := by
  obtain ⟨i, hi, hz0, hz1, hz2⟩ := info_parts hinfo
  obtain ⟨h3, h4⟩ := hown
  rcases h4 with ⟨h4, _⟩ | ⟨g', cap', cur, hv, hb, hh, hn, hm, hsz, htk⟩
  · cases h4
  cases hv
  have hlt := lt_of_block hh
  have hjs : j * size + m * size ≤ n * size := by rw [← Nat.add_mul]; exact Nat.mul_le_mul_right _ hjm
  have hns : n * size ≤ cap * size := Nat.mul_le_mul_right _ hn
  have hrun := run_append_room (P := P) W t o.type e i ht hi g j cap cur hh ad m c news (by rw [hz1]; exact hl) hc h1 (by omega) (by rw [hz1, hl, hsz]; omega)
  rw [hz1, hl] at hrun
  obtain ⟨cs, hcs⟩ : ∃ cs, cur.toList.take (j * size) ++ news ++ cur.toList.drop (j * size + m * size) = cs := ⟨_, rfl⟩
  rw [hcs] at hrun
  refine wpList_plain hgd fun K hK' => ?_
  unfold Oper.wp
  simp [execOp, ho, resolve, invoke, builtin, hs, hx, hrun, Result.andThen]
  refine hK' _ _ (h _ ⟨?_, .inr ⟨g, cap, cs.toArray, rfl, hb, ?_, hn, hm, ?_, ?_⟩⟩ ?_ ?_)
  · rw [List.length_append, List.length_append, List.length_take, List.length_drop, hl, h3]; omega
  · show (W.heap.modify g _)[g]? = _
    rw [Array.getElem?_modify, if_pos rfl, hh]; rfl
  · rw [List.size_toArray, ← hcs, List.length_append, List.length_append, List.length_take, List.length_drop, hl, Array.length_toList, hsz]; omega
  · rw [← hcs, ← htk]
    exact list_inner cur.toList hl hjs (by rw [Array.length_toList, hsz]; exact hns)
  · exact ⟨rfl, rfl, rfl, by simp [World.setRow], fun b hb1 hb2 => by
      show (W.heap.modify g _)[b]? = _
      rw [Array.getElem?_modify, if_neg (by simpa using fun e : g = b => hb2 (by simp [e]))]⟩
  · simp [World.setRow]
end Go.Proofs.Hp
end

section
/- Appending to a row among things. No condition on a program. -/
namespace Go.Proofs.Hp
open Go Go.RowKit Go.Proofs.Mp
set_option linter.unusedVariables false
set_option linter.unusedSimpArgs false
/-- append of one element that was laid into a block of its own, to a row among things -/
theorem append_has {P : Program} {ops : Array Oper} {rest : List Oper} {o : Oper} {a : Act} {W w : World} {Ps : List Res} {Q : Exit → Act → World → Prop} (hgd : o.guard = none) {s x : Operand} {t : TypeId}
    (ho : o.op = .call { callee := .builtin .append, args := #[s, x], argTypes := #[t, t] }) {e : Nat} {z : Value} {size bytes : Nat} (ht : P.underlying t = some (.slice e)) (hinfo : (P.info? e).map (fun i => (i.zero, i.size, i.bytes)) = some (some z, size, bytes))
    (hzs : z.cells.size = size) (hsz : 0 < size) {v : Value} {n : Nat} {xs : List Value} (hs : a.eval s = v) {nb c : Nat} {news : List Value} {fr : Nat × Nat} (hx : a.eval x = .slice (some ⟨nb, 0, none⟩) 1 c)
    (h : Has W w (Hp.row e size v n xs :: Ps)) (hnb : w.heap[nb]? = some (.cells news.toArray e fr)) (hl : news.length = size) (h1 : ∀ u ∈ news, u.oneCell' = true) (h63 : n + 1 ≤ maxLen) (hbytes : (n + 1) * bytes ≤ 140737488355328)
    (hnext : ∀ g cap w', Has W w' (Hp.row e size (.slice (some ⟨g, 0, none⟩) (n + 1) cap) (n + 1) (xs ++ news) :: Ps) → Fr v.ownBlock.toList w w' → g < w'.heap.size → wpList P ops Q rest (a.put o.dst (.slice (some ⟨g, 0, none⟩) (n + 1) cap)) w') : wpList P ops Q (o :: rest) a w :=
  append_new hgd ho (base := 0) ht hinfo hzs hsz hs h.row hx hnb hl h1 h63 hbytes (Nat.zero_le _) fun g cap w' h2 _ h3 h4 h5 =>
    hnext g cap w' (h.appended h2 rfl h3 (by rcases h4 with h4 | h4; exact .inl h4; exact .inr (Nat.le_of_eq h4.symm))) h3 h5
/-- append within a row among things -/
theorem inner_has {P : Program} {ops : Array Oper} {rest : List Oper} {o : Oper} {a : Act} {W w : World} {Ps : List Res} {Q : Exit → Act → World → Prop} (hgd : o.guard = none) {s x : Operand} {t : TypeId}
    (ho : o.op = .call { callee := .builtin .append, args := #[s, x], argTypes := #[t, t] }) {e : Nat} {z : Value} {size bytes : Nat} (ht : P.underlying t = some (.slice e)) (hinfo : (P.info? e).map (fun i => (i.zero, i.size, i.bytes)) = some (some z, size, bytes))
    {g cap n j m c : Nat} {xs news : List Value} (hs : a.eval s = .slice (some ⟨g, 0, none⟩) j cap) {ad : Addr} (hx : a.eval x = .slice (some ad) m c) (h : Has W w (Hp.row e size (.slice (some ⟨g, 0, none⟩) n cap) n xs :: Ps))
    (hl : news.length = m * size) (hc : ∀ i u, news[i]? = some u → w.cell? (ad.add i) = some u) (h1 : ∀ u ∈ news, u.oneCell' = true) (hjm : j + m ≤ n)
    (hnext : ∀ w', Has W w' (Hp.row e size (.slice (some ⟨g, 0, none⟩) n cap) n (xs.take (j * size) ++ news ++ xs.drop (j * size + m * size)) :: Ps) → Fr [g] w w' → w'.heap.size = w.heap.size → wpList P ops Q rest (a.put o.dst (.slice (some ⟨g, 0, none⟩) (j + m) cap)) w') : wpList P ops Q (o :: rest) a w :=
  append_inner hgd ho ht hinfo hs h.row hx hl hc h1 hjm fun w' h2 h3 h4 =>
    hnext w' (h.appended (g := g) h2 rfl h3 (.inl rfl)) h3 h4
/-- append of one element of one cell, that was laid into a block of its own, within a row among things -/
theorem inner1_has {P : Program} {ops : Array Oper} {rest : List Oper} {o : Oper} {a : Act} {W w : World} {Ps : List Res} {Q : Exit → Act → World → Prop} (hgd : o.guard = none) {s x : Operand} {t : TypeId}
    (ho : o.op = .call { callee := .builtin .append, args := #[s, x], argTypes := #[t, t] }) {e : Nat} {z : Value} {bytes : Nat} (ht : P.underlying t = some (.slice e)) (hinfo : (P.info? e).map (fun i => (i.zero, i.size, i.bytes)) = some (some z, 1, bytes))
    {g cap n j nb c : Nat} {xs : List Value} {y : Value} {fr : Nat × Nat} (hs : a.eval s = .slice (some ⟨g, 0, none⟩) j cap) (hx : a.eval x = .slice (some ⟨nb, 0, none⟩) 1 c) (h : Has W w (Hp.row e 1 (.slice (some ⟨g, 0, none⟩) n cap) n xs :: Ps))
    (hnb : w.heap[nb]? = some (.cells #[y] e fr)) (h1 : y.oneCell' = true) (hjm : j + 1 ≤ n)
    (hnext : ∀ w', Has W w' (Hp.row e 1 (.slice (some ⟨g, 0, none⟩) n cap) n (xs.take j ++ [y] ++ xs.drop (j + 1)) :: Ps) → Fr [g] w w' → w'.heap.size = w.heap.size → wpList P ops Q rest (a.put o.dst (.slice (some ⟨g, 0, none⟩) (j + 1) cap)) w') : wpList P ops Q (o :: rest) a w :=
  inner_has hgd ho ht hinfo (m := 1) (news := [y]) hs hx h rfl (fun i u hi => by rw [cell_row_add hnb i]; simpa using hi) (by simpa using h1) hjm (by simpa using hnext)
theorem buf_next {buf old kp : List Nat} {i n k : Nat} (hk : kp.length ≤ i) (hb : buf.length = n ∧ buf.take kp.length = kp ∧ buf.drop i = old.drop i) (hi : i < n) (ho : old.drop i = k :: old.drop (i + 1)) :
    (buf.take kp.length ++ [k] ++ buf.drop (kp.length + 1)).length = n ∧ (buf.take kp.length ++ [k] ++ buf.drop (kp.length + 1)).take (kp ++ [k]).length = kp ++ [k] ∧ (buf.take kp.length ++ [k] ++ buf.drop (kp.length + 1)).drop (i + 1) = old.drop (i + 1) := by
  obtain ⟨h1, h2, h3⟩ := hb
  rw [h2]
  refine ⟨by simp; omega, List.take_left' rfl, ?_⟩
  have h4 := congrArg (List.drop 1) h3
  rw [List.drop_drop, List.drop_drop] at h4
  rw [← h4, List.drop_append, List.drop_of_length_le (by simp; omega), List.nil_append, List.drop_drop]
  congr 1
  simp; omega
theorem Has.nvSnoc {W w : World} {T : Nat} {v : Value} {l : List Nat} {k : Nat} {Ps : List Res} (h : Has W w (Hp.row T 1 v (l.length + 1) (nv l ++ [.int .i64 (k : Int)]) :: Ps)) : Has W w (Hp.row T 1 v (l ++ [k]).length (nv (l ++ [k])) :: Ps) := by
  rw [nv_append, List.length_append]
  exact h
theorem Has.nvLen {W w : World} {T n : Nat} {v : Value} {l : List Nat} {Ps : List Res} (h : Has W w (Hp.row T 1 v n (nv l) :: Ps)) (hn : n = l.length) : Has W w (Hp.row T 1 v l.length (nv l) :: Ps) := by
  rw [← hn]
  exact h
theorem nv_conf {buf kp old : List Nat} {k m : Nat} (Z : List Value) (h : buf.take (kp ++ [k]).length = kp ++ [k]) (hm : old.length = m) : ((nv buf).take (kp.length + 1) ++ (nv old ++ Z)).take (kp.length + 1 + m) = nv (kp ++ ([k] ++ old)) := by
  have e : (nv buf).take (kp.length + 1) = nv (kp ++ [k]) := by
    rw [List.length_append] at h
    unfold nv
    rw [← List.map_take]
    congr 1
  rw [e, ← List.append_assoc, ← nv_append, List.take_left', List.append_assoc]
  rw [nv_length]; simp; omega
theorem nv_next (buf : List Nat) (j k : Nat) : nv (buf.take j ++ [k] ++ buf.drop (j + 1)) = (nv buf).take j ++ .int .i64 (k : Int) :: (nv buf).drop (j + 1) := by unfold nv; simp [List.map_take, List.map_drop]
/-- a thing brought to the front, and put back -/
theorem Has.bring {W w : World} {Xs : List Res} (i : Nat) (h : Has W w Xs) : Has W w ((Xs[i]?).toList ++ Xs.eraseIdx i) := by
  cases hi : Xs[i]? with
  | none =>
    rw [List.eraseIdx_of_length_le (by rw [List.getElem?_eq_none_iff] at hi; exact hi)]
    exact h
  | some P => exact h.perm (perm_erase hi)
theorem Has.sink {W w : World} {P : Res} {Xs : List Res} (i : Nat) (h : Has W w (P :: Xs)) : Has W w (Xs.take i ++ P :: Xs.drop i) := by
  refine h.perm ?_
  have h1 : (P :: Xs).Perm (P :: (Xs.take i ++ Xs.drop i)) := by rw [List.take_append_drop]
  exact h1.trans List.perm_middle.symm
theorem owns_form2 {w : World} {base e size n : Nat} {v : Value} {xs : List Value} (h : w.ownsRow base e size v n xs) : ∃ a cap, v = .slice a n cap ∧ (a = none → n = 0 ∧ cap = 0) ∧ ∀ ad, a = some ad → ∃ g, ad = ⟨g, 0, none⟩ := by
  rcases h.2 with ⟨h2, h0⟩ | ⟨g, cap, cur, hv, _⟩
  · exact ⟨none, 0, by rw [h2, h0], fun _ => ⟨h0, rfl⟩, by simp⟩
  · exact ⟨_, cap, hv, by simp, fun ad e => ⟨g, by simpa using e.symm⟩⟩
theorem owns_cap {w : World} {base e size n : Nat} {a : Option Addr} {c : Nat} {xs : List Value} (h : w.ownsRow base e size (.slice a n c) n xs) : n ≤ c := by
  rcases h.2 with ⟨h1, h0⟩ | ⟨g, cap, cur, h1, _, _, h2, _⟩
  · omega
  · cases h1; exact h2
/-- two things have no block in common -/
theorem Has.apart {W w : World} {Ps : List Res} {P Q : Res} (h : Has W w (P :: Q :: Ps)) : ∃ F G, P.holds w F ∧ Q.holds w G ∧ ∀ x ∈ F, x ∉ G := by
  obtain ⟨F, ⟨F1, F2, h1, ⟨G1, G2, g1, g2, g3, rfl⟩, h3, rfl⟩, hf, hge⟩ := h
  exact ⟨F1, G1, h1, g1, fun x hx hx' => h3 x hx (by simp [hx'])⟩
theorem Has.bb {W w : World} {a b : Nat} {o1 o2 : Obj} {Ps : List Res} (h : Has W w (Hp.blk a o1 :: Hp.blk b o2 :: Ps)) : a ≠ b := by
  obtain ⟨F, G, ⟨_, rfl⟩, ⟨_, rfl⟩, h⟩ := h.apart
  rintro rfl
  exact h a (by simp) (by simp)
theorem Has.br {W w : World} {a : Nat} {o1 : Obj} {T size n g c : Nat} {xs : List Value} {Ps : List Res} (h : Has W w (Hp.blk a o1 :: Hp.row T size (.slice (some ⟨g, 0, none⟩) n c) n xs :: Ps)) : a ≠ g := by
  obtain ⟨F, G, ⟨_, rfl⟩, ⟨_, rfl⟩, h⟩ := h.apart
  rintro rfl
  exact h a (by simp) (by simp [Value.ownBlock])
theorem Has.rr {W w : World} {T size n g c T2 size2 n2 g2 c2 : Nat} {xs ys : List Value} {Ps : List Res} (h : Has W w (Hp.row T size (.slice (some ⟨g, 0, none⟩) n c) n xs :: Hp.row T2 size2 (.slice (some ⟨g2, 0, none⟩) n2 c2) n2 ys :: Ps)) : g ≠ g2 := by
  obtain ⟨F, G, ⟨_, rfl⟩, ⟨_, rfl⟩, h⟩ := h.apart
  rintro rfl
  exact h g (by simp [Value.ownBlock]) (by simp [Value.ownBlock])
/-- numbers up to a bound, each once -/
theorem pigeon : ∀ {n : Nat} {l : List Nat}, l.Nodup → (∀ x ∈ l, 1 ≤ x ∧ x ≤ n) → l.length ≤ n
  | 0, l, hn, h => by
    cases l with
    | nil => simp
    | cons x l => have := h x (by simp); omega
  | n + 1, l, hn, h => by
    by_cases hm : n + 1 ∈ l
    · have h1 := (List.perm_cons_erase hm).length_eq
      have h2 := pigeon (n := n) (hn.erase (n + 1)) fun x hx => by
        have h3 := h x (List.mem_of_mem_erase hx)
        have h4 : x ≠ n + 1 := by
          rintro rfl
          exact absurd hx (List.Nodup.not_mem_erase hn)
        omega
      rw [List.length_cons] at h1
      omega
    · have := pigeon (n := n) hn fun x hx => by
        have h3 := h x hx
        have h4 : x ≠ n + 1 := by rintro rfl; exact hm hx
        omega
      omega
end Go.Proofs.Hp
end
