/- Own texts of this claim, part 11: no condition. -/
import Derived.Maps.AppendAt
import Derived.Laws.AppendOwnNone
import Derived.Test.YtjidldfnlejdhaaZM3
set_option linter.unusedVariables false
set_option linter.unusedSimpArgs false
section
/- Things in the heap side by side: each has blocks of its own, new since a world W; a call that turns one leaves the others. No condition on a program. -/
namespace Go.Proofs.Hp
open Go Go.RowKit
set_option linter.unusedVariables false
set_option linter.unusedSimpArgs false
/-- a thing in the heap: what it says of the world and of the list of its blocks -/
structure Res where
  holds : World → List Nat → Prop
  keep : ∀ {w w' : World} {F : List Nat}, holds w F → (∀ x ∈ F, w'.heap[x]? = w.heap[x]?) → holds w' F
  lt : ∀ {w : World} {F : List Nat}, holds w F → ∀ x ∈ F, x < w.heap.size
def Seps (w : World) : List Res → List Nat → Prop
  | [], F => F = []
  | P :: Ps, F => ∃ F1 F2, P.holds w F1 ∧ Seps w Ps F2 ∧ (∀ x ∈ F1, x ∉ F2) ∧ F = F1 ++ F2
def Has (W w : World) (Ps : List Res) : Prop := ∃ F, Seps w Ps F ∧ Fr [] W w ∧ ∀ x ∈ F, W.heap.size ≤ x
theorem Seps.keep {w w' : World} : ∀ {Ps : List Res} {F : List Nat}, Seps w Ps F → (∀ x ∈ F, w'.heap[x]? = w.heap[x]?) → Seps w' Ps F
  | [], _, h, _ => h
  | P :: Ps, F, ⟨F1, F2, h1, h2, h3, h4⟩, hk => ⟨F1, F2, P.keep h1 fun x hx => hk x (by rw [h4]; simp [hx]), Seps.keep h2 fun x hx => hk x (by rw [h4]; simp [hx]), h3, h4⟩
theorem Seps.lt {w : World} : ∀ {Ps : List Res} {F : List Nat}, Seps w Ps F → ∀ x ∈ F, x < w.heap.size
  | [], _, h, x, hx => by rw [show _ = [] from h] at hx; cases hx
  | P :: Ps, F, ⟨F1, F2, h1, h2, h3, h4⟩, x, hx => by
    rw [h4, List.mem_append] at hx
    rcases hx with hx | hx
    · exact P.lt h1 x hx
    · exact Seps.lt h2 x hx
section
variable {W w w' : World} {P P' Q : Res} {Ps : List Res}
theorem Has.fr (h : Has W w Ps) : Fr [] W w := by obtain ⟨_, _, h, _⟩ := h; exact h
theorem Has.nil (h : Fr [] W w) : Has W w [] := ⟨[], rfl, h, by simp⟩
theorem Has.step (h : Has W w Ps) (hf : Fr [] w w') : Has W w' Ps := by
  obtain ⟨F, h1, h2, h3⟩ := h
  exact ⟨F, h1.keep fun x hx => hf.block x (h1.lt x hx) (by simp), h2.trans0 hf, h3⟩
theorem Has.drew (h : Has W w Ps) (hd : Drew w w') : Has W w' Ps := h.step (hd.fr _)
theorem Has.head (h : Has W w (P :: Ps)) : ∃ F, P.holds w F := by obtain ⟨F, ⟨F1, F2, h1, _⟩, _⟩ := h; exact ⟨F1, h1⟩
theorem Has.new {F : List Nat} (h : Has W w Ps) (hf : Fr [] w w') (hP : P.holds w' F) (hF : ∀ x ∈ F, w.heap.size ≤ x) : Has W w' (P :: Ps) := by
  obtain ⟨G, h1, h2, h3⟩ := h
  refine ⟨F ++ G, ⟨F, G, hP, h1.keep fun x hx => hf.block x (h1.lt x hx) (by simp), fun x hx hx' => ?_, rfl⟩, h2.trans0 hf, fun x hx => ?_⟩
  · have := hF x hx; have := h1.lt x hx'; omega
  · rw [List.mem_append] at hx
    rcases hx with hx | hx
    · have := hF x hx; have := h2.size; omega
    · exact h3 x hx
theorem Has.swap (h : Has W w (P :: Q :: Ps)) : Has W w (Q :: P :: Ps) := by
  obtain ⟨F, ⟨F1, F2, h1, ⟨G1, G2, g1, g2, g3, rfl⟩, h3, rfl⟩, hf, hge⟩ := h
  refine ⟨G1 ++ (F1 ++ G2), ⟨G1, F1 ++ G2, g1, ⟨F1, G2, h1, g2, fun x hx hx' => h3 x hx (by simp [hx']), rfl⟩, fun x hx hx' => ?_, rfl⟩, hf, fun x hx => hge x ?_⟩
  · rw [List.mem_append] at hx'
    rcases hx' with h | h
    · exact h3 x h (by simp [hx])
    · exact g3 x hx h
  · simp only [List.mem_append] at hx ⊢
    rcases hx with h | h | h <;> simp [h]
theorem Has.drop (h : Has W w (P :: Ps)) : Has W w Ps := by
  obtain ⟨F, ⟨F1, F2, h1, h2, h3, rfl⟩, hf, hge⟩ := h
  exact ⟨F2, h2, hf, fun x hx => hge x (by simp [hx])⟩
/-- a call turns the first thing -/
theorem Has.upd (h : Has W w (P :: Ps)) {R : Ending → Prop} {Pr : Program} {f : FuncId} {args : Array Value}
    (hc : ∀ F, P.holds w F → Calls Pr f args w fun e w' => R e ∧ ∃ F', P'.holds w' F' ∧ Fr F w w' ∧ ∀ x ∈ F', x ∈ F ∨ w.heap.size ≤ x) : Calls Pr f args w fun e w' => R e ∧ Has W w' (P' :: Ps) := by
  obtain ⟨F, ⟨F1, F2, h1, h2, h3, rfl⟩, hf, hge⟩ := h
  refine (hc F1 h1).mono ?_
  rintro e w' ⟨hR, F', hP, hf', hs⟩
  refine ⟨hR, F' ++ F2, ⟨F', F2, hP, h2.keep fun x hx => hf'.block x (h2.lt x hx) fun hx' => h3 x hx' hx, fun x hx hx' => ?_, rfl⟩, hf.trans hf' fun x hx => .inr (hge x (by simp [hx])), fun x hx => ?_⟩
  · rcases hs x hx with h | h
    · exact h3 x h hx'
    · have := h2.lt x hx'; omega
  · rw [List.mem_append] at hx
    rcases hx with hx | hx
    · rcases hs x hx with h | h
      · exact hge x (by simp [h])
      · have := hf.size; omega
    · exact hge x (by simp [hx])
/-- the first thing is turned by what the law itself does -/
theorem Has.turn (h : Has W w (P :: Ps)) (hc : ∀ F, P.holds w F → ∃ F', P'.holds w' F' ∧ Fr F w w' ∧ ∀ x ∈ F', x ∈ F ∨ w.heap.size ≤ x) : Has W w' (P' :: Ps) := by
  obtain ⟨F, ⟨F1, F2, h1, h2, h3, rfl⟩, hf, hge⟩ := h
  obtain ⟨F', hP, hf', hs⟩ := hc F1 h1
  refine ⟨F' ++ F2, ⟨F', F2, hP, h2.keep fun x hx => hf'.block x (h2.lt x hx) fun hx' => h3 x hx' hx, fun x hx hx' => ?_, rfl⟩, hf.trans hf' fun x hx => .inr (hge x (by simp [hx])), fun x hx => ?_⟩
  · rcases hs x hx with h | h
    · exact h3 x h hx'
    · have := h2.lt x hx'; omega
  · rw [List.mem_append] at hx
    rcases hx with hx | hx
    · rcases hs x hx with h | h
      · exact hge x (by simp [h])
      · have := hf.size; omega
    · exact hge x (by simp [hx])
/-- a call only looks at the first thing -/
theorem Has.look (h : Has W w (P :: Ps)) {R : Ending → World → Prop} {Pr : Program} {f : FuncId} {args : Array Value}
    (hc : ∀ F, P.holds w F → Calls Pr f args w fun e w' => R e w' ∧ Fr [] w w') : Calls Pr f args w fun e w' => R e w' ∧ Has W w' (P :: Ps) := by
  obtain ⟨F, hP⟩ := h.head
  exact (hc F hP).mono fun e w' ⟨h1, h2⟩ => ⟨h1, h.step h2⟩
end
theorem Seps.perm {w : World} {Ps Qs : List Res} (p : Ps.Perm Qs) : ∀ {F : List Nat}, Seps w Ps F → ∃ G, Seps w Qs G ∧ ∀ x, x ∈ G ↔ x ∈ F := by
  induction p with
  | nil => exact fun h => ⟨_, h, fun x => Iff.rfl⟩
  | cons P _ ih =>
    rintro F ⟨F1, F2, h1, h2, h3, rfl⟩
    obtain ⟨G, g1, g2⟩ := ih h2
    exact ⟨F1 ++ G, ⟨F1, G, h1, g1, fun x hx hx' => h3 x hx ((g2 x).1 hx'), rfl⟩, fun x => by simp [g2]⟩
  | swap P Q l =>
    rintro F ⟨F1, F2, h1, ⟨G1, G2, g1, g2, g3, rfl⟩, h3, rfl⟩
    refine ⟨G1 ++ (F1 ++ G2), ⟨G1, F1 ++ G2, g1, ⟨F1, G2, h1, g2, fun x hx hx' => h3 x hx (by simp [hx']), rfl⟩, fun x hx hx' => ?_, rfl⟩, fun x => ?_⟩
    · rw [List.mem_append] at hx'
      rcases hx' with h | h
      · exact h3 x h (by simp [hx])
      · exact g3 x hx h
    · simp only [List.mem_append]
      constructor <;> intro h <;> rcases h with h | h | h <;> simp [h]
  | trans _ _ ih1 ih2 =>
    intro F h
    obtain ⟨G, g1, g2⟩ := ih1 h
    obtain ⟨G', g1', g2'⟩ := ih2 g1
    exact ⟨G', g1', fun x => (g2' x).trans (g2 x)⟩
theorem Has.perm {W w : World} {Ps Qs : List Res} (h : Has W w Ps) (p : Ps.Perm Qs) : Has W w Qs := by
  obtain ⟨F, h1, h2, h3⟩ := h
  obtain ⟨G, g1, g2⟩ := h1.perm p
  exact ⟨G, g1, h2, fun x hx => h3 x ((g2 x).1 hx)⟩
theorem Has.third {W w : World} {A B C : Res} {Ps : List Res} (h : Has W w (A :: B :: C :: Ps)) : Has W w (C :: A :: B :: Ps) := h.perm (((List.Perm.swap C B Ps).cons A).trans (List.Perm.swap C A (B :: Ps)))
theorem Has.fourth {W w : World} {A B C D : Res} {Ps : List Res} (h : Has W w (A :: B :: C :: D :: Ps)) : Has W w (D :: A :: B :: C :: Ps) :=
  h.perm (((((List.Perm.swap D C Ps).cons B).trans (List.Perm.swap D B (C :: Ps))).cons A).trans (List.Perm.swap D A (B :: C :: Ps)))
/-- one block, known whole -/
def blk (b : Nat) (o : Obj) : Res where
  holds w F := w.heap[b]? = some o ∧ F = [b]
  keep := fun ⟨h1, h2⟩ hk => ⟨by rw [hk b (by simp [h2])]; exact h1, h2⟩
  lt := fun ⟨h1, h2⟩ x hx => by rw [h2] at hx; simp at hx; subst hx; exact lt_of_block h1
theorem Has.blk {W w : World} {Ps : List Res} {b : Nat} {o : Obj} (h : Has W w (Hp.blk b o :: Ps)) : w.heap[b]? = some o := by obtain ⟨F, h1, _⟩ := h.head; exact h1
/-- a row that was made -/
def row (T size : Nat) (v : Value) (n : Nat) (xs : List Value) : Res where
  holds w F := w.ownsRow 0 T size v n xs ∧ F = v.ownBlock.toList
  keep := fun ⟨h1, h2⟩ hk => ⟨owns_of_block h1 fun g hg => hk g (by simp [h2, hg]), h2⟩
  lt := fun ⟨h1, h2⟩ x hx => by rw [h2] at hx; exact owns_lt h1 (by simpa using hx)
theorem Has.row {W w : World} {Ps : List Res} {T size n : Nat} {v : Value} {xs : List Value} (h : Has W w (Hp.row T size v n xs :: Ps)) : w.ownsRow 0 T size v n xs := by obtain ⟨F, h1, _⟩ := h.head; exact h1
theorem Has.newRow {W w w' : World} {Ps : List Res} {T size n : Nat} {v : Value} {xs : List Value} (h : Has W w Ps) (hf : Fr [] w w') (ho : w'.ownsRow w.heap.size T size v n xs) : Has W w' (Hp.row T size v n xs :: Ps) :=
  h.new hf (F := v.ownBlock.toList) ⟨owns_base ho (Nat.zero_le _), rfl⟩ fun x hx => owns_ge ho (by simpa using hx)
theorem Has.newBlk {W w : World} {Ps : List Res} (h : Has W w Ps) (o : Obj) : Has W (w.alloc o) (Hp.blk w.heap.size o :: Ps) :=
  h.new ((Fr.refl [] w).alloc o) (F := [w.heap.size]) ⟨by rw [hp_alloc, if_pos rfl], rfl⟩ (by simp)
end Go.Proofs.Hp
end

section
/- Things put into another order, and left. -/
namespace Go.Proofs.Hp
open Go Go.RowKit
set_option linter.unusedVariables false
set_option linter.unusedSimpArgs false
theorem range_take {α : Type} (n : Nat) (xs : List α) : (List.range n).filterMap (fun i => xs[i]?) = xs.take n := by
  induction n with
  | zero => simp
  | succ n ih =>
    rw [List.range_succ, List.filterMap_append, ih]
    by_cases h : n < xs.length
    · rw [List.take_add_one, List.getElem?_eq_getElem h]; simp [h]
    · rw [List.take_add_one]; simp [List.getElem?_eq_none (by omega : xs.length ≤ n)]
theorem Has.drops {W w : World} {Qs : List Res} : ∀ {Es : List Res}, Has W w (Es ++ Qs) → Has W w Qs
  | [], h => h
  | _ :: _, h => Has.drops h.drop
/-- the things at the numbers `is` of the first n, then the rest behind the first n -/
theorem Has.ord {W w : World} {Xs : List Res} (n : Nat) (is : List Nat) (h : Has W w Xs) (hs : (is ++ (List.range n).filter (fun i => !is.contains i)).isPerm (List.range n) = true := by decide) : Has W w (is.filterMap (fun i => Xs[i]?) ++ Xs.drop n) := by
  have hp := List.isPerm_iff.1 hs
  have h2 := hp.filterMap (fun i => Xs[i]?)
  rw [range_take, List.filterMap_append] at h2
  have h3 : Xs.Perm ((((List.range n).filter (fun i => !is.contains i)).filterMap fun i => Xs[i]?) ++ (is.filterMap (fun i => Xs[i]?) ++ Xs.drop n)) := by
    refine (List.Perm.of_eq (List.take_append_drop n Xs).symm).trans ?_
    refine (h2.symm.append_right _).trans ?_
    rw [← List.append_assoc]
    exact List.perm_append_comm.append_right _
  exact Has.drops (h.perm h3)
end Go.Proofs.Hp
end

section
/- Appending a slice that is read; slices of slices that are read. No condition on a program. -/
namespace Go.Proofs.Hp
open Go Go.RowKit
set_option linter.unusedVariables false
set_option linter.unusedSimpArgs false
theorem addr_add (g off j : Nat) : (⟨g, off, none⟩ : Addr).add j = ⟨g, off + j, none⟩ := by
  unfold Addr.add
  split
  · rename_i h0; rw [h0]; rfl
  · rfl
/-- append of a slice that is read onto a row that is owned -/
theorem append_reads {P : Program} {ops : Array Oper} {rest : List Oper} {o : Oper} {a : Act} {W : World} {Q : Exit → Act → World → Prop} (hgd : o.guard = none) {s x : Operand} {t : TypeId}
    (ho : o.op = .call { callee := .builtin .append, args := #[s, x], argTypes := #[t, t] }) {base e : Nat} {z : Value} {size bytes : Nat} (ht : P.underlying t = some (.slice e)) (hinfo : (P.info? e).map (fun i => (i.zero, i.size, i.bytes)) = some (some z, size, bytes))
    (hzs : z.cells.size = size) (hsz : 0 < size) {v : Value} {n : Nat} {xs : List Value} (hs : a.eval s = v) (hown : W.ownsRow base e size v n xs) {ad : Option Addr} {m c : Nat} {news : List Value} (hx : a.eval x = .slice ad m c)
    (hr : Reads W (.slice ad m c) m size news) (hz : ad = none → c = 0) (h1 : ∀ u ∈ news, u.oneCell' = true) (h63 : n + m ≤ maxLen) (hbytes : (n + m) * bytes ≤ 140737488355328) (hbase : base ≤ W.heap.size)
    (h : ∀ v' w', w'.ownsRow base e size v' (n + m) (xs ++ news) → Fr v.ownBlock.toList W w' → (v'.ownBlock = v.ownBlock ∨ v'.ownBlock = some W.heap.size) → wpList P ops Q rest (a.put o.dst v') w') : wpList P ops Q (o :: rest) a W := by
  obtain ⟨i0, hi0, hi1, hi2, hi3⟩ := info_parts hinfo
  have hfr : ∀ w', W.grownBy w' v.ownBlock → Fr v.ownBlock.toList W w' := fun w' h2 => (Fr.refl _ _).grown h2 fun k hk => .inl (by simp [hk])
  cases ad with
  | none =>
    have hc0 : c = 0 := hz rfl
    subst hc0
    obtain ⟨hl, a', c', he, hp⟩ := hr
    cases he
    have h0 : m = 0 := by
      rcases Nat.eq_zero_or_pos m with h | h
      · exact h
      · obtain ⟨g, off, hh, _⟩ := hp h; cases hh
    subst h0
    obtain rfl : news = [] := List.eq_nil_of_length_eq_zero (by rw [hl, Nat.zero_mul])
    refine wpList_append_own_none hgd s x _ ho base _ i0 size ht hi0 v n xs hs hown hx ?_
    exact h v W (by simpa using hown) (Fr.refl _ _) (.inl rfl)
  | some ad =>
    obtain ⟨hl, a', c', he, hp⟩ := hr
    cases he
    rcases Nat.eq_zero_or_pos m with h0 | h0
    · subst h0
      obtain rfl : news = [] := List.eq_nil_of_length_eq_zero (by rw [hl, Nat.zero_mul])
      exact wpList_append_own_at _ hgd s x _ ho base _ i0 z size bytes ht hi0 hi1 hi2 hi3 hzs hsz v n xs hs hown ad _ c _ hx (by simp) (by simp) h1 h63 hbytes hbase fun v' w' h1 h2 _ h4 => h v' w' h1 (hfr w' h2) h4
    · obtain ⟨g, off, hh, _, hc⟩ := hp h0
      cases hh
      refine wpList_append_own_at _ hgd s x _ ho base _ i0 z size bytes ht hi0 hi1 hi2 hi3 hzs hsz v n xs hs hown ⟨g, off, none⟩ _ c _ hx hl (fun j u hj => ?_) h1 h63 hbytes hbase fun v' w' h1 h2 _ h4 => h v' w' h1 (hfr w' h2) h4
      rw [addr_add]; exact hc j u hj
/-! ### Ints, and rows of ints -/
def iv (l : List Int) : List Value := l.map fun n => Value.int .i64 n
theorem iv_length (l : List Int) : (iv l).length = l.length := by simp [iv]
theorem iv_one (l : List Int) : ∀ u ∈ iv l, u.oneCell' = true := by
  intro u hu
  obtain ⟨n, _, rfl⟩ := List.mem_map.1 hu
  rfl
theorem iv_append (l m : List Int) : iv l ++ iv m = iv (l ++ m) := by simp [iv]
theorem iv_get {l : List Int} {i : Nat} {x : Int} (h : l[i]? = some x) : (iv l)[i]? = some (.int .i64 x) := by rw [iv, List.getElem?_map, h]; rfl
theorem iv_set (l : List Int) (i : Nat) (x : Int) : (iv l).set i (.int .i64 x) = iv (l.set i x) := by unfold iv; rw [List.map_set]
theorem iv_replicate (n : Nat) : List.replicate n (Value.int .i64 0) = iv (List.replicate n 0) := by simp [iv]
/-- a slice of ints that is read -/
def IntsAt (w : World) (v : Value) (l : List Int) : Prop := Reads w v l.length 1 (iv l)
theorem IntsAt.fr {w w' : World} {v : Value} {l : List Int} (h : IntsAt w v l) (hf : Fr [] w w') : IntsAt w' v l := Reads.fr h hf
theorem IntsAt.form {w : World} {v : Value} {l : List Int} (h : IntsAt w v l) : ∃ a c, v = .slice a l.length c := by
  obtain ⟨_, a, c, h, _⟩ := h
  exact ⟨a, c, h⟩
/-- a slice of slices of ints that is read -/
def RowsAt (w : World) (v : Value) (L : List (List Int)) : Prop := ∃ vs : List Value, Reads w v L.length 1 vs ∧ ∀ (i : Nat) (r : List Int), L[i]? = some r → ∃ u, vs[i]? = some u ∧ IntsAt w u r
theorem RowsAt.fr {w w' : World} {v : Value} {L : List (List Int)} (h : RowsAt w v L) (hf : Fr [] w w') : RowsAt w' v L := by
  obtain ⟨vs, h1, h2⟩ := h
  refine ⟨vs, h1.fr hf, fun i r hi => ?_⟩
  obtain ⟨u, hu, hr⟩ := h2 i r hi
  exact ⟨u, hu, hr.fr hf⟩
theorem RowsAt.form {w : World} {v : Value} {L : List (List Int)} (h : RowsAt w v L) : ∃ a c, v = .slice a L.length c := by
  obtain ⟨_, ⟨_, a, c, h, _⟩, _⟩ := h
  exact ⟨a, c, h⟩
/-- one row: its slice lies in a cell -/
theorem RowsAt.row {w : World} {a : Option Addr} {n c : Nat} {L : List (List Int)} (h : RowsAt w (.slice a n c) L) {i : Nat} {r : List Int} (hi : L[i]? = some r) :
    ∃ g off ra rc, a = some ⟨g, off, none⟩ ∧ g < w.heap.size ∧ w.cell? ⟨g, off + i, none⟩ = some (.slice ra r.length rc) ∧ IntsAt w (.slice ra r.length rc) r := by
  obtain ⟨vs, ⟨hl, a', c', he, hp⟩, h2⟩ := h
  cases he
  obtain ⟨u, hu, hr⟩ := h2 i r hi
  obtain ⟨ra, rc, rfl⟩ := hr.form
  have hlt := (List.getElem?_eq_some_iff.1 hi).1
  obtain ⟨g, off, rfl, hg, hc⟩ := hp (by omega)
  exact ⟨g, off, ra, rc, rfl, hg, hc i _ hu, hr⟩
theorem IntsAt.cell {w : World} {a : Option Addr} {n c : Nat} {l : List Int} (h : IntsAt w (.slice a n c) l) {i : Nat} {x : Int} (hi : l[i]? = some x) :
    ∃ g off, a = some ⟨g, off, none⟩ ∧ g < w.heap.size ∧ w.cell? ⟨g, off + i, none⟩ = some (.int .i64 x) := by
  obtain ⟨hl, a', c', he, hp⟩ := h
  cases he
  have hlt := (List.getElem?_eq_some_iff.1 hi).1
  obtain ⟨g, off, rfl, hg, hc⟩ := hp (by omega)
  exact ⟨g, off, rfl, hg, hc i _ (iv_get hi)⟩
/-- a part of a slice of ints -/
theorem IntsAt.part {w : World} {a : Option Addr} {g off n c c' : Nat} {l : List Int} (h : IntsAt w (.slice (some ⟨g, off, none⟩) n c) l) {i m : Nat} (hm : i + m ≤ l.length) : IntsAt w (.slice (some ⟨g, off + i, none⟩) m c') ((l.drop i).take m) := by
  obtain ⟨hl, a', c'', he, hp⟩ := h
  cases he
  have hlen : ((l.drop i).take m).length = m := by simp; omega
  refine ⟨by simp [iv], _, _, by rw [hlen], fun h0 => ?_⟩
  rw [hlen] at h0
  obtain ⟨g', off', he, hg, hc⟩ := hp (by omega)
  cases he
  refine ⟨g, off + i, rfl, hg, fun j u hj => ?_⟩
  have hj' : (iv l)[i + j]? = some u := by
    unfold iv at hj ⊢
    rw [List.getElem?_map, List.getElem?_take] at hj
    split at hj
    · rw [List.getElem?_drop] at hj; rw [List.getElem?_map]; exact hj
    · simp at hj
  have := hc (i + j) u hj'
  rwa [← Nat.add_assoc] at this
/-- a slice of slices that was made: the outer row is owned, each row is read -/
theorem RowsAt.of_owns {w : World} {base e : Nat} {v : Value} {vs : List Value} {L : List (List Int)} (h : w.ownsRow base e 1 v L.length vs) (hr : ∀ (i : Nat) (r : List Int), L[i]? = some r → ∃ u, vs[i]? = some u ∧ IntsAt w u r) : RowsAt w v L := ⟨vs, Reads.of_owns h, hr⟩
end Go.Proofs.Hp
end

section
/- Bundles of things, rows of a list, maps to rows; appending within a row. No condition on a program. -/
namespace Go.Proofs.Hp
open Go Go.RowKit Go.Proofs.Mp
set_option linter.unusedVariables false
set_option linter.unusedSimpArgs false
theorem Seps.append {w : World} : ∀ {Qs Ps : List Res} {F : List Nat}, Seps w (Qs ++ Ps) F ↔ ∃ F1 F2, Seps w Qs F1 ∧ Seps w Ps F2 ∧ (∀ x ∈ F1, x ∉ F2) ∧ F = F1 ++ F2
  | [], Ps, F => by
    constructor
    · intro h; exact ⟨[], F, rfl, h, by simp, rfl⟩
    · rintro ⟨F1, F2, h1, h2, _, rfl⟩
      rw [show F1 = [] from h1]; exact h2
  | Q :: Qs, Ps, F => by
    constructor
    · rintro ⟨F1, F2, h1, h2, h3, rfl⟩
      obtain ⟨G1, G2, g1, g2, g3, rfl⟩ := Seps.append.1 h2
      refine ⟨F1 ++ G1, G2, ⟨F1, G1, h1, g1, fun x hx hx' => h3 x hx (by simp [hx']), rfl⟩, g2, fun x hx hx' => ?_, by simp⟩
      rcases List.mem_append.1 hx with hx | hx
      · exact h3 x hx (by simp [hx'])
      · exact g3 x hx hx'
    · rintro ⟨F1, F2, ⟨G1, G2, g1, g2, g3, rfl⟩, h2, h3, rfl⟩
      refine ⟨G1, G2 ++ F2, g1, Seps.append.2 ⟨G2, F2, g2, h2, fun x hx => h3 x (by simp [hx]), rfl⟩, fun x hx hx' => ?_, by simp⟩
      rcases List.mem_append.1 hx' with hx' | hx'
      · exact g3 x hx hx'
      · exact h3 x (by simp [hx]) hx'
/-- a list of things as one -/
def bun (Qs : List Res) : Res where
  holds w F := Seps w Qs F
  keep := fun h hk => Seps.keep h hk
  lt := fun h => Seps.lt h
section
variable {W w w' : World} {Qs Ps : List Res}
theorem Has.unbun (h : Has W w (bun Qs :: Ps)) : Has W w (Qs ++ Ps) := by
  obtain ⟨F, ⟨F1, F2, h1, h2, h3, h4⟩, hf, hge⟩ := h
  exact ⟨F, Seps.append.2 ⟨F1, F2, h1, h2, h3, h4⟩, hf, hge⟩
theorem Has.rebun (h : Has W w (Qs ++ Ps)) : Has W w (bun Qs :: Ps) := by
  obtain ⟨F, h1, hf, hge⟩ := h
  obtain ⟨F1, F2, h1, h2, h3, h4⟩ := Seps.append.1 h1
  exact ⟨F, ⟨F1, F2, h1, h2, h3, h4⟩, hf, hge⟩
/-- one of a family of things -/
def exR {ι : Type} (P : ι → Res) : Res where
  holds w F := ∃ i, (P i).holds w F
  keep := fun ⟨i, h⟩ hk => ⟨i, (P i).keep h hk⟩
  lt := fun ⟨i, h⟩ => (P i).lt h
theorem Has.unex {ι : Type} {P : ι → Res} (h : Has W w (exR P :: Ps)) : ∃ i, Has W w (P i :: Ps) := by
  obtain ⟨F, ⟨F1, F2, ⟨i, h1⟩, h2, h3, h4⟩, hf, hge⟩ := h
  exact ⟨i, F, ⟨F1, F2, h1, h2, h3, h4⟩, hf, hge⟩
theorem Has.inex {ι : Type} {P : ι → Res} (i : ι) (h : Has W w (P i :: Ps)) : Has W w (exR P :: Ps) := by
  obtain ⟨F, ⟨F1, F2, h1, h2, h3, h4⟩, hf, hge⟩ := h
  exact ⟨F, ⟨F1, F2, ⟨i, h1⟩, h2, h3, h4⟩, hf, hge⟩
theorem perm_erase {α : Type} {l : List α} {k : Nat} {a : α} (h : l[k]? = some a) : l.Perm (a :: l.eraseIdx k) := by
  induction l generalizing k with
  | nil => cases h
  | cons b l ih =>
    cases k with
    | zero => cases h; exact List.Perm.refl _
    | succ k => exact ((ih (k := k) h).cons b).trans (List.Perm.swap _ _ _)
theorem set_erase {α : Type} (l : List α) (k : Nat) (b : α) : (l.set k b).eraseIdx k = l.eraseIdx k := by
  apply List.ext_getElem?
  intro i
  rw [List.getElem?_eraseIdx, List.getElem?_eraseIdx, List.getElem?_set, List.getElem?_set]
  split
  · rw [if_neg (by omega)]
  · rw [if_neg (by omega)]
/-- one of a list of things taken out, and laid back -/
theorem Has.pick {α : Type} {R : α → Res} {l : List α} {k : Nat} {a : α} (h : Has W w (bun (l.map R) :: Ps)) (ha : l[k]? = some a) : Has W w (R a :: bun ((l.eraseIdx k).map R) :: Ps) := by
  have h1 : Has W w (R a :: ((l.eraseIdx k).map R ++ Ps)) := h.unbun.perm (((perm_erase ha).map R).append_right Ps)
  exact (Has.rebun (Ps := R a :: Ps) (h1.perm List.perm_middle.symm)).swap
theorem Has.lay {α : Type} {R : α → Res} {l : List α} {k : Nat} {b : α} (h : Has W w (R b :: bun ((l.eraseIdx k).map R) :: Ps)) (hk : k < l.length) : Has W w (bun ((l.set k b).map R) :: Ps) := by
  have h1 := (h.swap.unbun.perm List.perm_middle : Has W w (R b :: ((l.eraseIdx k).map R ++ Ps)))
  refine Has.rebun (h1.perm ?_)
  have h2 := (perm_erase (l := l.set k b) (k := k) (a := b) (by simp [hk])).map R
  rw [set_erase] at h2
  exact (h2.append_right Ps).symm
theorem Has.layNew {α : Type} {R : α → Res} {l : List α} {b : α} (h : Has W w (R b :: bun (l.map R) :: Ps)) : Has W w (bun ((l ++ [b]).map R) :: Ps) := by
  have h1 := (h.swap.unbun.perm List.perm_middle : Has W w (R b :: (l.map R ++ Ps)))
  refine Has.rebun (h1.perm ?_)
  rw [List.map_append]
  exact (List.Perm.append_right Ps (List.perm_append_comm (l₁ := [R b]) (l₂ := l.map R)))
theorem Has.bunNil (h : Has W w Ps) : Has W w (bun [] :: Ps) := Has.rebun h
/-- a thing whose blocks are no blocks -/
theorem Has.vac {P : Res} (h : Has W w Ps) (hP : P.holds w []) : Has W w (P :: Ps) := h.new (Fr.refl [] w) hP (by simp)
/-! ### Rows -/
theorem Has.rowSet {T size n g cap : Nat} {xs : List Value} (h : Has W w (Hp.row T size (.slice (some ⟨g, 0, none⟩) n cap) n xs :: Ps)) {j : Nat} (hj : j < xs.length) (u : Value) : Has W (w.setCell ⟨g, j, none⟩ u) (Hp.row T size (.slice (some ⟨g, 0, none⟩) n cap) n (xs.set j u) :: Ps) :=
  h.turn fun F ⟨h1, h2⟩ => ⟨F, ⟨owns_set h1 rfl hj u, h2⟩, (Fr.refl F w).setCell (.inl (by rw [h2]; simp [Value.ownBlock])) u, fun x hx => .inl hx⟩
theorem Has.rowCut {T size n m g cap : Nat} {xs : List Value} (h : Has W w (Hp.row T size (.slice (some ⟨g, 0, none⟩) n cap) n xs :: Ps)) (hm : m ≤ n) : Has W w (Hp.row T size (.slice (some ⟨g, 0, none⟩) m cap) m (xs.take (m * size)) :: Ps) :=
  h.turn fun F ⟨h1, h2⟩ => ⟨F, ⟨by
    obtain ⟨h3, h4⟩ := h1
    refine ⟨by rw [List.length_take, h3]; exact Nat.min_eq_left (Nat.mul_le_mul_right _ hm), .inr ?_⟩
    rcases h4 with ⟨h4, _⟩ | ⟨g', cap', cur, hv, hb, hh, hn, hc, hs, ht⟩
    · cases h4
    · cases hv
      refine ⟨g, cap, cur, rfl, hb, hh, by omega, hc, hs, ?_⟩
      rw [← ht, List.take_take, Nat.min_eq_left (Nat.mul_le_mul_right _ hm)], h2⟩, Fr.refl F w, fun x hx => .inl hx⟩
theorem Has.nilRow (h : Has W w Ps) (T size : Nat) : Has W w (Hp.row T size (.slice none 0 0) 0 [] :: Ps) := h.vac ⟨World.ownsRow_nil _ _ _ _, rfl⟩
theorem Has.rowLen {T size n : Nat} {v : Value} {xs : List Value} (h : Has W w (Hp.row T size v n xs :: Ps)) : xs.length = n * size := h.row.1
theorem Has.rowReads {T size n : Nat} {v : Value} {xs : List Value} (h : Has W w (Hp.row T size v n xs :: Ps)) : Reads w v n size xs := Reads.of_owns h.row
theorem Has.appended {w9 : World} {T size n n' g : Nat} {v v' : Value} {xs xs' : List Value} (h : Has W w (Hp.row T size v n xs :: Ps)) (hown : w9.ownsRow 0 T size v' n' xs') (hv : v'.ownBlock = some g) (hf : Fr v.ownBlock.toList w w9) (hg : v.ownBlock = some g ∨ w.heap.size ≤ g) : Has W w9 (Hp.row T size v' n' xs' :: Ps) :=
  h.turn fun F ⟨h1, h2⟩ => ⟨[g], ⟨hown, by rw [hv]; rfl⟩, by rw [h2]; exact hf, fun x hx => by
      simp only [List.mem_singleton] at hx
      subst hx
      rcases hg with hg | hg
      · left; rw [h2, hg]; simp
      · right; exact hg⟩
/-- blocks -/
theorem Has.blkSet {b : Nat} {cs : Array Value} {t : TypeId} (h : Has W w (Hp.blk b (.cells cs t (0, 0)) :: Ps)) (j : Nat) (v : Value) : Has W (w.setCell ⟨b, j, none⟩ v) (Hp.blk b (.cells (cs.setIfInBounds j v) t (0, 0)) :: Ps) :=
  h.turn fun F ⟨h1, h2⟩ => ⟨F, ⟨heap_setCell_here h1 j v, h2⟩, (Fr.refl F w).setCell (.inl (by simp [h2])) v, fun x hx => .inl hx⟩
/-! ### Maps -/
/-- a map as a thing -/
def mapT {κ ν : Type} (b : Nat) (f : κ → Value) (g : ν → Value) (l : List (κ × ν)) : Res where
  holds w F := MapIs w b f g l ∧ F = [b]
  keep := fun ⟨h1, h2⟩ hk => ⟨h1.of_block (hk _ (by simp [h2])), h2⟩
  lt := fun ⟨h1, h2⟩ x hx => by rw [h2] at hx; simp at hx; subst hx; exact h1.lt
theorem Has.map {κ ν : Type} {b : Nat} {f : κ → Value} {g : ν → Value} {l : List (κ × ν)} (h : Has W w (mapT b f g l :: Ps)) : MapIs w b f g l := by obtain ⟨F, h1, _⟩ := h.head; exact h1
theorem Has.mapped {κ ν : Type} {b : Nat} {f : κ → Value} {g : ν → Value} {l l' : List (κ × ν)} {w9 : World} (h : Has W w (mapT b f g l :: Ps)) (hm : MapIs w9 b f g l') (hf : Fr [b] w w9) : Has W w9 (mapT b f g l' :: Ps) :=
  h.turn fun F ⟨h1, h2⟩ => ⟨[b], ⟨hm, rfl⟩, by rw [h2]; exact hf, fun x hx => .inl (by rw [h2]; exact hx)⟩
end
/-! ### Lists of pairs -/
section
variable {κ ν : Type} [DecidableEq κ]
theorem put_nil (k : κ) (v : ν) : put [] k v = [(k, v)] := rfl
theorem put_cons (p : κ × ν) (l : List (κ × ν)) (k : κ) (v : ν) : put (p :: l) k v = if p.1 = k then (k, v) :: l else p :: put l k v := by
  unfold put
  rw [List.map_cons, idxOf?_cons]
  by_cases h : p.1 = k
  · rw [if_pos h, if_pos h]; rfl
  · rw [if_neg h, if_neg h]
    cases (l.map (·.1)).idxOf? k <;> rfl
theorem get?_nil (k : κ) : get? ([] : List (κ × ν)) k = none := rfl
theorem get?_cons (p : κ × ν) (l : List (κ × ν)) (k : κ) : get? (p :: l) k = if p.1 = k then some p.2 else get? l k := by
  unfold get?
  rw [List.map_cons, idxOf?_cons]
  by_cases h : p.1 = k
  · rw [if_pos h, if_pos h]; rfl
  · rw [if_neg h, if_neg h]
    cases (l.map (·.1)).idxOf? k <;> rfl
/-- the pairs without the first of a key -/
def out : List (κ × ν) → κ → List (κ × ν)
  | [], _ => []
  | p :: l, k => if p.1 = k then l else p :: out l k
theorem get?_put (l : List (κ × ν)) (k j : κ) (v : ν) : get? (put l k v) j = if j = k then some v else get? l j := by
  induction l with
  | nil => rw [put_nil, get?_cons, get?_nil]; by_cases h : k = j <;> simp [h, eq_comm]
  | cons p l ih =>
    rw [put_cons]
    by_cases h : p.1 = k
    · rw [if_pos h, get?_cons, get?_cons]
      by_cases h2 : k = j
      · simp [h2]
      · rw [if_neg h2, if_neg (fun e => h2 e.symm), h, if_neg h2]
    · rw [if_neg h, get?_cons, get?_cons, ih]
      by_cases h2 : p.1 = j
      · rw [if_pos h2, if_pos h2, if_neg (fun e => h (h2.trans e))]
      · rw [if_neg h2, if_neg h2]
theorem get?_out {l : List (κ × ν)} {k j : κ} (h : j ≠ k) : get? (out l k) j = get? l j := by
  induction l with
  | nil => rfl
  | cons p l ih =>
    rw [out, get?_cons]
    by_cases h1 : p.1 = k
    · rw [if_pos h1, if_neg (fun e => h (e.symm.trans h1))]
    · rw [if_neg h1, get?_cons, ih]
theorem put_out {l : List (κ × ν)} {k j : κ} (h : j ≠ k) (v : ν) : out (put l j v) k = put (out l k) j v := by
  induction l with
  | nil =>
    rw [put_nil, out]
    simp [out, put_nil, h]
  | cons p l ih =>
    rw [put_cons, out]
    by_cases h1 : p.1 = k
    · rw [if_pos h1, if_neg (fun e => h (e.symm.trans h1)), out, if_pos h1]
    · rw [if_neg h1, put_cons]
      by_cases h2 : p.1 = j
      · rw [if_pos h2, if_pos h2, out, if_neg h]
      · rw [if_neg h2, if_neg h2, out, if_neg h1, ih]
theorem perm_out {l : List (κ × ν)} {k : κ} {v : ν} (h : get? l k = some v) : l.Perm ((k, v) :: out l k) := by
  induction l with
  | nil => cases h
  | cons p l ih =>
    rw [get?_cons] at h
    rw [out]
    by_cases h1 : p.1 = k
    · rw [if_pos h1] at h ⊢
      cases h
      rw [← h1]
    · rw [if_neg h1] at h ⊢
      exact ((ih h).cons p).trans (List.Perm.swap _ _ _)
theorem out_none {l : List (κ × ν)} {k : κ} (h : get? l k = none) : out l k = l := by
  induction l with
  | nil => rfl
  | cons p l ih =>
    rw [get?_cons] at h
    rw [out]
    by_cases h1 : p.1 = k
    · rw [if_pos h1] at h; cases h
    · rw [if_neg h1] at h ⊢; rw [ih h]
theorem perm_put (l : List (κ × ν)) (k : κ) (v : ν) : (put l k v).Perm ((k, v) :: out l k) := by
  induction l with
  | nil => rw [put_nil, out]
  | cons p l ih =>
    rw [put_cons, out]
    by_cases h1 : p.1 = k
    · rw [if_pos h1, if_pos h1]
    · rw [if_neg h1, if_neg h1]
      exact (ih.cons p).trans (List.Perm.swap _ _ _)
end
/-- numbers as values -/
def nv (l : List Nat) : List Value := l.map fun n : Nat => Value.int .i64 (n : Int)
theorem nv_length (l : List Nat) : (nv l).length = l.length := by simp [nv]
theorem nv_append (l m : List Nat) : nv (l ++ m) = nv l ++ nv m := by simp [nv]
theorem nv_get {l : List Nat} {i n : Nat} (h : l[i]? = some n) : (nv l)[i]? = some (.int .i64 (n : Int)) := by simp [nv, h]
theorem nv_one (l : List Nat) : ∀ u ∈ nv l, u.oneCell' = true := by
  intro u hu
  obtain ⟨n, _, rfl⟩ := List.mem_map.1 hu
  rfl
section
variable {W w : World} {Ps : List Res} {κ : Type} [DecidableEq κ]
/-- a map to slices of numbers: the slice at a key, and its numbers -/
def wv (L : List (κ × (Value × List Nat))) (k : κ) : Value := ((get? L k).map (·.1)).getD (.slice none 0 0)
def wl (L : List (κ × (Value × List Nat))) (k : κ) : List Nat := ((get? L k).map (·.2)).getD []
def rowI (T : Nat) (p : κ × (Value × List Nat)) : Res := Hp.row T 1 p.2.1 p.2.2.length (nv p.2.2)
theorem wl_put (L : List (κ × (Value × List Nat))) (k j : κ) (v : Value) (l : List Nat) : wl (put L k (v, l)) j = if j = k then l else wl L j := by
  unfold wl; rw [get?_put]; split <;> rfl
theorem wv_put (L : List (κ × (Value × List Nat))) (k j : κ) (v : Value) (l : List Nat) : wv (put L k (v, l)) j = if j = k then v else wv L j := by
  unfold wv; rw [get?_put]; split <;> rfl
theorem wl_out {L : List (κ × (Value × List Nat))} {k j : κ} (h : j ≠ k) : wl (out L k) j = wl L j := by unfold wl; rw [get?_out h]
theorem wv_out {L : List (κ × (Value × List Nat))} {k j : κ} (h : j ≠ k) : wv (out L k) j = wv L j := by unfold wv; rw [get?_out h]
/-- the row of a key taken out, and laid back -/
theorem Has.pickKey {T : Nat} {L : List (κ × (Value × List Nat))} (h : Has W w (bun (L.map (rowI T)) :: Ps)) (k : κ) : Has W w (Hp.row T 1 (wv L k) (wl L k).length (nv (wl L k)) :: bun ((out L k).map (rowI T)) :: Ps) := by
  unfold wv wl
  cases hg : get? L k with
  | none =>
    rw [out_none hg]
    exact h.nilRow T 1
  | some p =>
    have h1 : Has W w (rowI T (k, p) :: ((out L k).map (rowI T) ++ Ps)) := h.unbun.perm (((perm_out hg).map (rowI T)).append_right Ps)
    exact (Has.rebun (Ps := rowI T (k, p) :: Ps) (h1.perm List.perm_middle.symm)).swap
theorem Has.layKey {T : Nat} {L : List (κ × (Value × List Nat))} {k : κ} {v : Value} {l : List Nat} (h : Has W w (Hp.row T 1 v l.length (nv l) :: bun ((out L k).map (rowI T)) :: Ps)) : Has W w (bun ((put L k (v, l)).map (rowI T)) :: Ps) := by
  have h1 := (h.swap.unbun.perm List.perm_middle : Has W w (rowI T (k, (v, l)) :: ((out L k).map (rowI T) ++ Ps)))
  exact Has.rebun (h1.perm (((perm_put L k (v, l)).map (rowI T)).append_right Ps).symm)
end
section
variable {P : Program} {ops : Array Oper} {rest : List Oper} {o : Oper} {a : Act} {w : World} {Q : Exit → Act → World → Prop} {κ : Type} [DecidableEq κ] {f : κ → Value}
/-- a look-up in a map to slices of numbers, whether there is one or not -/
theorem wpList_lookup_wv {T K E : TypeId} {m x : Operand} {b : Nat} {L : List (κ × (Value × List Nat))} {k : κ} (hg : o.guard = none) (ho : o.op = .lookup T m x false) (hm : a.eval m = .map (some b)) (hx : a.eval x = f k) (h : MapIs w b f (fun p : Value × List Nat => p.1) L)
    (hT : P.underlying T = some (.map K E)) (hK : KeysBy P K f) (hz : (zeroValue E).run P w = .ok (.slice none 0 0) w) (hnext : wpList P ops Q rest (a.put o.dst (wv L k)) w) : wpList P ops Q (o :: rest) a w := by
  refine wpList_run hg ?_ hnext
  rw [exec_lookup ho, hm, hx, h.lookup hT hK hz k false]
  unfold wv
  rfl
/-- a store into a map to slices of numbers -/
theorem wpList_update_wl {T K E : TypeId} {m x u : Operand} {b : Nat} {L : List (κ × (Value × List Nat))} {k : κ} {v : Value} (l : List Nat) (hg : o.guard = none) (ho : o.op = .mapUpdate T m x u) (hm : a.eval m = .map (some b)) (hx : a.eval x = f k) (hu : a.eval u = v)
    (h : MapIs w b f (fun p : Value × List Nat => p.1) L) (hT : P.underlying T = some (.map K E)) (hK : KeysBy P K f)
    (hnext : ∀ w', MapIs w' b f (fun p : Value × List Nat => p.1) (put L k (v, l)) → Fr [b] w w' → w'.heap.size = w.heap.size → wpList P ops Q rest (a.put o.dst undef) w') : wpList P ops Q (o :: rest) a w :=
  wpList_update_is (v := (v, l)) hg ho hm hx hu h hT hK fun q hq => hnext _ hq ((Fr.refl _ _).setBlock (.inl (by simp)) _) (by simp)
end
theorem list_inner {α : Type} {p q n : Nat} {news : List α} (A : List α) (hl : news.length = q) (h : p + q ≤ n) (hn : n ≤ A.length) : (A.take p ++ news ++ A.drop (p + q)).take n = (A.take n).take p ++ news ++ (A.take n).drop (p + q) := by
  have e1 : A.take p = (A.take n).take p := by rw [List.take_take, Nat.min_eq_left (by omega)]
  have e2 : A.drop (p + q) = (A.take n).drop (p + q) ++ A.drop n := by
    rw [← List.drop_append_of_le_length (by rw [List.length_take]; omega), List.take_append_drop]
  rw [e1, e2, ← List.append_assoc, List.take_left']
  rw [List.length_append, List.length_append, List.length_take, List.length_drop, List.length_take]; omega
/-- append within a row that is owned: the elements behind stay -/
theorem append_inner {P : Program} {ops : Array Oper} {rest : List Oper} {o : Oper} {a : Act} {W : World} {Q : Exit → Act → World → Prop} (hgd : o.guard = none) {s x : Operand} {t : TypeId}
    (ho : o.op = .call { callee := .builtin .append, args := #[s, x], argTypes := #[t, t] }) {base e : Nat} {z : Value} {size bytes : Nat} (ht : P.underlying t = some (.slice e)) (hinfo : (P.info? e).map (fun i => (i.zero, i.size, i.bytes)) = some (some z, size, bytes))
    {g cap n j m c : Nat} {xs news : List Value} (hs : a.eval s = .slice (some ⟨g, 0, none⟩) j cap) (hown : W.ownsRow base e size (.slice (some ⟨g, 0, none⟩) n cap) n xs) {ad : Addr} (hx : a.eval x = .slice (some ad) m c)
    (hl : news.length = m * size) (hc : ∀ i u, news[i]? = some u → W.cell? (ad.add i) = some u) (h1 : ∀ u ∈ news, u.oneCell' = true) (hjm : j + m ≤ n)
    (h : ∀ w', w'.ownsRow base e size (.slice (some ⟨g, 0, none⟩) n cap) n (xs.take (j * size) ++ news ++ xs.drop (j * size + m * size)) → Fr [g] W w' → w'.heap.size = W.heap.size → wpList P ops Q rest (a.put o.dst (.slice (some ⟨g, 0, none⟩) (j + m) cap)) w') : wpList P ops Q (o :: rest) a W := by
  obtain ⟨i, hi, hz0, hz1, hz2⟩ := info_parts hinfo
  obtain ⟨h3, h4⟩ := hown
  rcases h4 with ⟨h4, _⟩ | ⟨g', cap', cur, hv, hb, hh, hn, hm, hsz, htk⟩
  · cases h4
  cases hv
  have hlt := lt_of_block hh
  have hjs : j * size + m * size ≤ n * size := by rw [← Nat.add_mul]; exact Nat.mul_le_mul_right _ hjm
  have hns : n * size ≤ cap * size := Nat.mul_le_mul_right _ hn
  have hrun := run_append_room (P := P) W t o.type e i ht hi g j cap cur hh ad m c news (by rw [hz1]; exact hl) hc h1 (by omega) (by rw [hz1, hl, hsz]; omega)
  rw [hz1, hl] at hrun
  obtain ⟨cs, hcs⟩ : ∃ cs, cur.toList.take (j * size) ++ news ++ cur.toList.drop (j * size + m * size) = cs := ⟨_, rfl⟩
  rw [hcs] at hrun
  refine wpList_plain hgd fun K hK' => ?_
  unfold Oper.wp
  simp [execOp, ho, resolve, invoke, builtin, hs, hx, hrun, Result.andThen]
  refine hK' _ _ (h _ ⟨?_, .inr ⟨g, cap, cs.toArray, rfl, hb, ?_, hn, hm, ?_, ?_⟩⟩ ?_ ?_)
  · rw [List.length_append, List.length_append, List.length_take, List.length_drop, hl, h3]; omega
  · show (W.heap.modify g _)[g]? = _
    rw [Array.getElem?_modify, if_pos rfl, hh]; rfl
  · rw [List.size_toArray, ← hcs, List.length_append, List.length_append, List.length_take, List.length_drop, hl, Array.length_toList, hsz]; omega
  · rw [← hcs, ← htk]
    exact list_inner cur.toList hl hjs (by rw [Array.length_toList, hsz]; exact hns)
  · exact ⟨rfl, rfl, rfl, by simp [World.setRow], fun b hb1 hb2 => by
      show (W.heap.modify g _)[b]? = _
      rw [Array.getElem?_modify, if_neg (by simpa using fun e : g = b => hb2 (by simp [e]))]⟩
  · simp [World.setRow]
end Go.Proofs.Hp
end

section
/- Formulas: assignments in order, the least that satisfies, all of the first variables, their number. Nothing of a program. -/
namespace Go.Proofs.Sv
set_option linter.unusedVariables false
set_option linter.unusedSimpArgs false
/-- a literal is true under values of the variables from 1 on -/
def litT (A : List Bool) (x : Int) : Bool := A.getD (x.natAbs - 1) false == decide (0 < x)
def sat (cs : List (List Int)) (A : List Bool) : Bool := cs.all fun c => c.any (litT A)
def opn (l : List Bool) (x : Int) : Bool := decide (l.length < x.natAbs) || litT l x
def hold (cs : List (List Int)) (l : List Bool) : Bool := cs.all fun c => c.any (opn l)
/-- all lists of values that begin with l and have k more, in order -/
def ext : Nat → List Bool → List (List Bool)
  | 0, l => [l]
  | k + 1, l => ext k (l ++ [false]) ++ ext k (l ++ [true])
/-- literals of the first n variables -/
def Lits (n : Nat) (cs : List (List Int)) : Prop := ∀ c ∈ cs, ∀ x ∈ c, x ≠ 0 ∧ x.natAbs ≤ n
def complete (cs : List (List Int)) : Nat → List Bool → Option (List Bool)
  | 0, l => if hold cs l then some l else none
  | k + 1, l => if hold cs l then (complete cs k (l ++ [false])).or (complete cs k (l ++ [true])) else none
theorem ext_mem {k : Nat} {l A : List Bool} : A ∈ ext k l ↔ ∃ r, r.length = k ∧ A = l ++ r := by
  induction k generalizing l with
  | zero => simp [ext]
  | succ k ih =>
    rw [ext, List.mem_append, ih, ih]
    constructor
    · rintro (⟨r, h1, rfl⟩ | ⟨r, h1, rfl⟩)
      · exact ⟨false :: r, by simp [h1], by simp⟩
      · exact ⟨true :: r, by simp [h1], by simp⟩
    · rintro ⟨r, h1, rfl⟩
      cases r with
      | nil => simp at h1
      | cons b r =>
        simp at h1
        cases b
        · exact .inl ⟨r, h1, by simp⟩
        · exact .inr ⟨r, h1, by simp⟩
theorem ext_length {k : Nat} {l A : List Bool} (h : A ∈ ext k l) : A.length = l.length + k := by
  obtain ⟨r, h1, rfl⟩ := ext_mem.1 h
  simp [h1]
theorem ext_all (n : Nat) (A : List Bool) (h : A.length = n) : A ∈ ext n [] := ext_mem.2 ⟨A, h, by simp⟩
theorem litT_append {l r : List Bool} {x : Int} (h0 : x ≠ 0) (h : x.natAbs ≤ l.length) : litT (l ++ r) x = litT l x := by
  unfold litT
  have : x.natAbs - 1 < l.length := by omega
  simp [List.getElem?_append_left this]
theorem hold_prefix {n : Nat} {cs : List (List Int)} (hL : Lits n cs) {l r : List Bool} (h : hold cs (l ++ r) = true) : hold cs l = true := by
  unfold hold at h ⊢
  rw [List.all_eq_true] at h ⊢
  intro c hc
  have h1 := h c hc
  rw [List.any_eq_true] at h1 ⊢
  obtain ⟨x, hx, h2⟩ := h1
  refine ⟨x, hx, ?_⟩
  unfold opn at h2 ⊢
  by_cases h3 : l.length < x.natAbs
  · simp [h3]
  · rw [Bool.or_eq_true] at h2 ⊢
    rcases h2 with h2 | h2
    · simp at h2; omega
    · rw [litT_append (hL c hc x hx).1 (by omega)] at h2
      exact .inr h2
theorem hold_full {cs : List (List Int)} {A : List Bool} (hL : Lits A.length cs) : hold cs A = sat cs A := by
  unfold hold sat
  rw [Bool.eq_iff_iff, List.all_eq_true, List.all_eq_true]
  have : ∀ c ∈ cs, c.any (opn A) = c.any (litT A) := by
    intro c hc
    rw [Bool.eq_iff_iff, List.any_eq_true, List.any_eq_true]
    constructor
    · rintro ⟨x, hx, h⟩
      refine ⟨x, hx, ?_⟩
      have := (hL c hc x hx).2
      unfold opn at h
      simpa [show ¬ A.length < x.natAbs by omega] using h
    · rintro ⟨x, hx, h⟩
      exact ⟨x, hx, by unfold opn; simp [h]⟩
  constructor <;> intro h c hc
  · rw [← this c hc]; exact h c hc
  · rw [this c hc]; exact h c hc
theorem sat_hold {cs : List (List Int)} {l r : List Bool} (hL : Lits (l ++ r).length cs) (h : sat cs (l ++ r) = true) : hold cs l = true := by
  rw [← hold_full hL] at h
  exact hold_prefix hL h
theorem complete_eq {cs : List (List Int)} {k : Nat} {l : List Bool} (hL : Lits (l.length + k) cs) : complete cs k l = (ext k l).find? (sat cs) := by
  induction k generalizing l with
  | zero =>
    unfold complete ext
    rw [hold_full hL]
    simp [List.find?_cons]
    cases sat cs l <;> rfl
  | succ k ih =>
    unfold complete
    by_cases h : hold cs l = true
    · rw [if_pos h, ih (by simpa [Nat.add_assoc, Nat.add_comm 1] using hL), ih (by simpa [Nat.add_assoc, Nat.add_comm 1] using hL), ext, List.find?_append]
    · rw [if_neg h]
      symm
      rw [List.find?_eq_none]
      intro A hA hs
      obtain ⟨r, h1, rfl⟩ := ext_mem.1 hA
      exact h (sat_hold (by simpa [h1] using hL) hs)
theorem complete_some {cs : List (List Int)} {k : Nat} {l x : List Bool} (hL : Lits (l.length + k) cs) (h : complete cs k l = some x) : x.length = l.length + k ∧ sat cs x = true ∧ x.take l.length = l := by
  rw [complete_eq hL] at h
  have h1 := List.mem_of_find?_eq_some h
  have h2 := List.find?_some h
  obtain ⟨r, h3, rfl⟩ := ext_mem.1 h1
  exact ⟨by simp [h3], h2, by simp⟩
/-- what can be completed -/
def okL (cs : List (List Int)) (V : Nat) (l : List Bool) : Bool := (complete cs (V - l.length) l).isSome
theorem okL_iff {cs : List (List Int)} {V : Nat} {l : List Bool} (hL : Lits V cs) (hl : l.length ≤ V) : okL cs V l = true ↔ ∃ A ∈ ext (V - l.length) l, sat cs A = true := by
  unfold okL
  rw [complete_eq (by rw [Nat.add_sub_cancel' hl]; exact hL)]
  simp
theorem okL_hold {cs : List (List Int)} {V : Nat} {l r : List Bool} (hL : Lits V cs) (hl : (l ++ r).length ≤ V) (h : okL cs V (l ++ r) = true) : hold cs l = true := by
  obtain ⟨A, hA, hs⟩ := (okL_iff hL hl).1 h
  obtain ⟨r2, h1, rfl⟩ := ext_mem.1 hA
  refine sat_hold (l := l) (r := r ++ r2) ?_ (by simpa using hs)
  have : (l ++ (r ++ r2)).length = V := by simp only [List.length_append] at h1 hl ⊢; omega
  rw [this]; exact hL
/-- the reference's list of assignments -/
def allR (cs : List (List Int)) (V most : Nat) : Nat → List Bool → List (List Bool) → List (List Bool)
  | 0, l, out => if most < out.length then out else if hold cs l then (if okL cs V l then out ++ [l] else out) else out
  | k + 1, l, out => if most < out.length then out else if hold cs l then allR cs V most k (l ++ [true]) (allR cs V most k (l ++ [false]) out) else out
theorem take_length_le {α : Type} {l : List α} {n : Nat} (h : l.length ≤ n) : l.take n = l := List.take_of_length_le h
theorem allR_eq {cs : List (List Int)} {V most : Nat} (hL : Lits V cs) {k : Nat} {l : List Bool} {out : List (List Bool)} (hl : l.length + k ≤ V) :
    allR cs V most k l out = if most < out.length then out else (out ++ (ext k l).filter (okL cs V)).take (most + 1) := by
  induction k generalizing l out with
  | zero =>
    unfold allR ext
    by_cases h : most < out.length
    · rw [if_pos h, if_pos h]
    · rw [if_neg h, if_neg h]
      by_cases hk : okL cs V l = true
      · have hh : hold cs l = true := okL_hold (r := []) hL (by simpa using hl) (by simpa using hk)
        rw [if_pos hh, if_pos hk, List.filter_cons_of_pos hk, List.filter_nil, take_length_le (by simp; omega)]
      · rw [if_neg hk, ite_self, List.filter_cons_of_neg hk, List.filter_nil, List.append_nil, take_length_le (by omega)]
  | succ k ih =>
    unfold allR
    by_cases h : most < out.length
    · rw [if_pos h, if_pos h]
    · rw [if_neg h, if_neg h]
      by_cases hh : hold cs l = true
      · rw [if_pos hh, ih (by simp; omega), ih (by simp; omega), if_neg h, ext, List.filter_append]
        split
        · rename_i h2
          rw [List.length_take, List.length_append] at h2
          rw [← List.append_assoc, List.take_append_of_le_length (l₁ := out ++ _) (by rw [List.length_append]; omega)]
        · rename_i h2
          rw [List.length_take, List.length_append] at h2
          rw [take_length_le (l := out ++ _) (by rw [List.length_append]; omega), List.append_assoc]
      · rw [if_neg hh]
        have : (ext (k + 1) l).filter (okL cs V) = [] := by
          rw [List.filter_eq_nil_iff]
          intro A hA hk
          obtain ⟨r, h1, rfl⟩ := ext_mem.1 hA
          exact hh (okL_hold hL (by simp; omega) hk)
        rw [this, List.append_nil, take_length_le (by omega)]
def numR (cs : List (List Int)) : Nat → List Bool → Nat
  | 0, l => if hold cs l then 1 else 0
  | k + 1, l => if hold cs l then numR cs k (l ++ [false]) + numR cs k (l ++ [true]) else 0
theorem numR_eq {cs : List (List Int)} {k : Nat} {l : List Bool} (hL : Lits (l.length + k) cs) : numR cs k l = (ext k l).countP (sat cs) := by
  induction k generalizing l with
  | zero =>
    unfold numR ext
    rw [hold_full hL, List.countP_cons, List.countP_nil]
    cases sat cs l <;> rfl
  | succ k ih =>
    unfold numR
    by_cases h : hold cs l = true
    · rw [if_pos h, ih (by simpa [Nat.add_assoc, Nat.add_comm 1] using hL), ih (by simpa [Nat.add_assoc, Nat.add_comm 1] using hL), ext, List.countP_append]
    · rw [if_neg h]
      symm
      rw [List.countP_eq_zero]
      intro A hA hs
      obtain ⟨r, h1, rfl⟩ := ext_mem.1 hA
      exact h (sat_hold (by simpa [h1] using hL) hs)
theorem ext_add (a b : Nat) (l : List Bool) : ext (a + b) l = (ext a l).flatMap (ext b) := by
  induction a generalizing l with
  | zero => simp [ext]
  | succ a ih => rw [Nat.add_right_comm, ext, ext, ih, ih, List.flatMap_append]
theorem ext_nodup (k : Nat) (l : List Bool) : (ext k l).Nodup := by
  induction k generalizing l with
  | zero => simp [ext]
  | succ k ih =>
    rw [ext, List.nodup_append]
    refine ⟨ih _, ih _, fun a ha b hb e => ?_⟩
    obtain ⟨r, _, rfl⟩ := ext_mem.1 ha
    obtain ⟨s, _, h⟩ := ext_mem.1 hb
    have h2 := congrArg (fun z : List Bool => z[l.length]?) (e.trans h)
    simp at h2
theorem ext_take {a b : Nat} {l A : List Bool} (h : A ∈ ext (a + b) l) : A.take (l.length + a) ∈ ext a l := by
  obtain ⟨r, h1, rfl⟩ := ext_mem.1 h
  exact ext_mem.2 ⟨r.take a, by simp; omega, by rw [List.take_append, List.take_of_length_le (by omega)]; simp⟩
/-! ### The list of all assignments of the first variables -/
def firsts (n : Nat) (S : List (List Bool)) : List (List Bool) := (S.map (List.take n)).eraseDups
theorem eraseDups_replicate {α : Type} [BEq α] [LawfulBEq α] (p : α) (k : Nat) (rest : List α) (h : p ∉ rest) : (List.replicate k p ++ rest).eraseDups = if 0 < k then p :: rest.eraseDups else rest.eraseDups := by
  cases k with
  | zero => simp
  | succ k =>
    rw [if_pos (Nat.succ_pos _), List.replicate_succ, List.cons_append, List.eraseDups_cons]
    congr 2
    rw [List.filter_append]
    have h1 : (List.replicate k p).filter (fun b => !b == p) = [] := by
      rw [List.filter_eq_nil_iff]
      intro a ha
      rw [(List.mem_replicate.1 ha).2]; simp
    rw [h1, List.nil_append, List.filter_eq_self]
    intro a ha
    simp
    rintro rfl
    exact h ha
theorem firsts_flat {n : Nat} {q : List Bool → Bool} {g : List Bool → List (List Bool)} {ok : List Bool → Bool} : ∀ {ps : List (List Bool)}, ps.Nodup → (∀ p ∈ ps, ∀ A ∈ g p, A.take n = p) → (∀ p ∈ ps, ok p = true ↔ ∃ A ∈ g p, q A = true) →
    firsts n ((ps.flatMap g).filter q) = ps.filter ok
  | [], _, _, _ => rfl
  | p :: ps, hn, ht, hok => by
    rw [List.nodup_cons] at hn
    have ih := firsts_flat (q := q) (g := g) (ok := ok) (n := n) hn.2 (fun p' hp => ht p' (by simp [hp])) (fun p' hp => hok p' (by simp [hp]))
    unfold firsts at ih ⊢
    rw [List.flatMap_cons, List.filter_append, List.map_append]
    have h1 : ((g p).filter q).map (List.take n) = List.replicate ((g p).filter q).length p := by
      rw [List.eq_replicate_iff]
      refine ⟨by simp, fun b hb => ?_⟩
      obtain ⟨A, hA, rfl⟩ := List.mem_map.1 hb
      exact ht p (by simp) A ((List.mem_filter.1 hA).1)
    have h2 : p ∉ ((ps.flatMap g).filter q).map (List.take n) := by
      intro h
      obtain ⟨A, hA, he⟩ := List.mem_map.1 h
      obtain ⟨p', hp', hA'⟩ := List.mem_flatMap.1 ((List.mem_filter.1 hA).1)
      rw [ht p' (by simp [hp']) A hA'] at he
      subst he
      exact hn.1 hp'
    rw [h1, eraseDups_replicate _ _ _ h2, ih, List.filter_cons]
    have h3 := hok p (by simp)
    by_cases h4 : ok p = true
    · rw [if_pos h4, if_pos]
      obtain ⟨A, hA, hq⟩ := h3.1 h4
      exact List.length_pos_of_mem (List.mem_filter.2 ⟨hA, hq⟩)
    · rw [if_neg h4, if_neg]
      intro h5
      obtain ⟨A, hA⟩ := List.exists_mem_of_length_pos h5
      exact h4 (h3.2 ⟨A, (List.mem_filter.1 hA).1, (List.mem_filter.1 hA).2⟩)
theorem firsts_eq {cs : List (List Int)} {V n : Nat} (hL : Lits V cs) (hn : n ≤ V) : firsts n ((ext V []).filter (sat cs)) = (ext n []).filter (okL cs V) := by
  have h := ext_add n (V - n) []
  rw [Nat.add_sub_cancel' hn] at h
  rw [h]
  refine firsts_flat (ext_nodup _ _) (fun p hp A hA => ?_) (fun p hp => ?_)
  · obtain ⟨r, h1, rfl⟩ := ext_mem.1 hA
    have := ext_length hp
    simp at this
    rw [← this]; simp
  · have := ext_length hp
    simp at this
    rw [okL_iff hL (by omega), this]
/-! ### The next assignment -/
/-- all lists behind one, in order -/
def aft : List Bool → List Bool → List (List Bool)
  | _, [] => []
  | l, b :: a => if b then aft (l ++ [true]) a else aft (l ++ [false]) a ++ ext a.length (l ++ [true])
def nx (cs : List (List Int)) (V : Nat) : List Bool → List Bool → Option (List Bool)
  | _, [] => none
  | l, b :: a => (nx cs V (l ++ [b]) a).or (if b then none else complete cs (V - (l.length + 1)) (l ++ [true]))
/-- as the loops go: from the last variable on -/
def nextR (cs : List (List Int)) (V : Nat) (after : List Bool) : Nat → Option (List Bool)
  | 0 => none
  | i + 1 => if after.getD i true then nextR cs V after i else (complete cs (V - (i + 1)) (after.take i ++ [true])).or (nextR cs V after i)
theorem nx_snoc (cs : List (List Int)) (V : Nat) (l a : List Bool) (b : Bool) : nx cs V l (a ++ [b]) = (if b then none else complete cs (V - (l.length + a.length + 1)) (l ++ a ++ [true])).or (nx cs V l a) := by
  induction a generalizing l with
  | nil => simp [nx]
  | cons c a ih =>
    rw [List.cons_append, nx, ih, nx, Option.or_assoc]
    simp [Nat.add_assoc, Nat.add_comm 1]
theorem nextR_nx (cs : List (List Int)) (V : Nat) (after : List Bool) : ∀ i, i ≤ after.length → nextR cs V after i = nx cs V [] (after.take i)
  | 0, _ => by simp [nextR, nx]
  | i + 1, h => by
    have hi : i < after.length := by omega
    rw [nextR, nextR_nx cs V after i (by omega), List.take_add_one, List.getElem?_eq_getElem hi]
    simp only [Option.toList_some]
    rw [nx_snoc]
    have hg : after.getD i true = after[i] := by simp [hi]
    rw [hg]
    cases after[i] with
    | true => simp
    | false => simp [Nat.min_eq_left (Nat.le_of_lt hi)]
theorem ext_aft (a : List Bool) : ∀ l, ∃ pre, ext a.length l = pre ++ (l ++ a) :: aft l a := by
  induction a with
  | nil => intro l; exact ⟨[], by simp [ext, aft]⟩
  | cons b a ih =>
    intro l
    rw [List.length_cons, ext, aft]
    cases b with
    | true =>
      obtain ⟨pre, h⟩ := ih (l ++ [true])
      exact ⟨ext a.length (l ++ [false]) ++ pre, by rw [h]; simp⟩
    | false =>
      obtain ⟨pre, h⟩ := ih (l ++ [false])
      exact ⟨pre, by rw [h]; simp⟩
theorem nx_eq {cs : List (List Int)} {V : Nat} (hL : Lits V cs) : ∀ (a l : List Bool), l.length + a.length ≤ V → nx cs V l a = ((aft l a).flatMap (ext (V - (l.length + a.length)))).find? (sat cs)
  | [], l, h => by simp [nx, aft]
  | b :: a, l, h => by
    rw [List.length_cons] at h
    rw [nx, nx_eq hL a (l ++ [b]) (by simp; omega), aft]
    have e1 : (l ++ [b]).length + a.length = l.length + (b :: a).length := by simp; omega
    rw [e1]
    cases b with
    | true => simp
    | false =>
      simp only [Bool.false_eq_true, if_false]
      rw [complete_eq (by simp; rw [Nat.add_sub_cancel' (by omega)]; exact hL), List.flatMap_append, List.find?_append]
      congr 2
      rw [← ext_add]
      congr 1
      simp; omega
theorem find_flat {α β : Type} (g : α → List β) (q : β → Bool) : ∀ l : List α, (l.flatMap g).find? q = l.findSome? fun e => (g e).find? q
  | [] => rfl
  | e :: l => by
    rw [List.flatMap_cons, List.find?_append, find_flat g q l, List.findSome?_cons]
    cases (g e).find? q <;> rfl
theorem nextR_order {cs : List (List Int)} {V n : Nat} (hL : Lits V cs) (hn : n ≤ V) {i : Nat} {a : List Bool} (ha : ((ext n []).filter (okL cs V))[i]? = some a) :
    ((ext n []).filter (okL cs V))[i + 1]? = (nextR cs V a n).map (List.take n) := by
  obtain ⟨L, hLe⟩ : ∃ L, (ext n []).filter (okL cs V) = L := ⟨_, rfl⟩
  rw [hLe] at ha ⊢
  have hm : a ∈ (ext n []).filter (okL cs V) := hLe ▸ List.mem_of_getElem? ha
  have hlen : a.length = n := by have := ext_length ((List.mem_filter.1 hm).1); simpa using this
  obtain ⟨pre, hpre⟩ := ext_aft a []
  rw [hlen, List.nil_append] at hpre
  have hLs : L = pre.filter (okL cs V) ++ a :: (aft [] a).filter (okL cs V) := by
    rw [← hLe, hpre, List.filter_append, List.filter_cons_of_pos (List.mem_filter.1 hm).2]
  have hnd : L.Nodup := hLe ▸ (ext_nodup n []).filter _
  have hi : i = (pre.filter (okL cs V)).length := by
    have h1 : L[(pre.filter (okL cs V)).length]? = some a := by rw [hLs]; simp
    obtain ⟨l1, e1⟩ := List.getElem?_eq_some_iff.1 ha
    obtain ⟨l2, e2⟩ := List.getElem?_eq_some_iff.1 h1
    exact (List.getElem_inj hnd).1 (e1.trans e2.symm)
  have h2 : L[i + 1]? = (aft [] a).find? (okL cs V) := by
    rw [hLs, hi, List.getElem?_append_right (by omega)]
    simp [← List.head?_filter, List.head?_eq_getElem?]
  have haf : ∀ e ∈ aft [] a, e.length = n := by
    intro e he
    have : e ∈ ext n [] := by rw [hpre]; simp [he]
    simpa using ext_length this
  rw [h2, nextR_nx _ _ _ _ (by omega), take_length_le (by omega), nx_eq hL a [] (by simp; omega), find_flat]
  simp only [List.length_nil, Nat.zero_add, hlen]
  generalize aft [] a = M at haf ⊢
  clear h2 hLs hpre
  induction M with
  | nil => rfl
  | cons e M ih =>
    have he := haf e (by simp)
    rw [List.find?_cons, List.findSome?_cons]
    have hk : okL cs V e = ((ext (V - n) e).find? (sat cs)).isSome := by
      unfold okL
      rw [complete_eq (by rw [Nat.add_sub_cancel' (by omega)]; exact hL), he]
    rw [hk]
    cases hf : (ext (V - n) e).find? (sat cs) with
    | none => simp only [Option.isSome_none]; exact ih (fun x hx => haf x (by simp [hx]))
    | some A =>
      obtain ⟨r, _, rfl⟩ := ext_mem.1 (List.mem_of_find?_eq_some hf)
      simp [← he]
end Go.Proofs.Sv
end
