/- Own texts of this claim, part 8: no condition. -/
import Derived.Test.YtppmnmheodimoaaRows
import Derived.Test.YtppmnmheodimoaaZM6
import Derived.Test.YtppmnmheodimoaaZM4
import Derived.Test.YtppmnmheodimoaaZM3
set_option linter.unusedVariables false
set_option linter.unusedSimpArgs false
section
/- Rows of ints that are gathered in a slice of their own. -/
namespace Go.Proofs.Ytppmnmheodimoaa
open Go Go.RowKit Go.Proofs.Rg Go.Proofs.Mp Go.Proofs.Hp Go.Proofs.Qs Go.Proofs.Ev
set_option linter.unusedVariables false
set_option linter.unusedSimpArgs false
/-- a slice whose length is at most its capacity -/
def CapOk : Value → Prop
  | .slice _ n c => n ≤ c
  | _ => True
theorem owns_fits {w : World} {base e size n : Nat} {v : Value} {xs : List Value} (h : w.ownsRow base e size v n xs) : CapOk v := by
  rcases h.2 with ⟨h2, h0⟩ | ⟨g, cap, cur, hv, _, _, hc, _⟩
  · rw [h2]; exact Nat.le_refl 0
  · rw [hv]; exact hc
/-- rows gathered so far -/
def ge (n : Nat) : Nat → Prop := fun g => n ≤ g
def Gath (w : World) (base : Nat) (P : Nat → Prop) (v : Value) (L : List (List Int)) : Prop :=
  ∃ vs, w.ownsRow base 71 1 v L.length vs ∧ ∀ (i : Nat) (r : List Int), L[i]? = some r → ∃ u, vs[i]? = some u ∧ IntsAt w u r ∧ CapOk u ∧ ∀ g, u.ownBlock = some g → g < w.heap.size ∧ P g ∧ v.ownBlock ≠ some g
theorem Gath.nil (w : World) (base : Nat) (P : Nat → Prop) : Gath w base P (.slice none 0 0) [] := ⟨[], World.ownsRow_nil _ _ _ _, fun i r h => by simp at h⟩
theorem Gath.fr {w w' : World} {base : Nat} {P : Nat → Prop} {v : Value} {L : List (List Int)} (h : Gath w base P v L) (hf : Fr [] w w') : Gath w' base P v L := by
  obtain ⟨vs, ho, hr⟩ := h
  refine ⟨vs, owns_of_block ho fun g hg => hf.block g (owns_lt ho hg) (by simp), fun i r hi => ?_⟩
  obtain ⟨u, hu, h1, hft, h2⟩ := hr i r hi
  exact ⟨u, hu, h1.fr hf, hft, fun g hg => ⟨by have := (h2 g hg).1; have := hf.size; omega, (h2 g hg).2⟩⟩
/-- the same over a frame that touches older blocks -/
theorem Gath.frG {w w' : World} {base : Nat} {P : Nat → Prop} {v : Value} {L : List (List Int)} (h : Gath w base P v L) {G : List Nat} (hf : Fr G w w') (hG : ∀ x ∈ G, x < base ∧ ¬ P x) : Gath w' base P v L := by
  obtain ⟨vs, ho, hr⟩ := h
  refine ⟨vs, owns_of_block ho fun g hg => hf.block g (owns_lt ho hg) (fun hx => by have := hG g hx; have := owns_ge ho hg; omega), fun i r hi => ?_⟩
  obtain ⟨u, hu, h1, hft, h2⟩ := hr i r hi
  exact ⟨u, hu, Reads.keep h1 fun x hx hlt => hf.block x hlt (fun hxg => (hG x hxg).2 (h2 x hx).2.1), hft, fun g hg => ⟨by have := (h2 g hg).1; have := hf.size; omega, (h2 g hg).2⟩⟩
theorem Gath.rows {w : World} {base : Nat} {P : Nat → Prop} {v : Value} {L : List (List Int)} (h : Gath w base P v L) : RowsAt w v L := by
  obtain ⟨vs, ho, hr⟩ := h
  exact RowsAt.of_owns ho fun i r hi => by obtain ⟨u, hu, h1, _⟩ := hr i r hi; exact ⟨u, hu, h1⟩
theorem Gath.form {w : World} {base : Nat} {P : Nat → Prop} {v : Value} {L : List (List Int)} (h : Gath w base P v L) : ∃ a c, v = .slice a L.length c := h.rows.form
theorem Gath.blk {w : World} {base : Nat} {P : Nat → Prop} {v : Value} {L : List (List Int)} (h : Gath w base P v L) {g : Nat} (hg : v.ownBlock = some g) : g < w.heap.size := by
  obtain ⟨vs, ho, _⟩ := h
  exact owns_lt ho hg
theorem Gath.low {w : World} {base base' : Nat} {P P' : Nat → Prop} {v : Value} {L : List (List Int)} (h : Gath w base P v L) (hb : base' ≤ base) (hl : ∀ g, P g → P' g) : Gath w base' P' v L := by
  obtain ⟨vs, ho, hr⟩ := h
  refine ⟨vs, owns_base ho hb, fun i r hi => ?_⟩
  obtain ⟨u, hu, h1, hft, h2⟩ := hr i r hi
  exact ⟨u, hu, h1, hft, fun g hg => ⟨(h2 g hg).1, hl g (h2 g hg).2.1, (h2 g hg).2.2⟩⟩
/-- rows that are read, each with its capacity -/
def RowsFit (w : World) (v : Value) (L : List (List Int)) : Prop := ∃ vs : List Value, Reads w v L.length 1 vs ∧ ∀ (i : Nat) (r : List Int), L[i]? = some r → ∃ u, vs[i]? = some u ∧ IntsAt w u r ∧ CapOk u
theorem Gath.fit {w : World} {base : Nat} {P : Nat → Prop} {v : Value} {L : List (List Int)} (h : Gath w base P v L) : RowsFit w v L := by
  obtain ⟨vs, ho, hr⟩ := h
  exact ⟨vs, Reads.of_owns ho, fun i r hi => by obtain ⟨u, hu, h1, h2, _⟩ := hr i r hi; exact ⟨u, hu, h1, h2⟩⟩
theorem RowsFit.fr {w w' : World} {v : Value} {L : List (List Int)} (h : RowsFit w v L) (hf : Fr [] w w') : RowsFit w' v L := by
  obtain ⟨vs, h1, h2⟩ := h
  refine ⟨vs, h1.fr hf, fun i r hi => ?_⟩
  obtain ⟨u, hu, hr, hft⟩ := h2 i r hi
  exact ⟨u, hu, hr.fr hf, hft⟩
theorem RowsFit.rows {w : World} {v : Value} {L : List (List Int)} (h : RowsFit w v L) : RowsAt w v L := by
  obtain ⟨vs, h1, h2⟩ := h
  exact ⟨vs, h1, fun i r hi => by obtain ⟨u, hu, h3, _⟩ := h2 i r hi; exact ⟨u, hu, h3⟩⟩
theorem row_fit {w : World} {a : Option Addr} {n c : Nat} {L : List (List Int)} (h : RowsFit w (.slice a n c) L) {i : Nat} {r : List Int} (hi : L[i]? = some r) (hr : 0 < r.length) :
    ∃ g off g2 off2 rc, a = some ⟨g, off, none⟩ ∧ g < w.heap.size ∧ w.cell? ⟨g, off + i, none⟩ = some (.slice (some ⟨g2, off2, none⟩) r.length rc) ∧ IntsAt w (.slice (some ⟨g2, off2, none⟩) r.length rc) r ∧ g2 < w.heap.size ∧ r.length ≤ rc := by
  obtain ⟨vs, ⟨hl, a', c', he, hp⟩, h2⟩ := h
  cases he
  obtain ⟨u, hu, hint, hft⟩ := h2 i r hi
  obtain ⟨ra, rc, rfl⟩ := hint.form
  have hlt := (List.getElem?_eq_some_iff.1 hi).1
  obtain ⟨g, off, rfl, hg, hc⟩ := hp (by omega)
  obtain ⟨x, hx⟩ : ∃ x, r[0]? = some x := ⟨_, List.getElem?_eq_getElem hr⟩
  obtain ⟨g2, off2, rfl, hg2, _⟩ := hint.cell hx
  exact ⟨g, off, g2, off2, rc, rfl, hg, hc i _ hu, hint, hg2, hft⟩
theorem row_one {w : World} {a : Option Addr} {n c : Nat} {L : List (List Int)} (h : RowsAt w (.slice a n c) L) {i : Nat} {r : List Int} (hi : L[i]? = some r) (hr : 0 < r.length) :
    ∃ g off g2 off2 rc, a = some ⟨g, off, none⟩ ∧ g < w.heap.size ∧ w.cell? ⟨g, off + i, none⟩ = some (.slice (some ⟨g2, off2, none⟩) r.length rc) ∧ IntsAt w (.slice (some ⟨g2, off2, none⟩) r.length rc) r ∧ g2 < w.heap.size := by
  obtain ⟨g, off, ra, rc, rfl, hg, hc, hint⟩ := h.row hi
  obtain ⟨x, hx⟩ : ∃ x, r[0]? = some x := ⟨_, List.getElem?_eq_getElem hr⟩
  obtain ⟨g2, off2, rfl, hg2, _⟩ := hint.cell hx
  exact ⟨g, off, g2, off2, rc, rfl, hg, hc, hint, hg2⟩
/-- a row is appended -/
theorem append_row {ops : Array Oper} {rest : List Oper} {o : Oper} {a : Act} {W : World} {Q : Exit → Act → World → Prop} (hgd : o.guard = none) {s x : Operand}
    (ho : o.op = .call { callee := .builtin .append, args := #[s, x], argTypes := #[54, 54] }) {base : Nat} {P : Nat → Prop} {v u : Value} {L : List (List Int)} {r : List Int} {nb c : Nat} (hs : a.eval s = v) (hx : a.eval x = .slice (some ⟨nb, 0, none⟩) 1 c)
    (hg : Gath W base P v L) (hnb : W.heap[nb]? = some (.cells #[u] 71 (0, 0))) (hu : IntsAt W u r) (huf : CapOk u) (hub : ∀ g, u.ownBlock = some g → g < W.heap.size ∧ P g ∧ v.ownBlock ≠ some g) (hlen : L.length ≤ 1000000) (hbase : base ≤ W.heap.size)
    (h : ∀ v' w', Gath w' base P v' (L ++ [r]) → Fr v.ownBlock.toList W w' → (v'.ownBlock = v.ownBlock ∨ v'.ownBlock = some W.heap.size) → wpList Try.prog ops Q rest (a.put o.dst v') w') : wpList Try.prog ops Q (o :: rest) a W := by
  obtain ⟨vs, hown, hr⟩ := hg
  have hbig : L.length + 1 ≤ maxLen := by
    have : (1000001 : Nat) ≤ maxLen := by decide
    omega
  refine append_new hgd ho (base := base) (size := 1) (bytes := 24) (z := .slice none 0 0) (e := 71) Try.underlying54 (by kernel_rfl) rfl (by decide) hs hown hx hnb rfl (by obtain ⟨_, _, rfl, _⟩ := hu.2; intro y hy; simp at hy; subst hy; rfl) hbig (by omega) hbase ?_
  intro g cap w' h1 h2 h3 h4 h5
  have hsz := h3.size
  refine h _ _ ⟨vs ++ [u], by simpa using h1, fun i r' hi => ?_⟩ h3 (by rcases h4 with h4 | h4; exact .inl h4.symm; exact .inr (by rw [h4]; rfl))
  have hvs : vs.length = L.length := by have := hown.1; omega
  have hkeep : ∀ (y : Value) (q : List Int), IntsAt W y q → (∀ g, y.ownBlock = some g → g < W.heap.size ∧ P g ∧ v.ownBlock ≠ some g) → IntsAt w' y q ∧ ∀ k, y.ownBlock = some k → k < w'.heap.size ∧ P k ∧ (Value.slice (some ⟨g, 0, none⟩) (L.length + 1) cap).ownBlock ≠ some k := by
    intro y q hy hyb
    refine ⟨Reads.keep hy fun x hx hlt => h3.block x hlt ?_, fun k hk => ?_⟩
    · have := (hyb x hx).2.2
      cases hv : v.ownBlock with
      | none => simp
      | some b => rw [hv] at this; simp; intro e; exact this (by rw [e])
    · obtain ⟨h6, h8, h7⟩ := hyb k hk
      refine ⟨by omega, h8, fun e => ?_⟩
      have e : g = k := by simpa [Value.ownBlock] using e
      rcases h4 with h4 | h4
      · exact h7 (by rw [h4, e])
      · omega
  by_cases hlt : i < L.length
  · rw [List.getElem?_append_left hlt] at hi
    obtain ⟨y, hy, hyr, hft, hyb⟩ := hr i r' hi
    obtain ⟨h6, h7⟩ := hkeep y r' hyr hyb
    exact ⟨y, by rw [List.getElem?_append_left (by omega)]; exact hy, h6, hft, h7⟩
  · have hi' := (List.getElem?_eq_some_iff.1 hi).1
    have : i = L.length := by simp at hi'; omega
    subst this
    rw [List.getElem?_append_right (Nat.le_refl _)] at hi
    simp at hi
    subst hi
    obtain ⟨h6, h7⟩ := hkeep u r hu hub
    exact ⟨u, by rw [← hvs]; simp, h6, huf, h7⟩
/-- an int is appended to a row of its own -/
theorem append_int {ops : Array Oper} {rest : List Oper} {o : Oper} {a : Act} {W : World} {Q : Exit → Act → World → Prop} (hgd : o.guard = none) {s x : Operand}
    (ho : o.op = .call { callee := .builtin .append, args := #[s, x], argTypes := #[71, 71] }) {base n : Nat} {v : Value} {l : List Int} {y : Int} {nb c : Nat} (hs : a.eval s = v) (hx : a.eval x = .slice (some ⟨nb, 0, none⟩) 1 c)
    (hown : W.ownsRow base 3 1 v n (iv l)) (hnb : W.heap[nb]? = some (.cells #[.int .i64 y] 3 (0, 0))) (hlen : n ≤ 1000000) (hbase : base ≤ W.heap.size)
    (h : ∀ v' w', w'.ownsRow base 3 1 v' (n + 1) (iv (l ++ [y])) → Fr v.ownBlock.toList W w' → (v'.ownBlock = v.ownBlock ∨ v'.ownBlock = some W.heap.size) → wpList Try.prog ops Q rest (a.put o.dst v') w') : wpList Try.prog ops Q (o :: rest) a W := by
  have hbig : n + 1 ≤ maxLen := by
    have : (1000001 : Nat) ≤ maxLen := by decide
    omega
  refine append_new hgd ho (base := base) (size := 1) (bytes := 8) (z := .int .i64 0) (e := 3) Try.underlying71 (by kernel_rfl) rfl (by decide) hs hown hx hnb rfl (by intro z hz; simp at hz; subst hz; rfl) hbig (by omega) hbase ?_
  intro g cap w' h1 h2 h3 h4 h5
  exact h _ _ (by simpa [iv] using h1) h3 (by rcases h4 with h4 | h4; exact .inl h4.symm; exact .inr (by rw [h4]; rfl))
/-- a row of ints of its own -/
theorem ints_of_owns {w : World} {base : Nat} {v : Value} {l : List Int} (h : w.ownsRow base 3 1 v l.length (iv l)) : IntsAt w v l := Reads.of_owns h
end Go.Proofs.Ytppmnmheodimoaa
end

section
/- What a step needs, part by part; grandkids of a number. Nothing of a program. -/
namespace Go.Proofs.Ev
open Go.Proofs.Qs
set_option linter.unusedVariables false
set_option linter.unusedSimpArgs false
section
variable {g : Fld → Fld} {lost n k : Nat} {t : Tr}
theorem mem_i9 {y x : Nat} (hy : y < 3) (hx : x < 3) : (y, x) ∈ i9 := by
  unfold i9
  have : y = 0 ∨ y = 1 ∨ y = 2 := by omega
  have : x = 0 ∨ x = 1 ∨ x = 2 := by omega
  rcases ‹y = 0 ∨ _› with rfl | rfl | rfl <;> rcases ‹x = 0 ∨ _› with rfl | rfl | rfl <;> simp
theorem mem_i4 {y x : Nat} (hy : y < 2) (hx : x < 2) : (y, x) ∈ i4 := by
  unfold i4
  have : y = 0 ∨ y = 1 := by omega
  have : x = 0 ∨ x = 1 := by omega
  rcases ‹y = 0 ∨ _› with rfl | rfl <;> rcases ‹x = 0 ∨ _› with rfl | rfl <;> simp
theorem need_part (h : lost < n + 1) {y x : Nat} (hy : y < 3) (hx : x < 3) : part9 t y x ∈ need g lost (n + 1) k t := by
  rw [need, if_neg (by omega)]
  simp only [List.mem_append, List.mem_flatMap]
  exact .inl (.inl ⟨(y, x), mem_i9 hy hx, by simp⟩)
theorem need_two (h : lost < n + 1) (hk : k = n + 1 - lost) {y x : Nat} (hy : y < 3) (hx : x < 3) {u : Tr} (hu : u ∈ need g lost n (k - 1) (part9 t y x)) : u ∈ need g lost (n + 1) k t := by
  rw [need, if_neg (by omega)]
  simp only [List.mem_append, List.mem_flatMap]
  exact .inl (.inl ⟨(y, x), mem_i9 hy hx, by rw [if_pos hk]; simp [hu]⟩)
theorem need_ctr (h : lost < n + 1) (hk : k ≠ n + 1 - lost) {y x : Nat} (hy : y < 3) (hx : x < 3) : ctr (part9 t y x) ∈ need g lost (n + 1) k t := by
  rw [need, if_neg (by omega)]
  simp only [List.mem_append, List.mem_flatMap]
  exact .inl (.inl ⟨(y, x), mem_i9 hy hx, by rw [if_neg hk]; simp⟩)
theorem need_out (h : lost < n + 1) {y x : Nat} (hy : y < 2) (hx : x < 2) : out4 g (n + 1) k (decide (k = n + 1 - lost)) t y x ∈ need g lost (n + 1) k t := by
  rw [need, if_neg (by omega)]
  simp only [List.mem_append, List.mem_flatMap]
  exact .inl (.inr ⟨(y, x), mem_i4 hy hx, by simp⟩)
theorem need_res (h : lost < n + 1) {y x : Nat} (hy : y < 2) (hx : x < 2) {u : Tr} (hu : u ∈ need g lost n (if k = n + 1 - lost then k - 1 else k) (out4 g (n + 1) k (decide (k = n + 1 - lost)) t y x)) : u ∈ need g lost (n + 1) k t := by
  rw [need, if_neg (by omega)]
  simp only [List.mem_append, List.mem_flatMap]
  exact .inl (.inr ⟨(y, x), mem_i4 hy hx, by simp [hu]⟩)
theorem need_last (h : lost < n + 1) : stp g (n + 1) k t ∈ need g lost (n + 1) k t := by
  rw [need, if_neg (by omega)]
  simp
theorem need_small (h : n + 1 ≤ lost) : need g lost (n + 1) k t = subs (stp g (n + 1) k t) := by rw [need, if_pos h]
end
end Go.Proofs.Ev
namespace Go.Proofs.Qs
open Go.Proofs.Ev
set_option linter.unusedVariables false
def K4.get (k : K4) : Nat → Int
  | 0 => k.a
  | 1 => k.b
  | 2 => k.c
  | _ => k.d
/-- the node of a number -/
def nodeOf (s : Int) (ns : List K4) (id : Int) : K4 := ns.getD (id - s).toNat ⟨0, 0, 0, 0⟩
theorem Is.node {s : Int} {ns : List K4} (hg : GoodQ s ns) {n : Nat} {id : Int} {t : Tr} (h : Is s ns (n + 1) id t) :
    s ≤ id ∧ ns[(id - s).toNat]? = some (nodeOf s ns id) ∧ ∀ q, q < 4 → Is s ns n ((nodeOf s ns id).get q) (Tr.q t q) := by
  obtain ⟨i, k, rfl, hk, ha, hb, hc, hd, _⟩ := h.kids hg
  have e : (s + (i : Int) - s).toNat = i := by omega
  have e2 : nodeOf s ns (s + (i : Int)) = k := by unfold nodeOf; rw [e, List.getD_eq_getElem?_getD, hk]; rfl
  rw [e, e2]
  refine ⟨by omega, hk, fun q hq => ?_⟩
  match q, hq with
  | 0, _ => exact ha
  | 1, _ => exact hb
  | 2, _ => exact hc
  | 3, _ => exact hd
theorem tr_node4 {n : Nat} {t : Tr} (h : Full (n + 1) t) : t = .node (Tr.q t 0) (Tr.q t 1) (Tr.q t 2) (Tr.q t 3) := by
  match t, h with
  | .node a b c d, _ => rfl
/-- the number of a grandkid, by row and column -/
def gid (s : Int) (ns : List K4) (id : Int) (y x : Nat) : Int := (nodeOf s ns ((nodeOf s ns id).get (2 * (y / 2) + x / 2))).get (2 * (y % 2) + x % 2)
theorem Is.gid {s : Int} {ns : List K4} (hg : GoodQ s ns) {n : Nat} {id : Int} {t : Tr} (h : Is s ns (n + 2) id t) {y x : Nat} (hy : y < 4) (hx : x < 4) : Is s ns n (gid s ns id y x) (g16 t y x) :=
  (((h.node hg).2.2 _ (by omega)).node hg).2.2 _ (by omega)
/-- joining a table's four numbers -/
theorem join_four {s : Int} {ns : List K4} (hg : GoodQ s ns) {L : List Tr} (hr : room s ns L) {n : Nat} (hn : n < 256) {f : Nat → Nat → Tr} {y x : Nat} {a b c d : Int} (ha : Is s ns n a (f y x)) (hb : Is s ns n b (f y (x + 1))) (hc : Is s ns n c (f (y + 1) x)) (hd : Is s ns n d (f (y + 1) (x + 1)))
    (hL : four4 f y x ∈ L) : ∃ id ms, join s ns ⟨a, b, c, d⟩ = ((id, 0), ms) ∧ GoodQ s ms ∧ ns <+: ms ∧ room s ms L ∧ Is s ms (n + 1) id (four4 f y x) := join_room hg hr hn ha hb hc hd hL
end Go.Proofs.Qs
end

section
/- Arrays of integers as keys, and their comparing. No condition on a program. -/
namespace Go.Proofs.Mp
open Go
set_option linter.unusedVariables false
set_option linter.unusedSimpArgs false
section
variable {P : Program} {T E : TypeId} {q : IntKind} {n : Nat}
/-- the cells of a list of integers -/
def ints (q : IntKind) (xs : List Int) : Array Value := (xs.map (Value.int q)).toArray
theorem run_underlying' {t : TypeId} {d : TypeDesc} (h : P.underlying t = some d) (w : World) : (Go.underlying t).run P w = .ok d w := by unfold Go.underlying; simp [h]
theorem run_sizeOf' {t : TypeId} {s : Nat} (h : (P.info? t).map (·.size) = some s) (w : World) : (Go.sizeOf t).run P w = .ok s w := by
  unfold Go.sizeOf Go.typeInfo
  cases hi : P.info? t with
  | none => rw [hi] at h; cases h
  | some i => rw [hi] at h; simp at h; simp [hi, h]
theorem run_part_int (hE : P.underlying E = some (.int q)) {cs : Array Value} {off : Nat} {v : Value} (hv : cs[off]? = some v) (w : World) : (Go.part E cs off).run P w = .ok v w := by
  unfold Go.part Go.isAgg
  rw [Sem.run_bind, Sem.run_bind, run_underlying' hE]
  simp [hv]
theorem ints_get {xs : List Int} {i : Nat} (h : i < xs.length) : (ints q xs)[i]? = some (.int q (xs[i])) := by simp [ints, h]
theorem run_equal_int (hE : P.underlying E = some (.int q)) (d : Nat) (x y : Int) (w : World) : (Op.equalIn (d + 1) E (.int q x) (.int q y)).run P w = .ok (x == y) w := by
  unfold Op.equalIn
  rw [Sem.run_bind, run_underlying' hE]
  simp
theorem eq_loop (hE : P.underlying E = some (.int q)) (hs : (P.info? E).map (·.size) = some 1) (d : Nat) (xs ys : List Int) (hl : xs.length = ys.length) : ∀ (m i : Nat) (w : World), i + m = xs.length →
    (forIn (List.range' i m) ((none : Option Bool), ()) (fun i s => do
      let a ← Go.part E (ints q xs) (i * 1)
      let b ← Go.part E (ints q ys) (i * 1)
      let r ← Op.equalIn (d + 1) E a b
      if (!r) = true then pure (ForInStep.done (some false, ())) else pure (ForInStep.yield (none, ())) : Nat → Option Bool × Unit → Sem (ForInStep (Option Bool × Unit)))).run P w =
      .ok (if xs.drop i = ys.drop i then none else some false, ()) w
  | 0, i, w, h => by
    rw [List.drop_of_length_le (by omega), List.drop_of_length_le (by omega)]
    rfl
  | m + 1, i, w, h => by
    rw [List.range'_succ, List.forIn_cons, Sem.run_bind, Sem.run_bind, run_part_int hE (by rw [Nat.mul_one]; exact ints_get (by omega))]
    simp only [Result.andThen_ok]
    rw [Sem.run_bind, run_part_int hE (by rw [Nat.mul_one]; exact ints_get (by omega))]
    simp only [Result.andThen_ok]
    rw [Sem.run_bind, run_equal_int hE]
    simp only [Result.andThen_ok]
    have ex : xs.drop i = xs[i] :: xs.drop (i + 1) := List.drop_eq_getElem_cons (by omega)
    have ey : ys.drop i = ys[i] :: ys.drop (i + 1) := List.drop_eq_getElem_cons (by omega)
    rw [ex, ey]
    by_cases hxy : xs[i] = ys[i]
    · simp only [hxy, beq_self_eq_true, Bool.not_true, Bool.false_eq_true, if_false, Sem.run_pure, Result.andThen_ok, List.cons.injEq, true_and]
      exact eq_loop hE hs d xs ys hl m (i + 1) w (by omega)
    · have hb : (xs[i] == ys[i]) = false := by simpa using hxy
      have hn : ¬ (xs[i] :: xs.drop (i + 1) = ys[i] :: ys.drop (i + 1)) := fun e => hxy (List.cons.inj e).1
      rw [if_neg hn]
      simp [hb]
theorem run_equalIn_ints (hT : P.underlying T = some (.array n E)) (hE : P.underlying E = some (.int q)) (hs : (P.info? E).map (·.size) = some 1) (d : Nat) (xs ys : List Int) (hx : xs.length = n) (hy : ys.length = n) (w : World) :
    (Op.equalIn (d + 2) T (.agg (ints q xs)) (.agg (ints q ys))).run P w = .ok (decide (xs = ys)) w := by
  show Sem.run P (Op.equalIn ((d + 1) + 1) _ _ _) w = _
  unfold Op.equalIn
  rw [Sem.run_bind, run_underlying' hT]
  simp only [Result.andThen_ok]
  rw [Sem.run_bind, run_sizeOf' hs]
  simp only [Result.andThen_ok]
  rw [Sem.run_bind, Std.Legacy.Range.forIn_eq_forIn_range']
  have hl : List.range' [:n].start [:n].size [:n].step = List.range' 0 n := by simp [Std.Legacy.Range.size]
  rw [hl]
  have := eq_loop hE hs d xs ys (by omega) n 0 w (by omega)
  rw [this]
  simp only [List.drop_zero, Result.andThen_ok]
  by_cases h : xs = ys <;> simp [h]
theorem check_loop (hE : P.underlying E = some (.int q)) (hs : (P.info? E).map (·.size) = some 1) (d : Nat) (e : Bool) (xs : List Int) : ∀ (m i : Nat) (w : World), i + m = xs.length →
    (forIn (List.range' i m) () (fun i s => do
      let n ← Go.sizeOf E
      let a ← Go.part E (ints q xs) (i * n)
      Instr.checkKey e (d + 1) E a
      pure (ForInStep.yield ()) : Nat → Unit → Sem (ForInStep Unit))).run P w = .ok () w
  | 0, i, w, h => rfl
  | m + 1, i, w, h => by
    have hc : ∀ x : Int, (Instr.checkKey e (d + 1) E (.int q x)).run P w = .ok () w := by
      intro x
      unfold Instr.checkKey
      rw [Sem.run_bind, run_underlying' hE]
      simp
    rw [List.range'_succ, List.forIn_cons, Sem.run_bind, Sem.run_bind, run_sizeOf' hs]
    simp only [Result.andThen_ok]
    rw [Sem.run_bind, run_part_int hE (by rw [Nat.mul_one]; exact ints_get (by omega))]
    simp only [Result.andThen_ok]
    rw [Sem.run_bind, hc]
    simp only [Result.andThen_ok, Sem.run_pure]
    exact check_loop hE hs d e xs m (i + 1) w (by omega)
theorem run_checkKey_ints (hT : P.underlying T = some (.array n E)) (hE : P.underlying E = some (.int q)) (hs : (P.info? E).map (·.size) = some 1) (d : Nat) (e : Bool) (xs : List Int) (hx : xs.length = n) (w : World) :
    (Instr.checkKey e (d + 2) T (.agg (ints q xs))).run P w = .ok () w := by
  show Sem.run P (Instr.checkKey e ((d + 1) + 1) _ _) w = _
  unfold Instr.checkKey
  rw [Sem.run_bind, run_underlying' hT]
  simp only [Result.andThen_ok]
  rw [Std.Legacy.Range.forIn_eq_forIn_range']
  have hl : List.range' [:n].start [:n].size [:n].step = List.range' 0 n := by simp [Std.Legacy.Range.size]
  rw [hl]
  rw [Sem.run_bind, check_loop hE hs d e xs n 0 w (by omega)]
  rfl
theorem sameBits_int (d : Nat) (x : Int) : Instr.sameBits d (.int q x) (.int q x) = true := by cases d <;> simp [Instr.sameBits]
theorem zip_same : ∀ (l : List Value), (∀ v ∈ l, ∀ d, Instr.sameBits d v v = true) → ∀ d, (l.zip l).all (fun p => Instr.sameBits d p.1 p.2) = true
  | [], _, _ => rfl
  | v :: l, h, d => by
    simp only [List.zip_cons_cons, List.all_cons, Bool.and_eq_true]
    exact ⟨h v (by simp) d, zip_same l (fun u hu => h u (by simp [hu])) d⟩
theorem sameBits_ints (d : Nat) (xs : List Int) : Instr.sameBits (d + 1) (.agg (ints q xs)) (.agg (ints q xs)) = true := by
  unfold Instr.sameBits
  simp only [beq_self_eq_true, Bool.true_and, ints]
  exact zip_same _ (fun v hv d => by obtain ⟨x, _, rfl⟩ := List.mem_map.1 hv; exact sameBits_int d x) d
/-- keys that are arrays of n integers, spelled by a function to lists -/
theorem KeysBy.ints {κ : Type} [DecidableEq κ] (f : κ → List Int) (hf : ∀ a b, f a = f b → a = b) (hn : ∀ a, (f a).length = n) (hT : P.underlying T = some (.array n E)) (hE : P.underlying E = some (.int q)) (hs : (P.info? E).map (·.size) = some 1) :
    KeysBy P T (fun k => Value.agg (Mp.ints q (f k))) := by
  refine KeysBy.deep hT (fun k v => rfl) (fun a b w => ?_) (fun e k w => run_checkKey_ints hT hE hs 9998 e (f k) (hn k) w) fun k => sameBits_ints 9999 (f k)
  have := run_equalIn_ints hT hE hs 9998 (f a) (f b) (hn a) (hn b) w
  show (Op.equalIn 10000 T _ _).run P w = _
  rw [this]
  congr 1
  by_cases h : a = b
  · simp [h]
  · have : ¬ f a = f b := fun e => h (hf a b e)
    simp [h, this]
end
end Go.Proofs.Mp
end

section
/- Keys that are arrays of four ints. -/
namespace Go.Proofs.Ytppmnmheodimoaa
set_option linter.unusedVariables false
set_option linter.unusedSimpArgs false
open Go Go.RowKit Go.Proofs.Mp Go.Proofs.Hp Go.Proofs.Qs
def kl (k : K4) : List Int := [k.a, k.b, k.c, k.d]
def kv (k : K4) : Value := .agg #[.int .i64 k.a, .int .i64 k.b, .int .i64 k.c, .int .i64 k.d]
theorem size_int : (Try.prog.info? 3).map (·.size) = some 1 := by kernel_rfl
theorem keys4 : KeysBy Try.prog 75 kv :=
  KeysBy.ints (q := .i64) kl (fun a b h => by cases a; cases b; simpa [kl] using h) (fun _ => rfl) Try.underlying75 Try.underlying3 size_int
theorem equal_k4 (a b : K4) (w : World) : (Op.equal 75 (kv a) (kv b)).run Try.prog w = .ok (decide (a = b)) w := by
  refine (run_equalIn_ints (q := .i64) Try.underlying75 Try.underlying3 size_int 9998 (kl a) (kl b) rfl rfl w).trans ?_
  congr 1
  cases a; cases b; simp [kl]

section
variable (w : World) (a b c d : Value)
theorem index4_0 : (Instr.index 75 (.agg #[a, b, c, d]) (.int .i64 0)).run Try.prog w = .ok a w := by kernel_rfl
theorem index4_1 : (Instr.index 75 (.agg #[a, b, c, d]) (.int .i64 1)).run Try.prog w = .ok b w := by kernel_rfl
theorem index4_2 : (Instr.index 75 (.agg #[a, b, c, d]) (.int .i64 2)).run Try.prog w = .ok c w := by kernel_rfl
theorem index4_3 : (Instr.index 75 (.agg #[a, b, c, d]) (.int .i64 3)).run Try.prog w = .ok d w := by kernel_rfl
end
theorem eq4 (w : World) (a b c d x y z u : Int) : (Op.equalIn 10000 75 (.agg #[.int .i64 a, .int .i64 b, .int .i64 c, .int .i64 d]) (.agg #[.int .i64 x, .int .i64 y, .int .i64 z, .int .i64 u])).run Try.prog w =
    .ok (a == x && (b == y && (c == z && d == u))) w := by
  refine (run_equalIn_ints (q := .i64) Try.underlying75 Try.underlying3 size_int 9998 [a, b, c, d] [x, y, z, u] rfl rfl w).trans ?_
  congr 1
  rw [Bool.eq_iff_iff]; simp
theorem eq4s (w : World) (a b c d x y z u : Int) : (Op.equalIn 9999 75 (.agg #[.int .i64 a, .int .i64 b, .int .i64 c, .int .i64 d]) (.agg #[.int .i64 x, .int .i64 y, .int .i64 z, .int .i64 u])).run Try.prog w =
    .ok (a == x && (b == y && (c == z && d == u))) w := by
  refine (run_equalIn_ints (q := .i64) Try.underlying75 Try.underlying3 size_int 9997 [a, b, c, d] [x, y, z, u] rfl rfl w).trans ?_
  congr 1
  rw [Bool.eq_iff_iff]; simp
attribute [go_sem] eq4 eq4s index4_0 index4_1 index4_2 index4_3
end Go.Proofs.Ytppmnmheodimoaa
end
