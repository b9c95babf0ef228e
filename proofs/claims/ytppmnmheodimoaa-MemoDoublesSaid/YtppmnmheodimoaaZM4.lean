/- Own texts of this claim, part 5: no condition. -/
import Derived.Maps.AppendAt
import Derived.Laws.AppendOwnNone
import Derived.Test.YtppmnmheodimoaaZM3
set_option linter.unusedVariables false
set_option linter.unusedSimpArgs false
section
/- Rows that a call owns: a store into one, a new one; more on the heap. No condition on a program. -/
namespace Go.Proofs.Hp
open Go Go.RowKit
set_option linter.unusedVariables false
set_option linter.unusedSimpArgs false
/-- a store into an owned row -/
theorem owns_set {w : World} {base e size n : Nat} {v : Value} {xs : List Value} {g cap j : Nat} (h : w.ownsRow base e size v n xs) (hv : v = .slice (some ⟨g, 0, none⟩) n cap) (hj : j < xs.length) (u : Value) : (w.setCell ⟨g, j, none⟩ u).ownsRow base e size v n (xs.set j u) := by
  obtain ⟨h1, h2⟩ := h
  refine ⟨by rw [List.length_set]; exact h1, ?_⟩
  rcases h2 with ⟨h2, _⟩ | ⟨g', cap', cur, hv', hb, hh, hn, hm, hs, ht⟩
  · rw [h2] at hv; cases hv
  · rw [hv'] at hv
    cases hv
    refine .inr ⟨g, cap, cur.setIfInBounds j u, hv', hb, heap_setCell_here hh j u, hn, hm, by simpa using hs, ?_⟩
    rw [Array.toList_setIfInBounds, List.take_set, ht]
theorem owns_frozen {w : World} {base e size n : Nat} {v : Value} {xs : List Value} {g cap : Nat} (h : w.ownsRow base e size v n xs) (hv : v = .slice (some ⟨g, 0, none⟩) n cap) (j : Nat) : w.frozen? ⟨g, j, none⟩ = false := by
  rcases h.2 with ⟨h2, _⟩ | ⟨g', cap', cur, hv', _, hh, _⟩
  · rw [h2] at hv; cases hv
  · rw [hv'] at hv
    cases hv
    exact heap_eq_frozen hh j
/-- a row made by make or by a literal: a block that holds just its elements -/
theorem owns_mk {w : World} {base e size n : Nat} {xs : List Value} {g cap : Nat} {cur : Array Value} (hg : w.heap[g]? = some (.cells cur e (0, 0))) (hb : base ≤ g) (hn : n ≤ cap) (hm : cap ≤ maxLen) (hs : cur.size = cap * size) (ht : cur.toList.take (n * size) = xs) : w.ownsRow base e size (.slice (some ⟨g, 0, none⟩) n cap) n xs := by
  refine ⟨?_, .inr ⟨g, cap, cur, rfl, hb, hg, hn, hm, hs, ht⟩⟩
  rw [← ht, List.length_take, Array.length_toList, hs]
  exact Nat.min_eq_left (Nat.mul_le_mul_right _ hn)
/-- behind an append to a row that is new since w -/
theorem fr_append {w wr w9 : World} {e size n : Nat} {v : Value} {xs : List Value} (hf : Fr [] w wr) (ho : wr.ownsRow w.heap.size e size v n xs) {o : Obj} (h : Fr v.ownBlock.toList (wr.alloc o) w9) : Fr [] w w9 :=
  (hf.alloc o).trans h fun x hx => .inr (owns_ge ho (by simpa using hx))
theorem heap_new (w : World) (o : Obj) (h : w.heap.size < (w.alloc o).heap.size) : (w.alloc o).heap[w.heap.size] = o := (Array.getElem?_eq_some_iff.1 ((hp_alloc w o _).trans (if_pos rfl))).2
theorem setCell_else (w : World) (a : Addr) (u : Value) {k : Nat} (h : k ≠ a.block) : (w.setCell a u).heap[k]? = w.heap[k]? := Below.heap_setCell _ _ _ _ h
end Go.Proofs.Hp
end

section
/- Slices that are read. No condition on a program. -/
namespace Go.Proofs.Hp
set_option linter.unusedVariables false
set_option linter.unusedSimpArgs false
open Go Go.RowKit
def Reads (w : World) (v : Value) (n size : Nat) (xs : List Value) : Prop :=
  xs.length = n * size ∧ ∃ a c, v = .slice a n c ∧ (0 < n → ∃ g off, a = some ⟨g, off, none⟩ ∧ g < w.heap.size ∧ ∀ j u, xs[j]? = some u → w.cell? ⟨g, off + j, none⟩ = some u)
theorem Reads.keep {w w' : World} {v : Value} {n size : Nat} {xs : List Value} (h : Reads w v n size xs) (hk : ∀ x, v.ownBlock = some x → x < w.heap.size → w'.heap[x]? = w.heap[x]?) : Reads w' v n size xs := by
  obtain ⟨h1, a, c, rfl, h2⟩ := h
  refine ⟨h1, a, c, rfl, fun hn => ?_⟩
  obtain ⟨g, off, rfl, hg, hc⟩ := h2 hn
  have hb := hk g rfl hg
  refine ⟨g, off, rfl, ?_, fun j u hj => ?_⟩
  · have : w.heap[g]? = some w.heap[g] := Array.getElem?_eq_getElem hg
    exact lt_of_block (hb.trans this)
  · rw [World.cell?_of_block (w := w) (a := ⟨g, off + j, none⟩) hb]; exact hc j u hj
theorem Reads.fr {w w' : World} {v : Value} {n size : Nat} {xs : List Value} (h : Reads w v n size xs) (hf : Fr [] w w') : Reads w' v n size xs := h.keep fun x _ hx => hf.block x hx (by simp)
theorem Reads.of_owns {w : World} {base e n size : Nat} {v : Value} {xs : List Value} (h : w.ownsRow base e size v n xs) : Reads w v n size xs := by
  refine ⟨h.1, ?_⟩
  obtain ⟨a, c, rfl, ha, _⟩ := owns_form h
  refine ⟨a, c, rfl, fun hn => ?_⟩
  obtain ⟨g, rfl⟩ := ha hn
  exact ⟨g, 0, rfl, owns_lt h rfl, fun j u hj => by rw [Nat.zero_add]; exact owns_cell h rfl hj⟩
theorem reads_blk {w : World} {b n size c : Nat} {cs : List Value} {t : TypeId} {fr : Nat × Nat} (h : w.heap[b]? = some (.cells cs.toArray t fr)) (hl : cs.length = n * size) : Reads w (.slice (some ⟨b, 0, none⟩) n c) n size cs :=
  ⟨hl, _, _, rfl, fun _ => ⟨b, 0, rfl, lt_of_block h, fun j u hj => by rw [Nat.zero_add, heap_eq_cell h]; simpa using hj⟩⟩
end Go.Proofs.Hp
end

section
/- Appending a slice that is read; slices of slices that are read. No condition on a program. -/
namespace Go.Proofs.Hp
open Go Go.RowKit
set_option linter.unusedVariables false
set_option linter.unusedSimpArgs false
theorem addr_add (g off j : Nat) : (⟨g, off, none⟩ : Addr).add j = ⟨g, off + j, none⟩ := by
  unfold Addr.add
  split
  · rename_i h0; rw [h0]; rfl
  · rfl
/-- append of a slice that is read onto a row that is owned -/
theorem append_reads {P : Program} {ops : Array Oper} {rest : List Oper} {o : Oper} {a : Act} {W : World} {Q : Exit → Act → World → Prop} (hgd : o.guard = none) {s x : Operand} {t : TypeId}
    (ho : o.op = .call { callee := .builtin .append, args := #[s, x], argTypes := #[t, t] }) {base e : Nat} {z : Value} {size bytes : Nat} (ht : P.underlying t = some (.slice e)) (hinfo : (P.info? e).map (fun i => (i.zero, i.size, i.bytes)) = some (some z, size, bytes))
    (hzs : z.cells.size = size) (hsz : 0 < size) {v : Value} {n : Nat} {xs : List Value} (hs : a.eval s = v) (hown : W.ownsRow base e size v n xs) {ad : Option Addr} {m c : Nat} {news : List Value} (hx : a.eval x = .slice ad m c)
    (hr : Reads W (.slice ad m c) m size news) (hz : ad = none → c = 0) (h1 : ∀ u ∈ news, u.oneCell' = true) (h63 : n + m ≤ maxLen) (hbytes : (n + m) * bytes ≤ 140737488355328) (hbase : base ≤ W.heap.size)
    (h : ∀ v' w', w'.ownsRow base e size v' (n + m) (xs ++ news) → Fr v.ownBlock.toList W w' → (v'.ownBlock = v.ownBlock ∨ v'.ownBlock = some W.heap.size) → wpList P ops Q rest (a.put o.dst v') w') : wpList P ops Q (o :: rest) a W := by
  obtain ⟨i0, hi0, hi1, hi2, hi3⟩ := info_parts hinfo
  have hfr : ∀ w', W.grownBy w' v.ownBlock → Fr v.ownBlock.toList W w' := fun w' h2 => (Fr.refl _ _).grown h2 fun k hk => .inl (by simp [hk])
  cases ad with
  | none =>
    have hc0 : c = 0 := hz rfl
    subst hc0
    obtain ⟨hl, a', c', he, hp⟩ := hr
    cases he
    have h0 : m = 0 := by
      rcases Nat.eq_zero_or_pos m with h | h
      · exact h
      · obtain ⟨g, off, hh, _⟩ := hp h; cases hh
    subst h0
    obtain rfl : news = [] := List.eq_nil_of_length_eq_zero (by rw [hl, Nat.zero_mul])
    refine wpList_append_own_none hgd s x _ ho base _ i0 size ht hi0 v n xs hs hown hx ?_
    exact h v W (by simpa using hown) (Fr.refl _ _) (.inl rfl)
  | some ad =>
    obtain ⟨hl, a', c', he, hp⟩ := hr
    cases he
    rcases Nat.eq_zero_or_pos m with h0 | h0
    · subst h0
      obtain rfl : news = [] := List.eq_nil_of_length_eq_zero (by rw [hl, Nat.zero_mul])
      exact wpList_append_own_at _ hgd s x _ ho base _ i0 z size bytes ht hi0 hi1 hi2 hi3 hzs hsz v n xs hs hown ad _ c _ hx (by simp) (by simp) h1 h63 hbytes hbase fun v' w' h1 h2 _ h4 => h v' w' h1 (hfr w' h2) h4
    · obtain ⟨g, off, hh, _, hc⟩ := hp h0
      cases hh
      refine wpList_append_own_at _ hgd s x _ ho base _ i0 z size bytes ht hi0 hi1 hi2 hi3 hzs hsz v n xs hs hown ⟨g, off, none⟩ _ c _ hx hl (fun j u hj => ?_) h1 h63 hbytes hbase fun v' w' h1 h2 _ h4 => h v' w' h1 (hfr w' h2) h4
      rw [addr_add]; exact hc j u hj
/-! ### Ints, and rows of ints -/
def iv (l : List Int) : List Value := l.map fun n => Value.int .i64 n
theorem iv_length (l : List Int) : (iv l).length = l.length := by simp [iv]
theorem iv_one (l : List Int) : ∀ u ∈ iv l, u.oneCell' = true := by
  intro u hu
  obtain ⟨n, _, rfl⟩ := List.mem_map.1 hu
  rfl
theorem iv_append (l m : List Int) : iv l ++ iv m = iv (l ++ m) := by simp [iv]
theorem iv_get {l : List Int} {i : Nat} {x : Int} (h : l[i]? = some x) : (iv l)[i]? = some (.int .i64 x) := by rw [iv, List.getElem?_map, h]; rfl
theorem iv_set (l : List Int) (i : Nat) (x : Int) : (iv l).set i (.int .i64 x) = iv (l.set i x) := by unfold iv; rw [List.map_set]
theorem iv_replicate (n : Nat) : List.replicate n (Value.int .i64 0) = iv (List.replicate n 0) := by simp [iv]
/-- a slice of ints that is read -/
def IntsAt (w : World) (v : Value) (l : List Int) : Prop := Reads w v l.length 1 (iv l)
theorem IntsAt.fr {w w' : World} {v : Value} {l : List Int} (h : IntsAt w v l) (hf : Fr [] w w') : IntsAt w' v l := Reads.fr h hf
theorem IntsAt.form {w : World} {v : Value} {l : List Int} (h : IntsAt w v l) : ∃ a c, v = .slice a l.length c := by
  obtain ⟨_, a, c, h, _⟩ := h
  exact ⟨a, c, h⟩
/-- a slice of slices of ints that is read -/
def RowsAt (w : World) (v : Value) (L : List (List Int)) : Prop := ∃ vs : List Value, Reads w v L.length 1 vs ∧ ∀ (i : Nat) (r : List Int), L[i]? = some r → ∃ u, vs[i]? = some u ∧ IntsAt w u r
theorem RowsAt.fr {w w' : World} {v : Value} {L : List (List Int)} (h : RowsAt w v L) (hf : Fr [] w w') : RowsAt w' v L := by
  obtain ⟨vs, h1, h2⟩ := h
  refine ⟨vs, h1.fr hf, fun i r hi => ?_⟩
  obtain ⟨u, hu, hr⟩ := h2 i r hi
  exact ⟨u, hu, hr.fr hf⟩
theorem RowsAt.form {w : World} {v : Value} {L : List (List Int)} (h : RowsAt w v L) : ∃ a c, v = .slice a L.length c := by
  obtain ⟨_, ⟨_, a, c, h, _⟩, _⟩ := h
  exact ⟨a, c, h⟩
/-- one row: its slice lies in a cell -/
theorem RowsAt.row {w : World} {a : Option Addr} {n c : Nat} {L : List (List Int)} (h : RowsAt w (.slice a n c) L) {i : Nat} {r : List Int} (hi : L[i]? = some r) :
    ∃ g off ra rc, a = some ⟨g, off, none⟩ ∧ g < w.heap.size ∧ w.cell? ⟨g, off + i, none⟩ = some (.slice ra r.length rc) ∧ IntsAt w (.slice ra r.length rc) r := by
  obtain ⟨vs, ⟨hl, a', c', he, hp⟩, h2⟩ := h
  cases he
  obtain ⟨u, hu, hr⟩ := h2 i r hi
  obtain ⟨ra, rc, rfl⟩ := hr.form
  have hlt := (List.getElem?_eq_some_iff.1 hi).1
  obtain ⟨g, off, rfl, hg, hc⟩ := hp (by omega)
  exact ⟨g, off, ra, rc, rfl, hg, hc i _ hu, hr⟩
theorem IntsAt.cell {w : World} {a : Option Addr} {n c : Nat} {l : List Int} (h : IntsAt w (.slice a n c) l) {i : Nat} {x : Int} (hi : l[i]? = some x) :
    ∃ g off, a = some ⟨g, off, none⟩ ∧ g < w.heap.size ∧ w.cell? ⟨g, off + i, none⟩ = some (.int .i64 x) := by
  obtain ⟨hl, a', c', he, hp⟩ := h
  cases he
  have hlt := (List.getElem?_eq_some_iff.1 hi).1
  obtain ⟨g, off, rfl, hg, hc⟩ := hp (by omega)
  exact ⟨g, off, rfl, hg, hc i _ (iv_get hi)⟩
/-- a part of a slice of ints -/
theorem IntsAt.part {w : World} {a : Option Addr} {g off n c c' : Nat} {l : List Int} (h : IntsAt w (.slice (some ⟨g, off, none⟩) n c) l) {i m : Nat} (hm : i + m ≤ l.length) : IntsAt w (.slice (some ⟨g, off + i, none⟩) m c') ((l.drop i).take m) := by
  obtain ⟨hl, a', c'', he, hp⟩ := h
  cases he
  have hlen : ((l.drop i).take m).length = m := by simp; omega
  refine ⟨by simp [iv], _, _, by rw [hlen], fun h0 => ?_⟩
  rw [hlen] at h0
  obtain ⟨g', off', he, hg, hc⟩ := hp (by omega)
  cases he
  refine ⟨g, off + i, rfl, hg, fun j u hj => ?_⟩
  have hj' : (iv l)[i + j]? = some u := by
    unfold iv at hj ⊢
    rw [List.getElem?_map, List.getElem?_take] at hj
    split at hj
    · rw [List.getElem?_drop] at hj; rw [List.getElem?_map]; exact hj
    · simp at hj
  have := hc (i + j) u hj'
  rwa [← Nat.add_assoc] at this
/-- a slice of slices that was made: the outer row is owned, each row is read -/
theorem RowsAt.of_owns {w : World} {base e : Nat} {v : Value} {vs : List Value} {L : List (List Int)} (h : w.ownsRow base e 1 v L.length vs) (hr : ∀ (i : Nat) (r : List Int), L[i]? = some r → ∃ u, vs[i]? = some u ∧ IntsAt w u r) : RowsAt w v L := ⟨vs, Reads.of_owns h, hr⟩
end Go.Proofs.Hp
end

section
/- The quadtree store as lists: levels, joining, empty nodes. Nothing of a program. -/
namespace Go.Proofs.Qs
set_option linter.unusedVariables false
set_option linter.unusedSimpArgs false
structure K4 where
  a : Int
  b : Int
  c : Int
  d : Int
  deriving DecidableEq
/-- the level of a number: s single cells, then the nodes with the levels ls; -1 if it is not known -/
def lvl (s : Int) (ls : List Int) (id : Int) : Int := if id < 0 then -1 else if id < s then 0 else ls.getD (id - s).toNat (-1)
/-- the levels of nodes -/
def levs (s : Int) (ns : List K4) : List Int := ns.foldl (fun ls k => ls ++ [lvl s ls k.a + 1]) []
theorem levs_snoc (s : Int) (ns : List K4) (k : K4) : levs s (ns ++ [k]) = levs s ns ++ [lvl s (levs s ns) k.a + 1] := by simp [levs]
theorem levs_length (s : Int) (ns : List K4) : (levs s ns).length = ns.length := by
  rcases List.eq_nil_or_concat ns with rfl | ⟨l, x, rfl⟩
  · rfl
  · rw [List.concat_eq_append, levs_snoc]
    simp [levs_length s l]
termination_by ns.length
decreasing_by simp_all
theorem levs_take (s : Int) (ns : List K4) : ∀ i, (levs s ns).take i = levs s (ns.take i) := by
  intro i
  rcases List.eq_nil_or_concat ns with rfl | ⟨l, x, rfl⟩
  · simp [levs]
  · rw [List.concat_eq_append, levs_snoc]
    rcases Nat.lt_or_ge l.length i with h | h
    · rw [List.take_of_length_le (by simp [levs_length]; omega), List.take_of_length_le (by simp; omega), levs_snoc]
    · rw [List.take_append_of_le_length (by simp [levs_length]; omega), List.take_append_of_le_length h, levs_take s l i]
termination_by ns.length
decreasing_by simp_all

/-- may a node be added? its quadrants are of one level below 256 -/
def Fits (s : Int) (ns : List K4) (k : K4) : Prop :=
  0 ≤ lvl s (levs s ns) k.a ∧ lvl s (levs s ns) k.a < 256 ∧ lvl s (levs s ns) k.b = lvl s (levs s ns) k.a ∧ lvl s (levs s ns) k.c = lvl s (levs s ns) k.a ∧ lvl s (levs s ns) k.d = lvl s (levs s ns) k.a
instance (s : Int) (ns : List K4) (k : K4) : Decidable (Fits s ns k) := by unfold Fits; exact inferInstance
/-- a content whose nodes fit one after the other, none twice -/
def GoodQ (s : Int) (ns : List K4) : Prop := 2 ≤ s ∧ s ≤ 8 ∧ ns.length ≤ 100000 ∧ ns.Nodup ∧ ∀ i k, ns[i]? = some k → Fits s (ns.take i) k
theorem GoodQ.nil {s : Int} (h : 2 ≤ s) (h' : s ≤ 8) : GoodQ s [] := ⟨h, h', by simp, by simp, by simp⟩
theorem GoodQ.snoc {s : Int} {ns : List K4} {k : K4} (h : GoodQ s ns) (hk : Fits s ns k) (hn : k ∉ ns) (hl : ns.length < 100000) : GoodQ s (ns ++ [k]) := by
  obtain ⟨h1, h2, h3, h4, h5⟩ := h
  refine ⟨h1, h2, by simp; omega, ?_, ?_⟩
  · rw [List.nodup_append]
    refine ⟨h4, by simp, ?_⟩
    intro x hx y hy e
    simp at hy
    subst hy; subst e; exact hn hx
  · intro i x hx
    rcases Nat.lt_or_ge i ns.length with hi | hi
    · rw [List.getElem?_append_left hi] at hx
      rw [List.take_append_of_le_length (by omega)]
      exact h5 i x hx
    · have hi' : i = ns.length := by
        have := (List.getElem?_eq_some_iff.1 hx).1
        simp at this; omega
      subst hi'
      simp at hx
      subst hx
      simpa using hk
/-- joining four numbers that fit -/
def joinIn (s : Int) (ns : List K4) (k : K4) : (Int × Int) × List K4 :=
  match ns.idxOf? k with
    | some i => ((s + i, 0), ns)
    | none => if 100000 ≤ ns.length then ((0, 6), ns) else ((s + ns.length, 0), ns ++ [k])
/-- joining four numbers: the result, the error's number, the nodes -/
def join (s : Int) (ns : List K4) (k : K4) : (Int × Int) × List K4 :=
  if lvl s (levs s ns) k.a < 0 ∨ lvl s (levs s ns) k.b < 0 ∨ lvl s (levs s ns) k.c < 0 ∨ lvl s (levs s ns) k.d < 0 then ((0, 13), ns)
  else if ¬ Fits s ns k then ((0, 18), ns)
  else joinIn s ns k
theorem join_good {s : Int} {ns : List K4} (h : GoodQ s ns) (k : K4) : GoodQ s (join s ns k).2 := by
  unfold join
  split
  · exact h
  · split
    · exact h
    · rename_i hf
      unfold joinIn
      split
      · exact h
      · rename_i hi
        split
        · exact h
        · exact h.snoc (Decidable.not_not.1 hf) (by simpa using hi) (by omega)
theorem joinIn_hit {s : Int} {ns : List K4} {k : K4} {i : Nat} (h : ns.idxOf? k = some i) : joinIn s ns k = ((s + i, 0), ns) := by unfold joinIn; rw [h]
theorem joinIn_full {s : Int} {ns : List K4} {k : K4} (h : ns.idxOf? k = none) (hl : 100000 ≤ ns.length) : joinIn s ns k = ((0, 6), ns) := by unfold joinIn; rw [h]; simp only [if_pos hl]
theorem joinIn_new {s : Int} {ns : List K4} {k : K4} (h : ns.idxOf? k = none) (hl : ns.length < 100000) : joinIn s ns k = ((s + ns.length, 0), ns ++ [k]) := by unfold joinIn; rw [h]; simp only [if_neg (by omega : ¬ 100000 ≤ ns.length)]
/-- the pairs of a store's map -/
def pairs (s : Int) (ns : List K4) : List (K4 × Int) := ns.zipIdx.map fun p => (p.1, s + p.2)
theorem pairs_keys (s : Int) (ns : List K4) : (pairs s ns).map (·.1) = ns := by
  simp [pairs, List.map_map, Function.comp_def]
theorem pairs_snoc (s : Int) (ns : List K4) (k : K4) : pairs s (ns ++ [k]) = pairs s ns ++ [(k, s + ns.length)] := by
  simp [pairs, List.zipIdx_append]
theorem pairs_get (s : Int) (ns : List K4) (i : Nat) : (pairs s ns)[i]? = (ns[i]?).map fun k => (k, s + i) := by
  simp [pairs, List.getElem?_zipIdx]
  cases ns[i]? <;> simp
end Go.Proofs.Qs
end

section
/- Contents of quadtree stores: kids, levels, trees. Nothing of a program. -/
namespace Go.Proofs.Qs
set_option linter.unusedVariables false
set_option linter.unusedSimpArgs false
theorem lvl_kn {s : Int} {ls : List Int} {id : Int} (_ : 0 ≤ s) (h : 0 ≤ lvl s ls id) : 0 ≤ id ∧ id < s + ls.length := by
  unfold lvl at h
  by_cases h1 : id < 0
  · rw [if_pos h1] at h; omega
  · rw [if_neg h1] at h
    by_cases h2 : id < s
    · omega
    · rw [if_neg h2] at h
      by_cases h3 : id < s + ls.length
      · omega
      · rw [List.getD_eq_getElem?_getD, List.getElem?_eq_none (by omega)] at h
        simp at h
theorem lvl_tk {s : Int} {ns : List K4} {i : Nat} {id : Int} (h : id < s + i) : lvl s (levs s (ns.take i)) id = lvl s (levs s ns) id := by
  unfold lvl
  by_cases h1 : id < 0
  · rw [if_pos h1, if_pos h1]
  · rw [if_neg h1, if_neg h1]
    by_cases h2 : id < s
    · rw [if_pos h2, if_pos h2]
    · rw [if_neg h2, if_neg h2, ← levs_take, List.getD_eq_getElem?_getD, List.getD_eq_getElem?_getD, List.getElem?_take, if_pos (by omega)]
/-- the kids of a node of a good content are known, below it, of one level, which is one less -/
theorem good_kids {s : Int} {ns : List K4} (h : GoodQ s ns) {i : Nat} {k : K4} (hk : ns[i]? = some k) :
    (0 ≤ k.a ∧ k.a < s + i) ∧ (0 ≤ k.b ∧ k.b < s + i) ∧ (0 ≤ k.c ∧ k.c < s + i) ∧ (0 ≤ k.d ∧ k.d < s + i) := by
  have hs : 0 ≤ s := by have := h.1; omega
  have hi := (List.getElem?_eq_some_iff.1 hk).1
  obtain ⟨h0, h1, h2, h3, h4⟩ := h.2.2.2.2 i k hk
  have hl : (levs s (ns.take i)).length = i := by rw [levs_length, List.length_take]; omega
  have ka := lvl_kn hs h0
  have kb := lvl_kn hs (by rw [h2]; exact h0)
  have kc := lvl_kn hs (by rw [h3]; exact h0)
  have kd := lvl_kn hs (by rw [h4]; exact h0)
  rw [hl] at ka kb kc kd
  exact ⟨ka, kb, kc, kd⟩
theorem good_lvl {s : Int} {ns : List K4} (h : GoodQ s ns) {i : Nat} {k : K4} (hk : ns[i]? = some k) :
    lvl s (levs s ns) (s + i) = lvl s (levs s ns) k.a + 1 ∧ 0 ≤ lvl s (levs s ns) k.a ∧ lvl s (levs s ns) k.a < 256 ∧ lvl s (levs s ns) k.b = lvl s (levs s ns) k.a ∧ lvl s (levs s ns) k.c = lvl s (levs s ns) k.a ∧ lvl s (levs s ns) k.d = lvl s (levs s ns) k.a := by
  have hs := h.1
  have hi := (List.getElem?_eq_some_iff.1 hk).1
  obtain ⟨⟨_, ka⟩, ⟨_, kb⟩, ⟨_, kc⟩, ⟨_, kd⟩⟩ := good_kids h hk
  obtain ⟨h0, h1, h2, h3, h4⟩ := h.2.2.2.2 i k hk
  rw [lvl_tk ka] at h0 h1 h2 h3 h4
  rw [lvl_tk kb] at h2
  rw [lvl_tk kc] at h3
  rw [lvl_tk kd] at h4
  refine ⟨?_, h0, h1, h2, h3, h4⟩
  have e : (levs s ns)[i]? = some (lvl s (levs s (ns.take i)) k.a + 1) := by
    have h5 : levs s (ns.take (i + 1)) = levs s (ns.take i) ++ [lvl s (levs s (ns.take i)) k.a + 1] := by
      rw [List.take_add_one, hk]; exact levs_snoc s _ k
    have h6 := congrArg (fun l : List Int => l[i]?) h5
    rw [← levs_take, List.getElem?_take, if_pos (by omega), List.getElem?_append_right (by rw [levs_length, List.length_take]; omega), levs_length, List.length_take, Nat.min_eq_left (by omega), Nat.sub_self] at h6
    exact h6
  rw [lvl_tk ka] at e
  show (if s + (i : Int) < 0 then -1 else if s + (i : Int) < s then 0 else (levs s ns).getD (s + (i : Int) - s).toNat (-1)) = _
  rw [if_neg (by omega), if_neg (by omega), show (s + (i : Int) - s).toNat = i by omega, List.getD_eq_getElem?_getD, e]; rfl
/-! ### The cells of a node, as a tree -/
inductive Tr where
  | leaf (n : Int)
  | node (a b c d : Tr)
  deriving DecidableEq
def tget (s : Int) (l : List Tr) (id : Int) : Tr := if id < s then .leaf id else l.getD (id - s).toNat (.leaf 0)
def trs (s : Int) (ns : List K4) : List Tr := ns.foldl (fun l k => l ++ [.node (tget s l k.a) (tget s l k.b) (tget s l k.c) (tget s l k.d)]) []
theorem trs_snoc (s : Int) (ns : List K4) (k : K4) : trs s (ns ++ [k]) = trs s ns ++ [.node (tget s (trs s ns) k.a) (tget s (trs s ns) k.b) (tget s (trs s ns) k.c) (tget s (trs s ns) k.d)] := by simp [trs]
theorem trs_length (s : Int) (ns : List K4) : (trs s ns).length = ns.length := by
  rcases List.eq_nil_or_concat ns with rfl | ⟨l, x, rfl⟩
  · rfl
  · rw [List.concat_eq_append, trs_snoc]
    simp [trs_length s l]
termination_by ns.length
decreasing_by simp_all
theorem trs_take (s : Int) (ns : List K4) : ∀ i, (trs s ns).take i = trs s (ns.take i) := by
  intro i
  rcases List.eq_nil_or_concat ns with rfl | ⟨l, x, rfl⟩
  · simp [trs]
  · rw [List.concat_eq_append, trs_snoc]
    rcases Nat.lt_or_ge l.length i with h | h
    · rw [List.take_of_length_le (by simp [trs_length]; omega), List.take_of_length_le (by simp; omega), trs_snoc]
    · rw [List.take_append_of_le_length (by simp [trs_length]; omega), List.take_append_of_le_length h, trs_take s l i]
termination_by ns.length
decreasing_by simp_all
/-- the tree of a number -/
def tr (s : Int) (ns : List K4) (id : Int) : Tr := tget s (trs s ns) id
theorem tr_tk {s : Int} {ns : List K4} {i : Nat} {id : Int} (h : id < s + i) : tr s (ns.take i) id = tr s ns id := by
  unfold tr tget
  by_cases h2 : id < s
  · rw [if_pos h2, if_pos h2]
  · rw [if_neg h2, if_neg h2, ← trs_take, List.getD_eq_getElem?_getD, List.getD_eq_getElem?_getD, List.getElem?_take, if_pos (by omega)]
theorem tr_app {s : Int} {ns ms : List K4} {id : Int} (h : id < s + ns.length) : tr s (ns ++ ms) id = tr s ns id := by
  have := tr_tk (s := s) (ns := ns ++ ms) (i := ns.length) h
  rw [List.take_left'] at this
  · exact this.symm
  · rfl
theorem tr_leaf {s : Int} {ns : List K4} {id : Int} (h : id < s) : tr s ns id = .leaf id := by unfold tr tget; rw [if_pos h]
theorem tr_node {s : Int} {ns : List K4} (h : GoodQ s ns) {i : Nat} {k : K4} (hk : ns[i]? = some k) : tr s ns (s + i) = .node (tr s ns k.a) (tr s ns k.b) (tr s ns k.c) (tr s ns k.d) := by
  have hi := (List.getElem?_eq_some_iff.1 hk).1
  obtain ⟨⟨_, ka⟩, ⟨_, kb⟩, ⟨_, kc⟩, ⟨_, kd⟩⟩ := good_kids h hk
  have e : (trs s ns)[i]? = some (.node (tr s (ns.take i) k.a) (tr s (ns.take i) k.b) (tr s (ns.take i) k.c) (tr s (ns.take i) k.d)) := by
    have h5 : trs s (ns.take (i + 1)) = trs s (ns.take i) ++ [.node (tr s (ns.take i) k.a) (tr s (ns.take i) k.b) (tr s (ns.take i) k.c) (tr s (ns.take i) k.d)] := by
      rw [List.take_add_one, hk]; exact trs_snoc s _ k
    have h6 := congrArg (fun l : List Tr => l[i]?) h5
    rw [← trs_take, List.getElem?_take, if_pos (by omega), List.getElem?_append_right (by rw [trs_length, List.length_take]; omega), trs_length, List.length_take, Nat.min_eq_left (by omega), Nat.sub_self] at h6
    exact h6
  rw [tr_tk ka, tr_tk kb, tr_tk kc, tr_tk kd] at e
  show (if s + (i : Int) < s then Tr.leaf _ else (trs s ns).getD (s + (i : Int) - s).toNat _) = _
  rw [if_neg (by omega), show (s + (i : Int) - s).toNat = i by omega, List.getD_eq_getElem?_getD, e]; rfl
/-- is a number known? -/
def Kn (s : Int) (ns : List K4) (id : Int) : Prop := 0 ≤ id ∧ id < s + ns.length
instance (s : Int) (ns : List K4) (id : Int) : Decidable (Kn s ns id) := by unfold Kn; exact inferInstance
theorem Kn.cases {s : Int} {ns : List K4} {id : Int} (h : Kn s ns id) : (0 ≤ id ∧ id < s) ∨ ∃ i k, id = s + (i : Nat) ∧ ns[i]? = some k := by
  by_cases h1 : id < s
  · exact .inl ⟨h.1, h1⟩
  · right
    have := h.2
    exact ⟨(id - s).toNat, ns[(id - s).toNat]'(by omega), by omega, List.getElem?_eq_getElem _⟩
/-- equal trees in one content are one number -/
theorem tr_inj {s : Int} {ns : List K4} (h : GoodQ s ns) : ∀ (n : Nat) {x y : Int}, x < s + n → Kn s ns x → Kn s ns y → tr s ns x = tr s ns y → x = y
  | 0, x, y, hx, kx, ky, he => by
    rw [tr_leaf (by omega)] at he
    rcases ky.cases with ⟨_, hy⟩ | ⟨j, k, rfl, hk⟩
    · rw [tr_leaf hy] at he; cases he; rfl
    · rw [tr_node h hk] at he; cases he
  | n + 1, x, y, hx, kx, ky, he => by
    rcases kx.cases with ⟨_, hxs⟩ | ⟨i, k, rfl, hk⟩
    · exact tr_inj h n (by omega) kx ky he
    · rcases ky.cases with ⟨_, hy⟩ | ⟨j, l, rfl, hl⟩
      · rw [tr_leaf hy, tr_node h hk] at he; cases he
      · rw [tr_node h hk, tr_node h hl] at he
        injection he with e1 e2 e3 e4
        obtain ⟨a1, b1, c1, d1⟩ := good_kids h hk
        obtain ⟨a2, b2, c2, d2⟩ := good_kids h hl
        have hi := (List.getElem?_eq_some_iff.1 hk).1
        have hj := (List.getElem?_eq_some_iff.1 hl).1
        have f1 := tr_inj h n (by omega) ⟨a1.1, by omega⟩ ⟨a2.1, by omega⟩ e1
        have f2 := tr_inj h n (by omega) ⟨b1.1, by omega⟩ ⟨b2.1, by omega⟩ e2
        have f3 := tr_inj h n (by omega) ⟨c1.1, by omega⟩ ⟨c2.1, by omega⟩ e3
        have f4 := tr_inj h n (by omega) ⟨d1.1, by omega⟩ ⟨d2.1, by omega⟩ e4
        have hkl : k = l := by
          cases k; cases l
          simp only at f1 f2 f3 f4
          rw [f1, f2, f3, f4]
        subst hkl
        have := (List.getElem?_inj hi h.2.2.2.1).1 (hk.trans hl.symm)
        omega
/-- equal trees: the numbers' levels are equal -/
def Tr.ht : Tr → Nat
  | .leaf _ => 0
  | .node a _ _ _ => a.ht + 1
theorem lvl_ht {s : Int} {ns : List K4} (h : GoodQ s ns) : ∀ (n : Nat) {x : Int}, x < s + n → Kn s ns x → lvl s (levs s ns) x = (tr s ns x).ht
  | 0, x, hx, kx => by
    rw [tr_leaf (by omega)]
    unfold lvl
    rw [if_neg (by have := kx.1; omega), if_pos (by omega)]; rfl
  | n + 1, x, hx, kx => by
    rcases kx.cases with ⟨h0, hxs⟩ | ⟨i, k, rfl, hk⟩
    · rw [tr_leaf hxs]
      unfold lvl
      rw [if_neg (by omega), if_pos hxs]; rfl
    · obtain ⟨a1, _⟩ := good_kids h hk
      have hi := (List.getElem?_eq_some_iff.1 hk).1
      rw [tr_node h hk, (good_lvl h hk).1, lvl_ht h n (by omega) ⟨a1.1, by omega⟩]
      show _ = (((tr s ns k.a).ht + 1 : Nat) : Int)
      omega
theorem lvl_of_tr {s t : Int} {ns ms : List K4} (h : GoodQ s ns) (h' : GoodQ t ms) {x y : Int} (kx : Kn s ns x) (ky : Kn t ms y) (he : tr s ns x = tr t ms y) : lvl s (levs s ns) x = lvl t (levs t ms) y := by
  rw [lvl_ht h ns.length (by have := kx.2; omega) kx, lvl_ht h' ms.length (by have := ky.2; omega) ky, he]
theorem kn_lvl {s : Int} {ns : List K4} (h : GoodQ s ns) (id : Int) : 0 ≤ lvl s (levs s ns) id ↔ Kn s ns id := by
  constructor
  · intro hl
    have := lvl_kn (by have := h.1; omega) hl
    rwa [levs_length] at this
  · intro hk
    rw [lvl_ht h ns.length (by have := hk.2; omega) hk]; omega
end Go.Proofs.Qs
end
