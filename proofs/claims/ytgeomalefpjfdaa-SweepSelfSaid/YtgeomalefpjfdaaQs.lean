/- The quadtree store as lists: levels, joining, empty nodes. Nothing of a program. -/
namespace Go.Proofs.Qs
structure K4 where
  a : Int
  b : Int
  c : Int
  d : Int
  deriving DecidableEq
/-- the level of a number: s single cells, then the nodes with the levels ls; -1 if it is not known -/
def lvl (s : Int) (ls : List Int) (id : Int) : Int := if id < 0 then -1 else if id < s then 0 else ls.getD (id - s).toNat (-1)
/-- the levels of nodes -/
def levs (s : Int) (ns : List K4) : List Int := ns.foldl (fun ls k => ls ++ [lvl s ls k.a + 1]) []
theorem levs_snoc (s : Int) (ns : List K4) (k : K4) : levs s (ns ++ [k]) = levs s ns ++ [lvl s (levs s ns) k.a + 1] := by simp [levs]
theorem levs_length (s : Int) (ns : List K4) : (levs s ns).length = ns.length := by
  rcases List.eq_nil_or_concat ns with rfl | ⟨l, x, rfl⟩
  · rfl
  · rw [List.concat_eq_append, levs_snoc]
    simp [levs_length s l]
termination_by ns.length
decreasing_by simp_all
theorem levs_take (s : Int) (ns : List K4) : ∀ i, (levs s ns).take i = levs s (ns.take i) := by
  intro i
  rcases List.eq_nil_or_concat ns with rfl | ⟨l, x, rfl⟩
  · simp [levs]
  · rw [List.concat_eq_append, levs_snoc]
    rcases Nat.lt_or_ge l.length i with h | h
    · rw [List.take_of_length_le (by simp [levs_length]; omega), List.take_of_length_le (by simp; omega), levs_snoc]
    · rw [List.take_append_of_le_length (by simp [levs_length]; omega), List.take_append_of_le_length h, levs_take s l i]
termination_by ns.length
decreasing_by simp_all

/-- may a node be added? its quadrants are of one level below 256 -/
def Fits (s : Int) (ns : List K4) (k : K4) : Prop :=
  0 ≤ lvl s (levs s ns) k.a ∧ lvl s (levs s ns) k.a < 256 ∧ lvl s (levs s ns) k.b = lvl s (levs s ns) k.a ∧ lvl s (levs s ns) k.c = lvl s (levs s ns) k.a ∧ lvl s (levs s ns) k.d = lvl s (levs s ns) k.a
instance (s : Int) (ns : List K4) (k : K4) : Decidable (Fits s ns k) := by unfold Fits; exact inferInstance
/-- a content whose nodes fit one after the other, none twice -/
def GoodQ (s : Int) (ns : List K4) : Prop := 2 ≤ s ∧ s ≤ 8 ∧ ns.length ≤ 100000 ∧ ns.Nodup ∧ ∀ i k, ns[i]? = some k → Fits s (ns.take i) k
theorem GoodQ.nil {s : Int} (h : 2 ≤ s) (h' : s ≤ 8) : GoodQ s [] := ⟨h, h', by simp, by simp, by simp⟩
theorem GoodQ.snoc {s : Int} {ns : List K4} {k : K4} (h : GoodQ s ns) (hk : Fits s ns k) (hn : k ∉ ns) (hl : ns.length < 100000) : GoodQ s (ns ++ [k]) := by
  obtain ⟨h1, h2, h3, h4, h5⟩ := h
  refine ⟨h1, h2, by simp; omega, ?_, ?_⟩
  · rw [List.nodup_append]
    refine ⟨h4, by simp, ?_⟩
    intro x hx y hy e
    simp at hy
    subst hy; subst e; exact hn hx
  · intro i x hx
    rcases Nat.lt_or_ge i ns.length with hi | hi
    · rw [List.getElem?_append_left hi] at hx
      rw [List.take_append_of_le_length (by omega)]
      exact h5 i x hx
    · have hi' : i = ns.length := by
        have := (List.getElem?_eq_some_iff.1 hx).1
        simp at this; omega
      subst hi'
      simp at hx
      subst hx
      simpa using hk
/-- joining four numbers that fit -/
def joinIn (s : Int) (ns : List K4) (k : K4) : (Int × Int) × List K4 :=
  match ns.idxOf? k with
    | some i => ((s + i, 0), ns)
    | none => if 100000 ≤ ns.length then ((0, 6), ns) else ((s + ns.length, 0), ns ++ [k])
/-- joining four numbers: the result, the error's number, the nodes -/
def join (s : Int) (ns : List K4) (k : K4) : (Int × Int) × List K4 :=
  if lvl s (levs s ns) k.a < 0 ∨ lvl s (levs s ns) k.b < 0 ∨ lvl s (levs s ns) k.c < 0 ∨ lvl s (levs s ns) k.d < 0 then ((0, 13), ns)
  else if ¬ Fits s ns k then ((0, 18), ns)
  else joinIn s ns k
theorem join_good {s : Int} {ns : List K4} (h : GoodQ s ns) (k : K4) : GoodQ s (join s ns k).2 := by
  unfold join
  split
  · exact h
  · split
    · exact h
    · rename_i hf
      unfold joinIn
      split
      · exact h
      · rename_i hi
        split
        · exact h
        · exact h.snoc (Decidable.not_not.1 hf) (by simpa using hi) (by omega)
theorem joinIn_hit {s : Int} {ns : List K4} {k : K4} {i : Nat} (h : ns.idxOf? k = some i) : joinIn s ns k = ((s + i, 0), ns) := by unfold joinIn; rw [h]
theorem joinIn_full {s : Int} {ns : List K4} {k : K4} (h : ns.idxOf? k = none) (hl : 100000 ≤ ns.length) : joinIn s ns k = ((0, 6), ns) := by unfold joinIn; rw [h]; simp only [if_pos hl]
theorem joinIn_new {s : Int} {ns : List K4} {k : K4} (h : ns.idxOf? k = none) (hl : ns.length < 100000) : joinIn s ns k = ((s + ns.length, 0), ns ++ [k]) := by unfold joinIn; rw [h]; simp only [if_neg (by omega : ¬ 100000 ≤ ns.length)]
/-- the pairs of a store's map -/
def pairs (s : Int) (ns : List K4) : List (K4 × Int) := ns.zipIdx.map fun p => (p.1, s + p.2)
theorem pairs_keys (s : Int) (ns : List K4) : (pairs s ns).map (·.1) = ns := by
  simp [pairs, List.map_map, Function.comp_def]
theorem pairs_snoc (s : Int) (ns : List K4) (k : K4) : pairs s (ns ++ [k]) = pairs s ns ++ [(k, s + ns.length)] := by
  simp [pairs, List.zipIdx_append]
theorem pairs_get (s : Int) (ns : List K4) (i : Nat) : (pairs s ns)[i]? = (ns[i]?).map fun k => (k, s + i) := by
  simp [pairs, List.getElem?_zipIdx]
  cases ns[i]? <;> simp
end Go.Proofs.Qs
