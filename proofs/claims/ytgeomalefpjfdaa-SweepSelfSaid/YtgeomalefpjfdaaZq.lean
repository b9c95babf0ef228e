/- Contents of quadtree stores: marks, sweeping, copying, comparing (part q). Nothing of a program. -/
import Derived.Test.YtgeomalefpjfdaaZp
namespace Go.Proofs.Qs
/-! ### Marks -/
def setT (m : List Bool) (k : Int) : List Bool := m.set k.toNat true
def markK (m : List Bool) (k : K4) : List Bool := setT (setT (setT (setT m k.a) k.b) k.c) k.d
def at' (m : List Bool) (id : Int) : Bool := m.getD id.toNat false
def markOne (s : Int) (ns : List K4) (i : Nat) (m : List Bool) : List Bool := match ns[i]? with
  | some k => if at' m (s + i) then markK m k else m
  | none => m
def markDown (s : Int) (ns : List K4) : Nat → List Bool → List Bool
  | 0, m => m
  | i + 1, m => markDown s ns i (markOne s ns i m)
def markRoots (N : Int) : List Int → List Bool → Option (List Bool)
  | [], m => some m
  | r :: rs, m => if r < 0 ∨ N ≤ r then none else markRoots N rs (setT m r)
/-- which numbers roots need -/
def marks (s : Int) (ns : List K4) (roots : List Int) : Option (List Bool) :=
  (markRoots (s + ns.length) roots (List.replicate (s + ns.length).toNat false)).map (markDown s ns ns.length)
theorem setT_length (m : List Bool) (k : Int) : (setT m k).length = m.length := by simp [setT]
theorem markK_length (m : List Bool) (k : K4) : (markK m k).length = m.length := by simp [markK, setT_length]
theorem markOne_length (s : Int) (ns : List K4) (i : Nat) (m : List Bool) : (markOne s ns i m).length = m.length := by
  unfold markOne
  split
  · split
    · exact markK_length _ _
    · rfl
  · rfl
theorem markDown_length (s : Int) (ns : List K4) : ∀ (i : Nat) (m : List Bool), (markDown s ns i m).length = m.length
  | 0, _ => rfl
  | i + 1, m => by rw [markDown, markDown_length s ns i, markOne_length]
theorem markRoots_length {N : Int} : ∀ {rs : List Int} {m m' : List Bool}, markRoots N rs m = some m' → m'.length = m.length
  | [], m, m', h => by cases h; rfl
  | r :: rs, m, m', h => by
    rw [markRoots] at h
    split at h
    · cases h
    · rw [markRoots_length h, setT_length]
theorem at_setT {m : List Bool} {k j : Int} (hk : 0 ≤ k) (hk2 : k < m.length) (hj : 0 ≤ j) : at' (setT m k) j = (decide (j = k) || at' m j) := by
  unfold at' setT
  rw [List.getD_eq_getElem?_getD, List.getD_eq_getElem?_getD, List.getElem?_set]
  by_cases h : j = k
  · subst h; rw [if_pos rfl, if_pos (by omega)]; simp
  · rw [if_neg (by omega)]; simp [h]
theorem at_markK {m : List Bool} {k : K4} {j : Int} (ha : 0 ≤ k.a ∧ k.a < m.length) (hb : 0 ≤ k.b ∧ k.b < m.length) (hc : 0 ≤ k.c ∧ k.c < m.length) (hd : 0 ≤ k.d ∧ k.d < m.length) (hj : 0 ≤ j) :
    at' (markK m k) j = (decide (j = k.a ∨ j = k.b ∨ j = k.c ∨ j = k.d) || at' m j) := by
  unfold markK
  rw [at_setT hd.1 (by simp only [setT_length]; exact hd.2) hj, at_setT hc.1 (by simp only [setT_length]; exact hc.2) hj, at_setT hb.1 (by simp only [setT_length]; exact hb.2) hj, at_setT ha.1 ha.2 hj]
  by_cases h1 : j = k.a <;> by_cases h2 : j = k.b <;> by_cases h3 : j = k.c <;> by_cases h4 : j = k.d <;> simp [h1, h2, h3, h4]
def K4.has (k : K4) (j : Int) : Prop := j = k.a ∨ j = k.b ∨ j = k.c ∨ j = k.d
theorem at_markOne {s : Int} {ns : List K4} (h : GoodQ s ns) {i : Nat} (hi : i < ns.length) {m : List Bool} (hm : (m.length : Int) = s + ns.length) {j : Int} (hj : 0 ≤ j) :
    ∃ k, ns[i]? = some k ∧ (at' (markOne s ns i m) j = true ↔ at' m j = true ∨ at' m (s + i) = true ∧ k.has j) := by
  have hk := List.getElem?_eq_getElem hi
  refine ⟨_, hk, ?_⟩
  obtain ⟨ha, hb, hc, hd⟩ := good_kids h hk
  unfold markOne
  rw [hk]
  simp only
  by_cases hs : at' m (s + i) = true
  · rw [if_pos hs, at_markK ⟨ha.1, by omega⟩ ⟨hb.1, by omega⟩ ⟨hc.1, by omega⟩ ⟨hd.1, by omega⟩ hj, Bool.or_eq_true, decide_eq_true_eq]
    constructor
    · rintro (h1 | h1)
      · exact .inr ⟨hs, h1⟩
      · exact .inl h1
    · rintro (h1 | ⟨_, h1⟩)
      · exact .inr h1
      · exact .inl h1
  · rw [if_neg hs]
    constructor
    · exact fun h => .inl h
    · rintro (h1 | ⟨h1, _⟩)
      · exact h1
      · exact absurd h1 hs
/-- what is marked in the end -/
theorem at_markDown {s : Int} {ns : List K4} (h : GoodQ s ns) : ∀ (n : Nat) {m : List Bool}, n ≤ ns.length → (m.length : Int) = s + ns.length →
    (∀ j, 0 ≤ j → at' m j = true → at' (markDown s ns n m) j = true) ∧
    (∀ j, s + n ≤ j → at' (markDown s ns n m) j = at' m j) ∧
    (∀ i k j, i < n → ns[i]? = some k → at' (markDown s ns n m) (s + (i : Nat)) = true → k.has j → at' (markDown s ns n m) j = true) ∧
    (∀ j, 0 ≤ j → at' (markDown s ns n m) j = true → at' m j = true ∨ ∃ i k, i < n ∧ ns[i]? = some k ∧ at' (markDown s ns n m) (s + (i : Nat)) = true ∧ k.has j)
  | 0, m, _, _ => ⟨fun j _ h => h, fun j _ => rfl, fun i k j hi => by omega, fun j _ h => .inl h⟩
  | n + 1, m, hn, hm => by
    have hs := h.1
    obtain ⟨I1, I2, I3, I4⟩ := at_markDown h n (m := markOne s ns n m) (by omega) (by rw [markOne_length]; exact hm)
    have hO := fun j (hj : 0 ≤ j) => at_markOne h (i := n) (by omega) hm hj
    obtain ⟨k0, hk0, _⟩ := hO 0 (by omega)
    have hO' : ∀ j, 0 ≤ j → (at' (markOne s ns n m) j = true ↔ at' m j = true ∨ at' m (s + n) = true ∧ k0.has j) := fun j hj => by
      obtain ⟨k, hk, h1⟩ := hO j hj
      rw [hk0] at hk; cases hk; exact h1
    obtain ⟨ka, kb, kc, kd⟩ := good_kids h hk0
    have hlow : ∀ j, k0.has j → 0 ≤ j ∧ j < s + n := fun j hj => by
      rcases hj with rfl | rfl | rfl | rfl
      · exact ka
      · exact kb
      · exact kc
      · exact kd
    have hhigh : ∀ j, s + n ≤ j → at' (markOne s ns n m) j = at' m j := fun j hj => by
      rw [Bool.eq_iff_iff, hO' j (by omega)]
      constructor
      · rintro (h1 | ⟨_, h1⟩)
        · exact h1
        · have := hlow j h1; omega
      · exact fun h => .inl h
    show (∀ j, 0 ≤ j → at' m j = true → at' (markDown s ns n (markOne s ns n m)) j = true) ∧ (∀ j, s + (n + 1 : Nat) ≤ j → at' (markDown s ns n (markOne s ns n m)) j = at' m j) ∧
      (∀ i k j, i < n + 1 → ns[i]? = some k → at' (markDown s ns n (markOne s ns n m)) (s + (i : Nat)) = true → k.has j → at' (markDown s ns n (markOne s ns n m)) j = true) ∧
      (∀ j, 0 ≤ j → at' (markDown s ns n (markOne s ns n m)) j = true → at' m j = true ∨ ∃ i k, i < n + 1 ∧ ns[i]? = some k ∧ at' (markDown s ns n (markOne s ns n m)) (s + (i : Nat)) = true ∧ k.has j)
    refine ⟨fun j hj h1 => I1 j hj ((hO' j hj).2 (.inl h1)), fun j hj => (I2 j (by omega)).trans (hhigh j (by omega)), fun i k j hi hk h1 h2 => ?_, fun j hj h1 => ?_⟩
    · by_cases hin : i = n
      · subst hin
        rw [hk0] at hk; cases hk
        rw [I2 _ (by omega), hhigh _ (by omega)] at h1
        exact I1 j (hlow j h2).1 ((hO' j (hlow j h2).1).2 (.inr ⟨h1, h2⟩))
      · exact I3 i k j (by omega) hk h1 h2
    · rcases I4 j hj h1 with h2 | ⟨i, k, hi, hk, h2, h3⟩
      · rcases (hO' j hj).1 h2 with h3 | ⟨h3, h4⟩
        · exact .inl h3
        · exact .inr ⟨n, k0, by omega, hk0, by rw [I2 _ (by omega), hhigh _ (by omega)]; exact h3, h4⟩
      · exact .inr ⟨i, k, by omega, hk, h2, h3⟩
theorem at_markRoots {N : Int} : ∀ {rs : List Int} {m m' : List Bool}, (m.length : Int) = N → markRoots N rs m = some m' → (∀ r ∈ rs, 0 ≤ r ∧ r < N) ∧ ∀ j, 0 ≤ j → (at' m' j = true ↔ at' m j = true ∨ j ∈ rs)
  | [], m, m', _, h => by cases h; exact ⟨by simp, fun j _ => by simp⟩
  | r :: rs, m, m', hN, h => by
    rw [markRoots] at h
    split at h
    · cases h
    · rename_i hr
      obtain ⟨h1, h2⟩ := at_markRoots (by rw [setT_length]; exact hN) h
      refine ⟨fun x hx => ?_, fun j hj => ?_⟩
      · rw [List.mem_cons] at hx
        rcases hx with rfl | hx
        · omega
        · exact h1 x hx
      · rw [h2 j hj, at_setT (by omega) (by omega) hj, Bool.or_eq_true, decide_eq_true_eq, List.mem_cons]
        constructor
        · rintro ((h3 | h3) | h3)
          · exact .inr (.inl h3)
          · exact .inl h3
          · exact .inr (.inr h3)
        · rintro (h3 | h3 | h3)
          · exact .inl (.inr h3)
          · exact .inl (.inl h3)
          · exact .inr h3
theorem markRoots_none {N : Int} : ∀ {rs : List Int} {m : List Bool}, markRoots N rs m = none ↔ ∃ r ∈ rs, r < 0 ∨ N ≤ r
  | [], m => by simp [markRoots]
  | r :: rs, m => by
    rw [markRoots]
    by_cases h : r < 0 ∨ N ≤ r
    · rw [if_pos h]; simp; exact .inl h
    · rw [if_neg h, markRoots_none]; simp [h]
/-- the marks of a good content: closed, the roots among them, and nothing else -/
structure Marked (s : Int) (ns : List K4) (roots : List Int) (m : List Bool) : Prop where
  len : (m.length : Int) = s + ns.length
  root : ∀ r ∈ roots, Kn s ns r ∧ at' m r = true
  down : ∀ i k j, ns[i]? = some k → at' m (s + (i : Nat)) = true → k.has j → at' m j = true
  why : ∀ j, 0 ≤ j → at' m j = true → j ∈ roots ∨ ∃ i k, ns[i]? = some k ∧ at' m (s + (i : Nat)) = true ∧ k.has j
theorem marks_marked {s : Int} {ns : List K4} (h : GoodQ s ns) {roots : List Int} {m : List Bool} (hm : marks s ns roots = some m) : Marked s ns roots m := by
  unfold marks at hm
  rw [Option.map_eq_some_iff] at hm
  obtain ⟨m0, h0, rfl⟩ := hm
  have hs := h.1
  have hl0 := markRoots_length h0
  rw [List.length_replicate] at hl0
  obtain ⟨r1, r2⟩ := at_markRoots (by rw [List.length_replicate]; omega) h0
  obtain ⟨I1, _, I3, I4⟩ := at_markDown h ns.length (m := m0) (Nat.le_refl _) (by omega)
  have hrep : ∀ j, at' (List.replicate (s + ns.length).toNat false) j = false := fun j => by
    unfold at'
    rw [List.getD_eq_getElem?_getD, List.getElem?_replicate]
    split <;> rfl
  refine ⟨by rw [markDown_length]; omega, fun r hr => ⟨r1 r hr, I1 r (r1 r hr).1 ((r2 r (r1 r hr).1).2 (.inr hr))⟩, fun i k j hk => I3 i k j (List.getElem?_eq_some_iff.1 hk).1 hk, fun j hj h1 => ?_⟩
  rcases I4 j hj h1 with h2 | ⟨i, k, _, hk, h2, h3⟩
  · rcases (r2 j hj).1 h2 with h3 | h3
    · rw [hrep] at h3; cases h3
    · exact .inl h3
  · exact .inr ⟨i, k, hk, h2, h3⟩
theorem marks_none {s : Int} {ns : List K4} {roots : List Int} : marks s ns roots = none ↔ ∃ r ∈ roots, ¬ Kn s ns r := by
  unfold marks
  rw [Option.map_eq_none_iff, markRoots_none]
  constructor
  · rintro ⟨r, hr, h⟩; exact ⟨r, hr, fun k => by have := k.1; have := k.2; omega⟩
  · rintro ⟨r, hr, h⟩; exact ⟨r, hr, by unfold Kn at h; omega⟩
end Go.Proofs.Qs
