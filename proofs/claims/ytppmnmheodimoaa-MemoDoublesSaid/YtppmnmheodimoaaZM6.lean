/- Own texts of this claim, part 7: no condition. -/
import Derived.Test.YtppmnmheodimoaaRows
import Derived.Test.YtppmnmheodimoaaZM5
import Derived.Test.YtppmnmheodimoaaZM4
set_option linter.unusedVariables false
set_option linter.unusedSimpArgs false
section
/- Rules as trees, and squares of cells as lists of rows. Nothing of a program. -/
namespace Go.Proofs.Ev
open Go.Proofs.Qs
set_option linter.unusedVariables false
set_option linter.unusedSimpArgs false
/-! ### Squares as rows -/
def gridL (m : Nat) (F : Fld) (ox oy : Int) : List (List Int) := (List.range m).map fun (y : Nat) => (List.range m).map fun (x : Nat) => F (ox + x) (oy + y)
theorem gridL_length (m : Nat) (F : Fld) (ox oy : Int) : (gridL m F ox oy).length = m := by simp [gridL]
def rowL (m : Nat) (F : Fld) (ox y : Int) : List Int := (List.range m).map fun (x : Nat) => F (ox + x) y
theorem rowL_length (m : Nat) (F : Fld) (ox y : Int) : (rowL m F ox y).length = m := by simp [rowL]
theorem gridL_get {m : Nat} {F : Fld} {ox oy : Int} {y : Nat} (h : y < m) : (gridL m F ox oy)[y]? = some (rowL m F ox (oy + y)) := by
  simp [gridL, rowL, h]
theorem rowL_get {m : Nat} {F : Fld} {ox y : Int} {x : Nat} (h : x < m) : (rowL m F ox y)[x]? = some (F (ox + x) y) := by
  simp [rowL, h]
theorem gridL_ext {m n : Nat} {F G : Fld} {ox oy px py : Int} (hm : m = n) (h : ∀ i j : Nat, i < m → j < m → F (ox + i) (oy + j) = G (px + i) (py + j)) : gridL m F ox oy = gridL n G px py := by
  subst hm
  unfold gridL
  refine List.map_congr_left fun y hy => List.map_congr_left fun x hx => ?_
  rw [List.mem_range] at hx hy
  exact h x y hx hy
theorem rowL_slice {m : Nat} {F : Fld} {ox y : Int} {a n : Nat} (h : a + n ≤ m) : ((rowL m F ox y).drop a).take n = rowL n F (ox + a) y := by
  apply List.ext_getElem?
  intro i
  rw [List.getElem?_take]
  split
  · rename_i hi
    rw [List.getElem?_drop, rowL_get (by omega), rowL_get hi, Int.natCast_add, Int.add_assoc]
  · rw [List.getElem?_eq_none (by rw [rowL_length]; omega)]
theorem rowL_append {m n : Nat} {F : Fld} {ox y : Int} : rowL m F ox y ++ rowL n F (ox + m) y = rowL (m + n) F ox y := by
  apply List.ext_getElem?
  intro i
  by_cases h : i < m
  · rw [List.getElem?_append_left (by rw [rowL_length]; exact h), rowL_get h, rowL_get (by omega)]
  · rw [List.getElem?_append_right (by rw [rowL_length]; omega), rowL_length]
    by_cases h2 : i < m + n
    · rw [rowL_get (by omega), rowL_get h2]
      congr 2; omega
    · rw [List.getElem?_eq_none (by rw [rowL_length]; omega), List.getElem?_eq_none (by rw [rowL_length]; omega)]
theorem rowL_snoc {m : Nat} {F : Fld} {ox y : Int} : rowL m F ox y ++ [F (ox + m) y] = rowL (m + 1) F ox y := by
  rw [← rowL_append (m := m) (n := 1)]
  simp [rowL]
/-- the first k rows -/
def rowsL (k m : Nat) (F : Fld) (ox oy : Int) : List (List Int) := (List.range k).map fun (y : Nat) => rowL m F ox (oy + y)
theorem rowsL_snoc {k m : Nat} {F : Fld} {ox oy : Int} : rowsL k m F ox oy ++ [rowL m F ox (oy + k)] = rowsL (k + 1) m F ox oy := by
  unfold rowsL
  rw [List.range_succ, List.map_append]; rfl
theorem rowsL_all (m : Nat) (F : Fld) (ox oy : Int) : rowsL m m F ox oy = gridL m F ox oy := rfl
theorem rowsL_length (k m : Nat) (F : Fld) (ox oy : Int) : (rowsL k m F ox oy).length = k := by simp [rowsL]
theorem rowsL_get {k m : Nat} {F : Fld} {ox oy : Int} {y : Nat} (h : y < k) : (rowsL k m F ox oy)[y]? = some (rowL m F ox (oy + y)) := by simp [rowsL, h]
/-! ### Rules -/
structure Rule where
  S : Int
  hood : List (Int × Int)
  nodes : List (Int × List Int)
def before (p q : Int × Int) : Bool := decide (p.2 < q.2 ∨ p.2 = q.2 ∧ p.1 < q.1)
def near2 (p : Int × Int) : Bool := decide (-2 ≤ p.1 ∧ p.1 ≤ 2 ∧ -2 ≤ p.2 ∧ p.2 ≤ 2)
/-- the offset number i may stand there -/
def hoodAt (l : List (Int × Int)) (i : Nat) : Bool := near2 (l.getD i (0, 0)) && (decide (i = 0) || before (l.getD (i - 1) (0, 0)) (l.getD i (0, 0)))
def hoodR (l : List (Int × Int)) : Bool := decide (1 ≤ l.length) && decide (l.length ≤ 25) && (List.range l.length).all (hoodAt l)
def levelAt (r : Rule) (k : Int) : Int := (r.nodes.getD k.toNat (0, [])).1
def nextAt (r : Rule) (k s : Int) : Int := (r.nodes.getD k.toNat (0, [])).2.getD s.toNat 0
/-- the element k of node i, of level lv -/
def entOK (r : Rule) (lv : Int) (i : Nat) (k : Int) : Bool := decide (0 ≤ k) && (if lv = 1 then decide (k < r.S) else true) && (if 1 < lv then decide (k < i ∧ levelAt r k = lv - 1) else true)
def nodeOK (r : Rule) (i : Nat) : Bool :=
  decide (1 ≤ (r.nodes.getD i (0, [])).1 ∧ (r.nodes.getD i (0, [])).1 ≤ r.hood.length ∧ (((r.nodes.getD i (0, [])).2.length : Nat) : Int) = r.S) && (r.nodes.getD i (0, [])).2.all (entOK r (r.nodes.getD i (0, [])).1 i)
def rightR (r : Rule) : Bool := decide (2 ≤ r.S ∧ r.S ≤ 8) && hoodR r.hood && decide (1 ≤ r.nodes.length ∧ r.nodes.length ≤ 4096) && decide (levelAt r (r.nodes.length - 1 : Int) = r.hood.length) && (List.range r.nodes.length).all (nodeOK r)
def radMax (r : Int) (p : Int × Int) : Int := max (max (max (max r p.1) (-p.1)) p.2) (-p.2)
def radius (l : List (Int × Int)) : Int := if hoodR l then l.foldl radMax 0 else 0
/-- reading states down the tree -/
def down (r : Rule) (ss : List Int) : Int := ss.foldl (fun k s => nextAt r k s) (r.nodes.length - 1 : Int)
def gen (r : Rule) (F : Fld) : Fld := fun x y => down r (r.hood.map fun p => F (x + p.1) (y + p.2))
theorem down_snoc (r : Rule) (ss : List Int) (s : Int) : down r (ss ++ [s]) = nextAt r (down r ss) s := by simp [down]
section
variable {r : Rule} (h : rightR r = true)
include h
theorem right_S : 2 ≤ r.S ∧ r.S ≤ 8 := by
  unfold rightR at h
  simp only [Bool.and_eq_true, decide_eq_true_eq] at h
  exact h.1.1.1.1
theorem right_hood : hoodR r.hood = true := by
  unfold rightR at h
  simp only [Bool.and_eq_true, decide_eq_true_eq] at h
  exact h.1.1.1.2
theorem right_len : 1 ≤ r.nodes.length ∧ r.nodes.length ≤ 4096 := by
  unfold rightR at h
  simp only [Bool.and_eq_true, decide_eq_true_eq] at h
  exact h.1.1.2
theorem right_root : levelAt r (r.nodes.length - 1 : Int) = r.hood.length := by
  unfold rightR at h
  simp only [Bool.and_eq_true, decide_eq_true_eq] at h
  exact h.1.2
theorem right_node {i : Nat} (hi : i < r.nodes.length) : nodeOK r i = true := by
  unfold rightR at h
  simp only [Bool.and_eq_true, decide_eq_true_eq, List.all_eq_true, List.mem_range] at h
  exact h.2 i hi
theorem right_hlen : 1 ≤ r.hood.length ∧ r.hood.length ≤ 25 := by
  have := right_hood h
  unfold hoodR at this
  simp only [Bool.and_eq_true, decide_eq_true_eq] at this
  exact this.1
/-- where reading stands after some states: at a node of the level that is left, or at a state -/
theorem down_at : ∀ {ss : List Int}, (∀ s ∈ ss, 0 ≤ s ∧ s < r.S) → ss.length ≤ r.hood.length →
    (ss.length < r.hood.length → 0 ≤ down r ss ∧ down r ss < r.nodes.length ∧ levelAt r (down r ss) = r.hood.length - ss.length) ∧ (ss.length = r.hood.length → 0 ≤ down r ss ∧ down r ss < r.S) := by
  intro ss
  generalize hm : ss.length = m
  induction m generalizing ss with
  | zero =>
    intro _ _
    obtain rfl := List.eq_nil_of_length_eq_zero hm
    have hl := right_len h
    have hh := right_hlen h
    have hr := right_root h
    have e : down r [] = (r.nodes.length - 1 : Int) := rfl
    rw [e]
    exact ⟨fun _ => ⟨by omega, by omega, by rw [hr]; omega⟩, fun h0 => by omega⟩
  | succ m ih =>
    intro hs hle
    rcases List.eq_nil_or_concat ss with rfl | ⟨l, s, rfl⟩
    · simp at hm
    · rw [List.concat_eq_append] at hs hm ⊢
      have hm' : l.length = m := by simpa using hm
      obtain ⟨h1, _⟩ := ih hm' (fun x hx => hs x (by simp [hx])) (by omega)
      obtain ⟨a1, a2, a3⟩ := h1 (by omega)
      have hs' := hs s (by simp)
      rw [down_snoc]
      generalize down r l = k at a1 a2 a3
      have hn := right_node h (i := k.toNat) (by omega)
      unfold nodeOK at hn
      unfold levelAt at a3
      unfold nextAt
      generalize r.nodes.getD k.toNat (0, []) = x at a3 hn
      rw [Bool.and_eq_true, decide_eq_true_eq, List.all_eq_true] at hn
      obtain ⟨⟨b1, b2, b3⟩, b4⟩ := hn
      have hmem : x.2.getD s.toNat 0 ∈ x.2 := by
        rw [List.getD_eq_getElem?_getD, List.getElem?_eq_getElem (by omega)]
        exact List.getElem_mem _
      have b5 := b4 _ hmem
      generalize x.2.getD s.toNat 0 = z at b5
      unfold entOK at b5
      rw [Bool.and_eq_true, Bool.and_eq_true, decide_eq_true_eq] at b5
      obtain ⟨⟨c1, c2⟩, c3⟩ := b5
      refine ⟨fun hlt => ?_, fun heq => ?_⟩
      · rw [if_pos (by omega), decide_eq_true_eq] at c3
        exact ⟨c1, by omega, by rw [c3.2]; omega⟩
      · rw [if_pos (by omega), decide_eq_true_eq] at c2
        exact ⟨c1, c2⟩
end
theorem radMax_le {a b : Int} {p : Int × Int} : radMax a p ≤ b ↔ a ≤ b ∧ p.1 ≤ b ∧ -p.1 ≤ b ∧ p.2 ≤ b ∧ -p.2 ≤ b := by unfold radMax; omega
theorem fold_rad : ∀ (l : List (Int × Int)) (a : Int), a ≤ l.foldl radMax a ∧ ∀ p ∈ l, p.1 ≤ l.foldl radMax a ∧ -p.1 ≤ l.foldl radMax a ∧ p.2 ≤ l.foldl radMax a ∧ -p.2 ≤ l.foldl radMax a
  | [], a => ⟨Int.le_refl _, by simp⟩
  | q :: l, a => by
    obtain ⟨h1, h2⟩ := fold_rad l (radMax a q)
    have h3 := (radMax_le (a := a) (b := radMax a q) (p := q)).1 (Int.le_refl _)
    rw [List.foldl_cons]
    refine ⟨by omega, fun p hp => ?_⟩
    rw [List.mem_cons] at hp
    rcases hp with rfl | hp
    · omega
    · exact h2 p hp
theorem fold_rad_le : ∀ (l : List (Int × Int)) (a b : Int), a ≤ b → (∀ p ∈ l, p.1 ≤ b ∧ -p.1 ≤ b ∧ p.2 ≤ b ∧ -p.2 ≤ b) → l.foldl radMax a ≤ b
  | [], a, b, h, _ => h
  | q :: l, a, b, h, hp => by
    rw [List.foldl_cons]
    refine fold_rad_le l _ _ (radMax_le.2 ⟨h, hp q (by simp)⟩) fun p hm => hp p (by simp [hm])
theorem radius_le (l : List (Int × Int)) : 0 ≤ radius l ∧ radius l ≤ 2 := by
  unfold radius
  split
  · rename_i h
    refine ⟨(fold_rad l 0).1, fold_rad_le l 0 2 (by omega) fun p hp => ?_⟩
    unfold hoodR at h
    simp only [Bool.and_eq_true, decide_eq_true_eq, List.all_eq_true, List.mem_range] at h
    obtain ⟨i, hi, rfl⟩ := List.mem_iff_getElem.1 hp
    have := h.2 i hi
    unfold hoodAt near2 at this
    simp only [Bool.and_eq_true, decide_eq_true_eq] at this
    have h3 := this.1
    rw [List.getD_eq_getElem?_getD, List.getElem?_eq_getElem hi] at h3
    simp only [Option.getD_some] at h3
    omega
  · omega
theorem hood_in {l : List (Int × Int)} (h : hoodR l = true) {p : Int × Int} (hp : p ∈ l) : -radius l ≤ p.1 ∧ p.1 ≤ radius l ∧ -radius l ≤ p.2 ∧ p.2 ≤ radius l := by
  have := (fold_rad l 0).2 p hp
  unfold radius
  rw [h, if_pos rfl]
  omega
theorem gen_local {r : Rule} (h : rightR r = true) : Local (radius r.hood) (gen r) := by
  intro F H x y u v hF
  unfold gen
  congr 1
  refine List.map_congr_left fun p hp => ?_
  have := hood_in (right_hood h) hp
  exact hF _ _ this.1 this.2.1 this.2.2.1 this.2.2.2
/-- states stay states -/
theorem gen_ok {r : Rule} (h : rightR r = true) {F : Fld} {x y : Int} (hF : ∀ i j, -radius r.hood ≤ i → i ≤ radius r.hood → -radius r.hood ≤ j → j ≤ radius r.hood → 0 ≤ F (x + i) (y + j) ∧ F (x + i) (y + j) < r.S) : 0 ≤ gen r F x y ∧ gen r F x y < r.S := by
  refine (down_at h (ss := r.hood.map fun p => F (x + p.1) (y + p.2)) (fun s hs => ?_) (by simp)).2 (by simp)
  obtain ⟨p, hp, rfl⟩ := List.mem_map.1 hs
  have := hood_in (right_hood h) hp
  exact hF _ _ this.1 this.2.1 this.2.2.1 this.2.2.2
theorem it_ok {r : Rule} (h : rightR r = true) {F : Fld} {x y L : Int} (hF : ∀ i j, 0 ≤ i → i < L → 0 ≤ j → j < L → 0 ≤ F (x + i) (y + j) ∧ F (x + i) (y + j) < r.S) : ∀ (m : Nat) {i j : Int}, radius r.hood * m ≤ i → i < L - radius r.hood * m → radius r.hood * m ≤ j → j < L - radius r.hood * m → 0 ≤ it (gen r) m F (x + i) (y + j) ∧ it (gen r) m F (x + i) (y + j) < r.S
  | 0, i, j, a, b, c, d => by
    simp only [Int.natCast_zero, Int.mul_zero, Int.sub_zero] at a b c d
    exact hF i j a b c d
  | m + 1, i, j, a, b, c, d => by
    have e : radius r.hood * ((m + 1 : Nat) : Int) = radius r.hood * m + radius r.hood := by rw [Int.natCast_add, Int.mul_add]; simp
    rw [e] at a b c d
    refine gen_ok h fun p q a1 a2 a3 a4 => ?_
    rw [Int.add_assoc, Int.add_assoc]
    exact it_ok h hF m (by omega) (by omega) (by omega) (by omega)
theorem cell_ok {s : Int} : ∀ (n : Nat) {t : Tr}, Full n t → t.ok s → ∀ {x y : Int}, 0 ≤ x → x < p2 n → 0 ≤ y → y < p2 n → 0 ≤ cell n t x y ∧ cell n t x y < s
  | 0, .leaf v, _, hv, x, y, _, _, _, _ => hv
  | 0, .node _ _ _ _, h, _, _, _, _, _, _, _ => h.elim
  | n + 1, .leaf _, h, _, _, _, _, _, _, _ => h.elim
  | n + 1, .node a b c d, h, ho, x, y, h1, h2, h3, h4 => by
    have hp := p2_succ n
    show 0 ≤ (if y < p2 n then (if x < p2 n then _ else _) else _) ∧ (if y < p2 n then (if x < p2 n then _ else _) else _) < s
    split
    · split
      · exact cell_ok n h.1 ho.1 h1 (by omega) h3 (by omega)
      · exact cell_ok n h.2.1 ho.2.1 (by omega) (by omega) h3 (by omega)
    · split
      · exact cell_ok n h.2.2.1 ho.2.2.1 h1 (by omega) (by omega) (by omega)
      · exact cell_ok n h.2.2.2 ho.2.2.2 (by omega) (by omega) (by omega) (by omega)
theorem mk_ok {s : Int} : ∀ (n : Nat) {F : Fld} {x y : Int}, (∀ i j, 0 ≤ i → i < p2 n → 0 ≤ j → j < p2 n → 0 ≤ F (x + i) (y + j) ∧ F (x + i) (y + j) < s) → (mk n F x y).ok s
  | 0, F, x, y, h => by
    have := h 0 0 (by omega) (by rw [p2_zero]; omega) (by omega) (by rw [p2_zero]; omega)
    simpa [mk, Tr.ok] using this
  | n + 1, F, x, y, h => by
    have hp := p2_succ n
    have hq := p2_pos n
    refine ⟨mk_ok n fun i j a b c d => h i j a (by omega) c (by omega), mk_ok n fun i j a b c d => ?_, mk_ok n fun i j a b c d => ?_, mk_ok n fun i j a b c d => ?_⟩
    · rw [Int.add_assoc]; exact h _ _ (by omega) (by omega) c (by omega)
    · rw [Int.add_assoc y]; exact h _ _ a (by omega) (by omega) (by omega)
    · rw [Int.add_assoc x, Int.add_assoc y]; exact h _ _ (by omega) (by omega) (by omega) (by omega)
end Go.Proofs.Ev
end

section
/- Squares of a tree's cells, row by row; what steps lead to. Nothing of a program. -/
namespace Go.Proofs.Ev
open Go.Proofs.Qs
set_option linter.unusedVariables false
set_option linter.unusedSimpArgs false
/-- the rows of a tree's cells -/
def cellsL (n : Nat) (t : Tr) : List (List Int) := gridL (2 ^ n) (cell n t) 0 0
theorem cellsL_length (n : Nat) (t : Tr) : (cellsL n t).length = 2 ^ n := gridL_length _ _ _ _
theorem cellsL_get {n : Nat} {t : Tr} {y : Nat} (h : y < 2 ^ n) : (cellsL n t)[y]? = some (rowL (2 ^ n) (cell n t) 0 y) := by
  unfold cellsL
  rw [gridL_get h, Int.zero_add]
theorem cellsL_zero (v : Int) : cellsL 0 (.leaf v) = [[v]] := rfl
theorem row_north {n : Nat} {a b c d : Tr} {y : Nat} (h : y < 2 ^ n) : rowL (2 ^ n) (cell n a) 0 y ++ rowL (2 ^ n) (cell n b) 0 y = rowL (2 ^ (n + 1)) (cell (n + 1) (.node a b c d)) 0 y := by
  have hy : (y : Int) < p2 n := by unfold p2; omega
  rw [show (2 : Nat) ^ (n + 1) = 2 ^ n + 2 ^ n by rw [Nat.pow_succ]; omega, ← rowL_append]
  congr 1
  · refine List.map_congr_left fun x hx => ?_
    rw [List.mem_range] at hx
    have hx' : (x : Int) < p2 n := by unfold p2; omega
    show _ = (if (y : Int) < p2 n then (if 0 + (x : Int) < p2 n then _ else _) else _)
    rw [if_pos hy, if_pos (by omega)]
  · refine List.map_congr_left fun x hx => ?_
    show _ = (if (y : Int) < p2 n then (if 0 + ((2 ^ n : Nat) : Int) + (x : Int) < p2 n then _ else _) else _)
    rw [if_pos hy, if_neg (by unfold p2; omega)]
    congr 1
    unfold p2; omega
theorem row_south {n : Nat} {a b c d : Tr} {y : Nat} (h : y < 2 ^ n) : rowL (2 ^ n) (cell n c) 0 y ++ rowL (2 ^ n) (cell n d) 0 y = rowL (2 ^ (n + 1)) (cell (n + 1) (.node a b c d)) 0 ((2 ^ n + y : Nat)) := by
  have hy : ¬ (((2 ^ n + y : Nat)) : Int) < p2 n := by unfold p2; omega
  have hs : (((2 ^ n + y : Nat)) : Int) - p2 n = y := by unfold p2; omega
  rw [show (2 : Nat) ^ (n + 1) = 2 ^ n + 2 ^ n by rw [Nat.pow_succ]; omega, ← rowL_append]
  congr 1
  · refine List.map_congr_left fun x hx => ?_
    rw [List.mem_range] at hx
    have hx' : (x : Int) < p2 n := by unfold p2; omega
    show _ = (if (((2 ^ n + y : Nat)) : Int) < p2 n then _ else (if 0 + (x : Int) < p2 n then _ else _))
    rw [if_neg hy, if_pos (by omega), hs]
  · refine List.map_congr_left fun x hx => ?_
    show _ = (if (((2 ^ n + y : Nat)) : Int) < p2 n then _ else (if 0 + ((2 ^ n : Nat) : Int) + (x : Int) < p2 n then _ else _))
    rw [if_neg hy, if_neg (by unfold p2; omega), hs]
    congr 1
    unfold p2; omega
/-- the cells of a made tree are the field's -/
theorem cellsL_mk (n : Nat) (F : Fld) (x y : Int) : cellsL n (mk n F x y) = gridL (2 ^ n) F x y :=
  gridL_ext rfl fun i j hi hj => by rw [Int.zero_add, Int.zero_add]; exact cell_mk n (by omega) (by unfold p2; omega) (by omega) (by unfold p2; omega)
theorem mk_of_cells {n : Nat} {t u : Tr} (ht : Full n t) (hu : Full n u) (h : cellsL n t = cellsL n u) : t = u := by
  rw [← mk_cell n ht, ← mk_cell n hu]
  refine mk_congr n fun i j h1 h2 h3 h4 => ?_
  obtain ⟨a, rfl⟩ : ∃ a : Nat, i = a := ⟨i.toNat, by omega⟩
  obtain ⟨b, rfl⟩ : ∃ b : Nat, j = b := ⟨j.toNat, by omega⟩
  unfold p2 at h2 h4
  have e1 := cellsL_get (n := n) (t := t) (y := b) (by omega)
  have e2 := cellsL_get (n := n) (t := u) (y := b) (by omega)
  rw [h, e2] at e1
  have e3 := congrArg (fun l : List Int => l[a]?) (Option.some.inj e1)
  rw [rowL_get (by omega), rowL_get (by omega)] at e3
  simp only [Int.zero_add] at e3 ⊢
  exact (Option.some.inj e3).symm
/-- the rows after a generation, without a margin -/
theorem gen_rows {r : Rule} {m k : Nat} {F : Fld} {x y : Int} (h : 2 * k ≤ m) : gridL (m - 2 * k) (gen r F) (x + k) (y + k) = gridL (m - 2 * k) (gen r F) (x + k) (y + k) := rfl
/-! ### Most exponents -/
def lostOf (r : Int) : Nat := (max r 1).toNat + 1
theorem lost_le {r : Int} (h0 : 0 ≤ r) (h2 : r ≤ 2) : 2 ≤ lostOf r ∧ lostOf r ≤ 3 := by unfold lostOf; omega
/-- the generations that a level permits stay within its margin -/
theorem margin {r : Int} (h0 : 0 ≤ r) (h2 : r ≤ 2) {n k : Nat} (hn : lostOf r ≤ n) (hk : k ≤ n - lostOf r) : r * p2 k ≤ p2 (n - 2) := by
  have h1 : r ≤ p2 (lostOf r - 2) := by
    unfold lostOf
    rcases (show r = 0 ∨ r = 1 ∨ r = 2 by omega) with rfl | rfl | rfl
    · exact Int.le_of_lt (p2_pos _)
    · exact Int.le_refl _
    · exact Int.le_refl _
  have h3 : p2 (lostOf r - 2) * p2 k = p2 (lostOf r - 2 + k) := by unfold p2; rw [Nat.pow_add, Int.natCast_mul]
  have h4 := Int.mul_le_mul_of_nonneg_right h1 (Int.le_of_lt (p2_pos k))
  rw [h3] at h4
  refine Int.le_trans h4 (p2_le ?_)
  unfold lostOf at *; omega
end Go.Proofs.Ev
end

section
/- A rule in memory that is read. -/
namespace Go.Proofs.Hp
open Go Go.RowKit Go.Proofs.Ev
set_option linter.unusedVariables false
set_option linter.unusedSimpArgs false
def pts (l : List (Int × Int)) : List Value := l.flatMap fun p => [.int .i64 p.1, .int .i64 p.2]
theorem pts_length (l : List (Int × Int)) : (pts l).length = l.length * 2 := by
  unfold pts
  induction l with
  | nil => rfl
  | cons p l ih => simp only [List.flatMap_cons, List.length_append, List.length_cons, List.length_nil, ih]; omega
theorem flat2_get {α : Type} (f g : α → Value) : ∀ (l : List α) (i : Nat) (p : α), l[i]? = some p → (l.flatMap fun p => [f p, g p])[i * 2]? = some (f p) ∧ (l.flatMap fun p => [f p, g p])[i * 2 + 1]? = some (g p)
  | [], i, p, h => by simp at h
  | q :: l, 0, p, h => by
    simp at h
    subst h
    simp
  | q :: l, i + 1, p, h => by
    have h' : l[i]? = some p := by simpa using h
    obtain ⟨h1, h2⟩ := flat2_get f g l i p h'
    rw [List.flatMap_cons, show (i + 1) * 2 = i * 2 + 1 + 1 by omega]
    simp only [List.cons_append, List.nil_append, List.getElem?_cons_succ]
    exact ⟨h1, h2⟩
theorem pts_get {l : List (Int × Int)} {i : Nat} {p : Int × Int} (h : l[i]? = some p) : (pts l)[i * 2]? = some (.int .i64 p.1) ∧ (pts l)[i * 2 + 1]? = some (.int .i64 p.2) :=
  flat2_get (fun p : Int × Int => Value.int .i64 p.1) (fun p => Value.int .i64 p.2) l i p h
/-- the cells of nodes, the slices of whose elements are vs -/
def ncells (l : List (Int × List Int)) (vs : List Value) : List Value := (l.zip vs).flatMap fun p => [.int .i64 p.1.1, p.2]
theorem ncells_get {l : List (Int × List Int)} {vs : List Value} {i : Nat} {x : Int × List Int} {u : Value} (h : l[i]? = some x) (hu : vs[i]? = some u) : (ncells l vs)[i * 2]? = some (.int .i64 x.1) ∧ (ncells l vs)[i * 2 + 1]? = some u :=
  flat2_get (fun p : (Int × List Int) × Value => Value.int .i64 p.1.1) (fun p => p.2) (l.zip vs) i (x, u) (by rw [List.getElem?_zip_eq_some]; exact ⟨h, hu⟩)
/-- a list of points that is read -/
def PtsAt (w : World) (v : Value) (l : List (Int × Int)) : Prop := Reads w v l.length 2 (pts l)
theorem PtsAt.fr {w w' : World} {v : Value} {l : List (Int × Int)} (h : PtsAt w v l) (hf : Fr [] w w') : PtsAt w' v l := Reads.fr h hf
theorem PtsAt.form {w : World} {v : Value} {l : List (Int × Int)} (h : PtsAt w v l) : ∃ a c, v = .slice a l.length c := by
  obtain ⟨_, a, c, h, _⟩ := h
  exact ⟨a, c, h⟩
theorem PtsAt.cell {w : World} {a : Option Addr} {n c : Nat} {l : List (Int × Int)} (h : PtsAt w (.slice a n c) l) {i : Nat} {p : Int × Int} (hi : l[i]? = some p) :
    ∃ g off, a = some ⟨g, off, none⟩ ∧ g < w.heap.size ∧ w.cell? ⟨g, off + i * 2, none⟩ = some (.int .i64 p.1) ∧ w.cell? ⟨g, off + i * 2 + 1, none⟩ = some (.int .i64 p.2) := by
  obtain ⟨hl, a', c', he, hp⟩ := h
  cases he
  have hlt := (List.getElem?_eq_some_iff.1 hi).1
  obtain ⟨g, off, rfl, hg, hc⟩ := hp (by omega)
  obtain ⟨h1, h2⟩ := pts_get hi
  exact ⟨g, off, rfl, hg, hc _ _ h1, by rw [Nat.add_assoc]; exact hc _ _ h2⟩
/-- nodes that are read -/
def NodesAt (w : World) (v : Value) (l : List (Int × List Int)) : Prop := ∃ vs : List Value, Reads w v l.length 2 (ncells l vs) ∧ ∀ (i : Nat) (x : Int × List Int), l[i]? = some x → ∃ u, vs[i]? = some u ∧ IntsAt w u x.2
theorem NodesAt.fr {w w' : World} {v : Value} {l : List (Int × List Int)} (h : NodesAt w v l) (hf : Fr [] w w') : NodesAt w' v l := by
  obtain ⟨vs, h1, h2⟩ := h
  refine ⟨vs, h1.fr hf, fun i x hi => ?_⟩
  obtain ⟨u, hu, hr⟩ := h2 i x hi
  exact ⟨u, hu, hr.fr hf⟩
theorem NodesAt.form {w : World} {v : Value} {l : List (Int × List Int)} (h : NodesAt w v l) : ∃ a c, v = .slice a l.length c := by
  obtain ⟨_, ⟨_, a, c, h, _⟩, _⟩ := h
  exact ⟨a, c, h⟩
theorem NodesAt.node {w : World} {a : Option Addr} {n c : Nat} {l : List (Int × List Int)} (h : NodesAt w (.slice a n c) l) {i : Nat} {x : Int × List Int} (hi : l[i]? = some x) :
    ∃ g off ra rc, a = some ⟨g, off, none⟩ ∧ g < w.heap.size ∧ w.cell? ⟨g, off + i * 2, none⟩ = some (.int .i64 x.1) ∧ w.cell? ⟨g, off + i * 2 + 1, none⟩ = some (.slice ra x.2.length rc) ∧ IntsAt w (.slice ra x.2.length rc) x.2 := by
  obtain ⟨vs, ⟨hl, a', c', he, hp⟩, h2⟩ := h
  cases he
  obtain ⟨u, hu, hr⟩ := h2 i x hi
  obtain ⟨ra, rc, rfl⟩ := hr.form
  have hlt := (List.getElem?_eq_some_iff.1 hi).1
  obtain ⟨g, off, rfl, hg, hc⟩ := hp (by omega)
  obtain ⟨h3, h4⟩ := ncells_get hi hu
  exact ⟨g, off, ra, rc, rfl, hg, hc _ _ h3, by rw [Nat.add_assoc]; exact hc _ _ h4, hr⟩
/-- a rule whose lists are read -/
def RuleAt (w : World) (hv nv : Value) (r : Rule) : Prop := PtsAt w hv r.hood ∧ NodesAt w nv r.nodes
theorem RuleAt.fr {w w' : World} {hv nv : Value} {r : Rule} (h : RuleAt w hv nv r) (hf : Fr [] w w') : RuleAt w' hv nv r := ⟨h.1.fr hf, h.2.fr hf⟩
end Go.Proofs.Hp
end
