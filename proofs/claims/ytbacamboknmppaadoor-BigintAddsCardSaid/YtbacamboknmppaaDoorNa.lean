/- Numbers as lists of digits. Nothing of a program. -/
namespace Go.Proofs.Bn
set_option linter.unusedVariables false
set_option linter.unusedSimpArgs false
/-- the value of digits, the lowest first -/
def val (B : Nat) : List Nat → Nat
  | [] => 0
  | d :: l => d + B * val B l
def Dig (B : Nat) (l : List Nat) : Prop := ∀ d ∈ l, d < B
theorem val_append (B : Nat) : ∀ (l m : List Nat), val B (l ++ m) = val B l + B ^ l.length * val B m
  | [], m => by simp [val]
  | d :: l, m => by
    rw [List.cons_append, val, val, val_append B l m, List.length_cons, Nat.pow_succ]
    rw [Nat.mul_add, Nat.add_assoc]
    congr 2
    rw [← Nat.mul_assoc, Nat.mul_comm B]
theorem val_snoc (B : Nat) (l : List Nat) (d : Nat) : val B (l ++ [d]) = val B l + B ^ l.length * d := by
  rw [val_append]; simp [val]
theorem Dig.tail {B : Nat} {d : Nat} {l : List Nat} (h : Dig B (d :: l)) : Dig B l := fun x hx => h x (by simp [hx])
theorem Dig.head {B : Nat} {d : Nat} {l : List Nat} (h : Dig B (d :: l)) : d < B := h d (by simp)
theorem Dig.take {B : Nat} {l : List Nat} (h : Dig B l) (i : Nat) : Dig B (l.take i) := fun x hx => h x (List.mem_of_mem_take hx)
theorem Dig.drop {B : Nat} {l : List Nat} (h : Dig B l) (i : Nat) : Dig B (l.drop i) := fun x hx => h x (List.mem_of_mem_drop hx)
theorem Dig.append {B : Nat} {l m : List Nat} (h : Dig B l) (k : Dig B m) : Dig B (l ++ m) := fun x hx => by
  rw [List.mem_append] at hx
  rcases hx with hx | hx
  · exact h x hx
  · exact k x hx
theorem Dig.set {B : Nat} {l : List Nat} (h : Dig B l) {i d : Nat} (hd : d < B) : Dig B (l.set i d) := fun x hx => by
  rcases List.mem_or_eq_of_mem_set hx with hx | rfl
  · exact h x hx
  · exact hd
theorem Dig.getD {B : Nat} {l : List Nat} (h : Dig B l) (hB : 0 < B) (i : Nat) : l.getD i 0 < B := by
  rw [List.getD_eq_getElem?_getD]
  by_cases hi : i < l.length
  · rw [List.getElem?_eq_getElem hi]; exact h _ (List.getElem_mem _)
  · rw [List.getElem?_eq_none (by omega)]; exact hB
theorem Dig.replicate {B : Nat} (hB : 0 < B) (n : Nat) : Dig B (List.replicate n 0) := fun x hx => by
  rw [List.mem_replicate] at hx; omega
theorem Dig.nil {B : Nat} : Dig B [] := fun x hx => by cases hx
theorem val_lt {B : Nat} : ∀ {l : List Nat}, Dig B l → val B l < B ^ l.length
  | [], _ => by simp [val]
  | d :: l, h => by
    have h1 := h.head
    have h2 := val_lt h.tail
    rw [val, List.length_cons, Nat.pow_succ]
    have : B * val B l + B ≤ B * B ^ l.length := by
      rw [← Nat.mul_succ]; exact Nat.mul_le_mul_left _ h2
    rw [Nat.mul_comm (B ^ l.length)]
    omega
theorem val_replicate (B n : Nat) : val B (List.replicate n 0) = 0 := by
  induction n with
  | zero => rfl
  | succ n ih => rw [List.replicate_succ, val, ih]; simp
/-- the lower digits and the upper ones -/
theorem val_take_drop (B : Nat) (l : List Nat) (i : Nat) (h : i ≤ l.length) : val B l = val B (l.take i) + B ^ i * val B (l.drop i) := by
  have := val_append B (l.take i) (l.drop i)
  rw [List.take_append_drop, List.length_take, Nat.min_eq_left h] at this
  exact this
theorem val_take_succ (B : Nat) (l : List Nat) (i : Nat) : val B (l.take (i + 1)) = val B (l.take i) + B ^ i * l.getD i 0 := by
  by_cases h : i < l.length
  · rw [List.take_add_one, List.getElem?_eq_getElem h, Option.toList_some, val_snoc, List.length_take, Nat.min_eq_left (by omega), List.getD_eq_getElem?_getD, List.getElem?_eq_getElem h]; rfl
  · rw [List.take_of_length_le (by omega), List.take_of_length_le (by omega), List.getD_eq_getElem?_getD, List.getElem?_eq_none (by omega)]
    simp
theorem val_drop (B : Nat) (l : List Nat) (i : Nat) : val B (l.drop i) = l.getD i 0 + B * val B (l.drop (i + 1)) := by
  by_cases h : i < l.length
  · rw [List.drop_eq_getElem_cons h, val, List.getD_eq_getElem?_getD, List.getElem?_eq_getElem h]; rfl
  · rw [List.drop_eq_nil_of_le (by omega), List.drop_eq_nil_of_le (by omega), List.getD_eq_getElem?_getD, List.getElem?_eq_none (by omega)]
    simp [val]
theorem val_div {B : Nat} {l : List Nat} (h : Dig B l) {i : Nat} (hi : i ≤ l.length) : val B l / B ^ i = val B (l.drop i) := by
  have h1 := val_take_drop B l i hi
  have h2 := val_lt (h.take i)
  rw [List.length_take, Nat.min_eq_left hi] at h2
  rw [h1, Nat.add_mul_div_left _ _ (by omega), Nat.div_eq_of_lt h2, Nat.zero_add]
theorem val_mod {B : Nat} {l : List Nat} (h : Dig B l) {i : Nat} (hi : i ≤ l.length) : val B l % B ^ i = val B (l.take i) := by
  have h1 := val_take_drop B l i hi
  have h2 := val_lt (h.take i)
  rw [List.length_take, Nat.min_eq_left hi] at h2
  rw [h1, Nat.add_mul_mod_self_left, Nat.mod_eq_of_lt h2]
theorem val_digit {B : Nat} {l : List Nat} (h : Dig B l) (hB : 0 < B) (i : Nat) : val B l / B ^ i % B = l.getD i 0 := by
  by_cases hi : i ≤ l.length
  · rw [val_div h hi, val_drop, Nat.add_mul_mod_self_left, Nat.mod_eq_of_lt (h.getD hB i)]
  · have := val_lt h
    rw [List.getD_eq_getElem?_getD, List.getElem?_eq_none (by omega), Nat.div_eq_of_lt (Nat.lt_of_lt_of_le this (Nat.pow_le_pow_right hB (by omega)))]
    simp
/-- equal digits up to a place, equal values -/
theorem val_of_digits {B X : Nat} (hB : 0 < B) : ∀ {l : List Nat}, (∀ i, i < l.length → l.getD i 0 = X / B ^ i % B) → val B l = X % B ^ l.length := by
  intro l
  have key : ∀ i, i ≤ l.length → (∀ i, i < l.length → l.getD i 0 = X / B ^ i % B) → val B (l.take i) = X % B ^ i := by
    intro i
    induction i with
    | zero => intro _ _; simp [val, Nat.mod_one]
    | succ i ih =>
      intro hi h
      rw [val_take_succ, ih (by omega) h, h i (by omega), Nat.pow_succ, Nat.mod_mul]
  intro h
  have := key l.length (Nat.le_refl _) h
  rwa [List.take_length] at this
/-- without zeros on top -/
def Canon (l : List Nat) : Prop := l.getLast? ≠ some 0
instance (l : List Nat) : Decidable (Canon l) := by unfold Canon; exact inferInstance
/-- the digits of a number -/
def dg (B n : Nat) : List Nat := if h : n = 0 ∨ B < 2 then [] else n % B :: dg B (n / B)
termination_by n
decreasing_by exact Nat.div_lt_self (by omega) (by omega)
theorem dg_zero (B : Nat) : dg B 0 = [] := by rw [dg, dif_pos (.inl rfl)]
theorem dg_succ {B n : Nat} (hB : 2 ≤ B) (hn : n ≠ 0) : dg B n = n % B :: dg B (n / B) := by rw [dg, dif_neg (by omega)]
theorem val_dg {B : Nat} (hB : 2 ≤ B) (n : Nat) : val B (dg B n) = n := by
  induction n using Nat.strongRecOn with
  | ind n ih =>
    by_cases hn : n = 0
    · subst hn; rw [dg_zero]; rfl
    · rw [dg_succ hB hn, val, ih _ (Nat.div_lt_self (by omega) (by omega)), Nat.mod_add_div]
theorem dg_dig {B : Nat} (hB : 2 ≤ B) (n : Nat) : Dig B (dg B n) := by
  induction n using Nat.strongRecOn with
  | ind n ih =>
    by_cases hn : n = 0
    · subst hn; rw [dg_zero]; exact Dig.nil
    · rw [dg_succ hB hn]
      intro d hd
      rcases List.mem_cons.1 hd with rfl | hd
      · exact Nat.mod_lt _ (by omega)
      · exact ih _ (Nat.div_lt_self (by omega) (by omega)) d hd
theorem dg_eq_nil {B : Nat} (hB : 2 ≤ B) {n : Nat} : dg B n = [] ↔ n = 0 := by
  constructor
  · intro h
    have := val_dg hB n
    rw [h] at this
    exact this.symm
  · rintro rfl; exact dg_zero B
theorem dg_canon {B : Nat} (hB : 2 ≤ B) (n : Nat) : Canon (dg B n) := by
  induction n using Nat.strongRecOn with
  | ind n ih =>
    by_cases hn : n = 0
    · subst hn; rw [dg_zero]; unfold Canon; simp
    · have ih' := ih _ (Nat.div_lt_self (by omega) (by omega) : n / B < n)
      rw [dg_succ hB hn]
      unfold Canon at *
      by_cases h : dg B (n / B) = []
      · rw [h]
        rw [dg_eq_nil hB] at h
        simp only [List.getLast?_singleton, ne_eq, Option.some.injEq]
        intro hz
        have := Nat.mod_add_div n B
        rw [h, hz] at this
        simp at this
        omega
      · rwa [List.getLast?_cons, List.getLast?_eq_some_getLast h, Option.getD_some, ← List.getLast?_eq_some_getLast h]
theorem canon_tail {d : Nat} {l : List Nat} (h : Canon (d :: l)) : Canon l := by
  unfold Canon at *
  cases l with
  | nil => simp
  | cons x l => rwa [List.getLast?_cons_cons] at h
theorem canon_pos {B : Nat} (hB : 0 < B) : ∀ {l : List Nat}, Canon l → l ≠ [] → 0 < val B l
  | [], _, h => absurd rfl h
  | [d], h, _ => by
    unfold Canon at h
    simp at h
    rw [val]; omega
  | d :: x :: l, h, _ => by
    have := canon_pos hB (canon_tail h) (by simp)
    rw [val]
    have := Nat.mul_pos hB this
    omega
theorem dg_val {B : Nat} (hB : 2 ≤ B) : ∀ {l : List Nat}, Dig B l → Canon l → dg B (val B l) = l
  | [], _, _ => dg_zero B
  | d :: l, h, c => by
    have hp := canon_pos (by omega : 0 < B) c (by simp)
    have h1 := h.head
    have ih := dg_val hB h.tail (canon_tail c)
    rw [dg_succ hB (by omega)]
    have e1 : val B (d :: l) % B = d := by rw [val, Nat.add_mul_mod_self_left, Nat.mod_eq_of_lt h1]
    have e2 : val B (d :: l) / B = val B l := by rw [val, Nat.add_mul_div_left _ _ (by omega), Nat.div_eq_of_lt h1, Nat.zero_add]
    rw [e1, e2, ih]
theorem dg_length_le {B : Nat} (hB : 2 ≤ B) (k : Nat) : ∀ {n : Nat}, (dg B n).length ≤ k ↔ n < B ^ k := by
  induction k with
  | zero =>
    intro n
    rw [Nat.pow_zero, Nat.le_zero, List.length_eq_zero_iff, dg_eq_nil hB]
    omega
  | succ k ih =>
    intro n
    by_cases hn : n = 0
    · subst hn
      rw [dg_zero]
      simp
      exact Nat.pow_pos (by omega)
    · rw [dg_succ hB hn, List.length_cons, Nat.add_le_add_iff_right, ih, Nat.pow_succ, Nat.div_lt_iff_lt_mul (by omega)]
theorem canon_le {B : Nat} (hB : 2 ≤ B) {l : List Nat} (h : Dig B l) (c : Canon l) (hl : l ≠ []) : B ^ (l.length - 1) ≤ val B l := by
  have h1 := dg_val hB h c
  rcases Nat.lt_or_ge (val B l) (B ^ (l.length - 1)) with hlt | hge
  · have := (dg_length_le hB (l.length - 1)).2 hlt
    rw [h1] at this
    have := List.length_pos_iff.2 hl
    omega
  · exact hge
/-- zeros on top cut off -/
def trimL (B : Nat) (l : List Nat) : List Nat := dg B (val B l)
theorem trimL_zero {B : Nat} (l : List Nat) : trimL B (l ++ [0]) = trimL B l := by unfold trimL; rw [val_snoc]; simp
theorem trimL_nil (B : Nat) : trimL B [] = [] := dg_zero B
theorem canon_snoc {l : List Nat} {d : Nat} (h : d ≠ 0) : Canon (l ++ [d]) := by unfold Canon; simpa using h
theorem trimL_canon {B : Nat} (hB : 2 ≤ B) {l : List Nat} (h : Dig B l) (c : Canon l) : trimL B l = l := dg_val hB h c
theorem trimL_prefix {B : Nat} (hB : 2 ≤ B) : ∀ (n : Nat) {l : List Nat}, l.length = n → Dig B l → ∃ k, k ≤ l.length ∧ trimL B l = l.take k
  | 0, l, hn, h => by
    obtain rfl := List.eq_nil_of_length_eq_zero hn
    exact ⟨0, by simp, dg_zero B⟩
  | n + 1, l, hn, h => by
    have hl : l ≠ [] := fun e => by rw [e] at hn; cases hn
    by_cases c : Canon l
    · exact ⟨l.length, Nat.le_refl _, by rw [List.take_length]; exact trimL_canon hB h c⟩
    · have hz : l.getLast? = some 0 := by unfold Canon at c; exact Classical.not_not.1 c
      have hs : l.take n ++ [0] = l := by
        have h2 := List.dropLast_concat_getLast hl
        rw [List.getLast?_eq_some_getLast hl] at hz
        rw [Option.some.inj hz] at h2
        rw [← h2]
        congr 1
        rw [List.dropLast_eq_take, hn]
        simp
        rw [List.take_append_of_le_length (by simp; omega), List.take_take]
        simp
      obtain ⟨k, hk, hp⟩ := trimL_prefix hB n (l := l.take n) (by rw [List.length_take]; omega) (h.take n)
      rw [List.length_take] at hk
      refine ⟨k, by omega, ?_⟩
      rw [← hs, trimL_zero, hp, List.take_append_of_le_length (by rw [List.length_take]; omega)]
end Go.Proofs.Bn
