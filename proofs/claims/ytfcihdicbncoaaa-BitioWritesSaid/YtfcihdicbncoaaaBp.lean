/- Bits, bytes and codes as lists and numbers. Nothing of a program. -/
namespace Go.Proofs.Bp
/-- the n lowest binary digits of v, the highest first -/
def digits (v n : Nat) : List Bool := (List.range n).map fun i => v.testBit (n - 1 - i)
theorem digits_length (v n : Nat) : (digits v n).length = n := by simp [digits]
theorem digits_get {v n i : Nat} (h : i < n) : (digits v n)[i]? = some (v.testBit (n - 1 - i)) := by simp [digits, h]
theorem digits_take {v n i : Nat} (h : i < n) : (digits v n).take (i + 1) = (digits v n).take i ++ [v.testBit (n - 1 - i)] := by
  rw [List.take_add_one, digits_get h]; rfl
theorem digits_zero (n : Nat) : digits 0 n = List.replicate n false := by
  apply List.ext_getElem <;> simp [digits]
/-- the code of m -/
def gcode (m : Nat) : List Bool := List.replicate m.log2 false ++ digits m (m.log2 + 1)
theorem gcode_length (m : Nat) : (gcode m).length = 2 * m.log2 + 1 := by simp [gcode, digits_length]; omega
/-- one bit more in bytes -/
def byteStep (l : List Nat) (i : Nat) (b : Bool) : List Nat :=
  let l' := if i % 8 = 0 then l ++ [0] else l
  if b then l'.set (i / 8) (l'.getD (i / 8) 0 ||| (128 >>> (i % 8))) else l'
def packFrom : List Nat → Nat → List Bool → List Nat
  | l, _, [] => l
  | l, i, b :: bs => packFrom (byteStep l i b) (i + 1) bs
/-- the bytes of bits -/
def pack (bs : List Bool) : List Nat := packFrom [] 0 bs
theorem packFrom_append : ∀ (xs ys : List Bool) (l : List Nat) (i : Nat), packFrom l i (xs ++ ys) = packFrom (packFrom l i xs) (i + xs.length) ys
  | [], _, _, _ => rfl
  | x :: xs, ys, l, i => by
    show packFrom (byteStep l i x) (i + 1) (xs ++ ys) = _
    rw [packFrom_append xs ys]
    show packFrom _ (i + 1 + xs.length) ys = packFrom _ (i + (xs.length + 1)) ys
    rw [Nat.add_assoc, Nat.add_comm 1]; rfl
theorem pack_snoc (bs : List Bool) (b : Bool) : pack (bs ++ [b]) = byteStep (pack bs) bs.length b := by
  unfold pack
  rw [packFrom_append, Nat.zero_add]; rfl
theorem byteStep_length (l : List Nat) (i : Nat) (b : Bool) : (byteStep l i b).length = if i % 8 = 0 then l.length + 1 else l.length := by
  unfold byteStep
  by_cases h : i % 8 = 0 <;> cases b <;> simp [h]
/-- induction that adds at the end -/
theorem snocInd {α : Type} {P : List α → Prop} (h0 : P []) (h1 : ∀ l x, P l → P (l ++ [x])) (l : List α) : P l := by
  have : ∀ n, ∀ l : List α, l.length = n → P l := by
    intro n
    induction n with
    | zero => intro l hl; rw [List.eq_nil_of_length_eq_zero hl]; exact h0
    | succ n ih =>
      intro l hl
      rcases List.eq_nil_or_concat l with rfl | ⟨m, x, rfl⟩
      · simp at hl
      · rw [List.concat_eq_append]
        exact h1 m x (ih m (by simpa using hl))
  exact this _ l rfl
theorem pack_length (bs : List Bool) : (pack bs).length = (bs.length + 7) / 8 := by
  induction bs using snocInd with
  | h0 => rfl
  | h1 l x ih =>
    rw [pack_snoc, byteStep_length, ih, List.length_append]
    show _ = (l.length + 1 + 7) / 8
    split <;> omega
theorem byteStep_lt {l : List Nat} (h : ∀ x ∈ l, x < 256) (i : Nat) (b : Bool) : ∀ x ∈ byteStep l i b, x < 256 := by
  have hl' : ∀ x ∈ (if i % 8 = 0 then l ++ [0] else l), x < 256 := by
    intro x hx
    split at hx
    · rw [List.mem_append] at hx
      rcases hx with hx | hx
      · exact h x hx
      · simp at hx; omega
    · exact h x hx
  intro x hx
  unfold byteStep at hx
  simp only at hx
  split at hx
  · rcases List.mem_or_eq_of_mem_set hx with hx | hx
    · exact hl' x hx
    · subst hx
      apply Nat.or_lt_two_pow (n := 8)
      · rw [List.getD_eq_getElem?_getD]
        cases hg : (if i % 8 = 0 then l ++ [0] else l)[i / 8]? with
        | none => decide
        | some y => exact hl' y (List.mem_of_getElem? hg)
      · have : 128 >>> (i % 8) ≤ 128 := by rw [Nat.shiftRight_eq_div_pow]; exact Nat.div_le_self _ _
        omega
  · exact hl' x hx
theorem pack_lt (bs : List Bool) : ∀ x ∈ pack bs, x < 256 := by
  induction bs using snocInd with
  | h0 => intro x hx; cases hx
  | h1 l x ih => rw [pack_snoc]; exact byteStep_lt ih _ _
/-- bit k of bytes -/
def bitAt (l : List Nat) (k : Nat) : Bool := (l.getD (k / 8) 0).testBit (7 - k % 8)
/-- the bits of bytes -/
def unpack (l : List Nat) : List Bool := (List.range (8 * l.length)).map (bitAt l)
theorem unpack_length (l : List Nat) : (unpack l).length = 8 * l.length := by simp [unpack]
theorem unpack_get (l : List Nat) {k : Nat} (h : k < 8 * l.length) : (unpack l)[k]? = some (bitAt l k) := by simp [unpack, h]
theorem unpack_snoc (l : List Nat) (x : Nat) : unpack (l ++ [x]) = unpack l ++ digits x 8 := by
  apply List.ext_getElem?
  intro k
  by_cases h : k < 8 * l.length
  · rw [List.getElem?_append_left (by rw [unpack_length]; exact h), unpack_get _ h, unpack_get _ (by simp; omega)]
    unfold bitAt
    rw [List.getD_eq_getElem?_getD, List.getD_eq_getElem?_getD, List.getElem?_append_left (by omega)]
  · rw [List.getElem?_append_right (by rw [unpack_length]; omega), unpack_length]
    by_cases h2 : k < 8 * (l.length + 1)
    · rw [unpack_get _ (by simp; omega), digits_get (by omega)]
      unfold bitAt
      rw [List.getD_eq_getElem?_getD, List.getElem?_append_right (by omega), show k / 8 - l.length = 0 by omega]
      show some (x.testBit (7 - k % 8)) = _
      congr 2; omega
    · rw [List.getElem?_eq_none (by rw [unpack_length]; simp; omega), List.getElem?_eq_none (by rw [digits_length]; omega)]
theorem testBit_128 {r j : Nat} (hr : r < 8) (hj : j < 8) : (128 >>> r).testBit (7 - j) = decide (j = r) := by
  have : ∀ r : Fin 8, ∀ j : Fin 8, (128 >>> r.1).testBit (7 - j.1) = decide (j.1 = r.1) := by decide
  exact this ⟨r, hr⟩ ⟨j, hj⟩
theorem bitAt_step {l : List Nat} {i : Nat} (hl : l.length = (i + 7) / 8) (h0 : ∀ k, i ≤ k → bitAt l k = false) (b : Bool) (k : Nat) : bitAt (byteStep l i b) k = if k = i then b else bitAt l k := by
  have hl' : ∀ k, bitAt (if i % 8 = 0 then l ++ [0] else l) k = bitAt l k := by
    intro k
    split
    · unfold bitAt
      rw [List.getD_eq_getElem?_getD, List.getD_eq_getElem?_getD]
      rcases Nat.lt_trichotomy (k / 8) l.length with h | h | h
      · rw [List.getElem?_append_left h]
      · rw [List.getElem?_append_right (by omega), show k / 8 - l.length = 0 by omega, List.getElem?_eq_none (l := l) (by omega)]; rfl
      · rw [List.getElem?_eq_none (by simp; omega), List.getElem?_eq_none (by omega)]
    · rfl
  unfold byteStep
  simp only
  cases b
  · simp only [Bool.false_eq_true, if_false]
    rw [hl']
    split
    · rename_i h; rw [h]; exact h0 i (Nat.le_refl _)
    · rfl
  · simp only [if_true]
    have hlen : i / 8 < (if i % 8 = 0 then l ++ [0] else l).length := by
      split
      · simp; omega
      · omega
    have h1 := hl' k
    have h1i := hl' i
    generalize (if i % 8 = 0 then l ++ [0] else l) = m at *
    by_cases hk : k / 8 = i / 8
    · have e : (m.set (i / 8) (m.getD (i / 8) 0 ||| 128 >>> (i % 8))).getD (k / 8) 0 = m.getD (i / 8) 0 ||| 128 >>> (i % 8) := by
        rw [hk, List.getD_eq_getElem?_getD, List.getElem?_set_self hlen]; rfl
      unfold bitAt
      rw [e, Nat.testBit_or, testBit_128 (by omega) (by omega)]
      unfold bitAt at h1
      rw [hk] at h1
      rw [h1]
      by_cases hki : k = i
      · subst hki; simp
      · rw [if_neg hki]
        have : ¬ k % 8 = i % 8 := by omega
        simp [this, hk]
    · have e : (m.set (i / 8) (m.getD (i / 8) 0 ||| 128 >>> (i % 8))).getD (k / 8) 0 = m.getD (k / 8) 0 := by
        rw [List.getD_eq_getElem?_getD, List.getElem?_set_ne (by omega), List.getD_eq_getElem?_getD]
      have hki : ¬ k = i := by intro e; rw [e] at hk; exact hk rfl
      rw [if_neg hki, ← h1]
      unfold bitAt
      rw [e]
theorem bitAt_pack (bs : List Bool) : ∀ k, bitAt (pack bs) k = bs.getD k false := by
  induction bs using snocInd with
  | h0 => intro k; simp [pack, packFrom, bitAt]
  | h1 l x ih =>
    intro k
    rw [pack_snoc, bitAt_step (pack_length l) (fun k hk => by rw [ih, List.getD_eq_getElem?_getD, List.getElem?_eq_none hk]; rfl), ih]
    rw [List.getD_eq_getElem?_getD, List.getD_eq_getElem?_getD]
    rcases Nat.lt_trichotomy k l.length with h | h | h
    · rw [if_neg (by omega), List.getElem?_append_left h]
    · subst h; rw [if_pos rfl, List.getElem?_append_right (Nat.le_refl _)]; simp
    · rw [if_neg (by omega), List.getElem?_eq_none (by omega), List.getElem?_eq_none (by simp; omega)]
/-- reading back what was written -/
theorem unpack_pack (bs : List Bool) : ∃ z, z < 8 ∧ unpack (pack bs) = bs ++ List.replicate z false := by
  refine ⟨8 * ((bs.length + 7) / 8) - bs.length, by omega, ?_⟩
  apply List.ext_getElem?
  intro k
  by_cases h : k < 8 * ((bs.length + 7) / 8)
  · rw [unpack_get _ (by rw [pack_length]; exact h), bitAt_pack, List.getD_eq_getElem?_getD]
    by_cases h2 : k < bs.length
    · rw [List.getElem?_append_left h2, List.getElem?_eq_getElem h2]; rfl
    · rw [List.getElem?_append_right (by omega), List.getElem?_eq_none (by omega), List.getElem?_replicate, if_pos (by omega)]; rfl
  · rw [List.getElem?_eq_none (by rw [unpack_length, pack_length]; omega), List.getElem?_eq_none (by simp; omega)]
/-! ### Numbers from bits -/
def num (l : List Bool) : Nat := l.foldl (fun v b => 2 * v + b.toNat) 0
theorem num_snoc (l : List Bool) (b : Bool) : num (l ++ [b]) = 2 * num l + b.toNat := by simp [num]
theorem num_lt (l : List Bool) : num l < 2 ^ l.length := by
  induction l using snocInd with
  | h0 => decide
  | h1 l b ih =>
    rw [num_snoc, List.length_append]
    show _ < 2 ^ (l.length + 1)
    rw [Nat.pow_succ]
    have : b.toNat ≤ 1 := by cases b <;> decide
    omega
theorem digits_succ (v n : Nat) : digits v (n + 1) = digits (v / 2) n ++ [v.testBit 0] := by
  apply List.ext_getElem?
  intro i
  by_cases h : i < n
  · rw [digits_get (by omega), List.getElem?_append_left (by rw [digits_length]; exact h), digits_get h]
    congr 1
    rw [Nat.testBit_div_two]
    congr 1; omega
  · by_cases h2 : i = n
    · subst h2
      rw [digits_get (by omega), List.getElem?_append_right (by rw [digits_length]; omega), digits_length]
      simp
    · rw [List.getElem?_eq_none (by rw [digits_length]; omega), List.getElem?_eq_none (by simp [digits_length]; omega)]
theorem num_digits : ∀ (n v : Nat), v < 2 ^ n → num (digits v n) = v
  | 0, v, h => by
    have : v = 0 := by simpa using h
    subst this; rfl
  | n + 1, v, h => by
    rw [digits_succ, num_snoc, num_digits n (v / 2) (by rw [Nat.pow_succ] at h; omega)]
    have : (v.testBit 0).toNat = v % 2 := by
      rw [Nat.testBit_zero]
      rcases Nat.mod_two_eq_zero_or_one v with h | h <;> simp [h]
    omega
theorem digits_num (l : List Bool) : digits (num l) l.length = l := by
  induction l using snocInd with
  | h0 => rfl
  | h1 l b ih =>
    rw [List.length_append]
    show digits _ (l.length + 1) = _
    rw [num_snoc, digits_succ]
    have h1 : (2 * num l + b.toNat) / 2 = num l := by cases b <;> simp <;> omega
    have h2 : (2 * num l + b.toNat).testBit 0 = b := by rw [Nat.testBit_zero]; cases b <;> simp <;> omega
    rw [h1, h2, ih]
/-- the zeros ahead -/
def zeros (l : List Bool) : Nat := (l.takeWhile fun b => !b).length
theorem zeros_le (l : List Bool) : zeros l ≤ l.length := (List.takeWhile_sublist _).length_le
theorem zeros_eq {l : List Bool} {k : Nat} (h0 : ∀ j, j < k → l[j]? = some false) (h1 : l[k]? ≠ some false) : zeros l = k := by
  induction l generalizing k with
  | nil =>
    cases k with
    | zero => rfl
    | succ k => have := h0 0 (by omega); simp at this
  | cons x l ih =>
    cases k with
    | zero =>
      cases x
      · exact absurd rfl h1
      · rfl
    | succ k =>
      have := h0 0 (by omega)
      simp at this
      subst this
      show zeros l + 1 = k + 1 
      rw [ih (k := k) (fun j hj => by have := h0 (j + 1) (by omega); simpa using this) (by simpa using h1)]
theorem zeros_ge {l : List Bool} {k : Nat} (h0 : ∀ j, j < k → l[j]? = some false) : k ≤ zeros l := by
  induction l generalizing k with
  | nil =>
    cases k with
    | zero => simp
    | succ k => have := h0 0 (by omega); simp at this
  | cons x l ih =>
    cases k with
    | zero => omega
    | succ k =>
      have := h0 0 (by omega)
      simp at this
      subst this
      show k + 1 ≤ zeros l + 1
      have := ih (k := k) (fun j hj => by have := h0 (j + 1) (by omega); simpa using this)
      omega
theorem zeros_get {l : List Bool} {j : Nat} (h : j < zeros l) : l[j]? = some false := by
  induction l generalizing j with
  | nil => simp [zeros] at h
  | cons x l ih =>
    cases x
    · cases j with
      | zero => rfl
      | succ j =>
        have : j + 1 < zeros l + 1 := h
        simpa using ih (j := j) (by omega)
    · have : j < 0 := h
      omega
theorem zeros_end {l : List Bool} (h : zeros l < l.length) : l[zeros l]? = some true := by
  induction l with
  | nil => simp [zeros] at h
  | cons x l ih =>
    cases x
    · have h' : zeros l + 1 < l.length + 1 := h
      show (false :: l)[zeros l + 1]? = _
      simpa using ih (by omega)
    · rfl
end Go.Proofs.Bp
