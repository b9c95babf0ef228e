/- Sums, differences, products, shifts and quotients of digits. Nothing of a program. -/
import Derived.Test.YtbacamboknmppaaDoorNa
namespace Go.Proofs.Bn
set_option linter.unusedVariables false
set_option linter.unusedSimpArgs false
/-! ### Comparing -/
theorem val_lt_len {B : Nat} (hB : 2 ≤ B) {a b : List Nat} (ha : Dig B a) (hb : Dig B b) (cb : Canon b) (h : a.length < b.length) : val B a < val B b := by
  have h1 := val_lt ha
  have h2 := canon_le hB hb cb (fun e => by rw [e] at h; cases h)
  exact Nat.lt_of_lt_of_le h1 (Nat.le_trans (Nat.pow_le_pow_right (by omega) (by omega)) h2)
theorem val_lt_top {B : Nat} (hB : 0 < B) {a b : List Nat} (ha : Dig B a) (hb : Dig B b) {i : Nat} (hi : i < a.length) (hl : a.length = b.length) (hd : a.drop (i + 1) = b.drop (i + 1)) (h : a.getD i 0 < b.getD i 0) : val B a < val B b := by
  rw [val_take_drop B a i (by omega), val_take_drop B b i (by omega), val_drop B a i, val_drop B b i, hd]
  have h1 := val_lt (ha.take i)
  rw [List.length_take, Nat.min_eq_left (by omega)] at h1
  have h2 : B ^ i * (a.getD i 0 + B * val B (b.drop (i + 1))) + B ^ i ≤ B ^ i * (b.getD i 0 + B * val B (b.drop (i + 1))) := by
    rw [← Nat.mul_succ]
    exact Nat.mul_le_mul_left _ (by omega)
  omega
theorem drop_eq_succ {a b : List Nat} {i : Nat} (hi : i < a.length) (hl : a.length = b.length) (hd : a.drop (i + 1) = b.drop (i + 1)) (h : a.getD i 0 = b.getD i 0) : a.drop i = b.drop i := by
  rw [List.drop_eq_getElem_cons hi, List.drop_eq_getElem_cons (by omega : i < b.length), hd]
  congr 1
  rw [List.getD_eq_getElem?_getD, List.getD_eq_getElem?_getD, List.getElem?_eq_getElem hi, List.getElem?_eq_getElem (by omega)] at h
  exact h
/-! ### Sums -/
/-- one place of a sum: the digits so far and the carry -/
theorem sum_step {B va vb vo c x y s P : Nat} (hB : 0 < B) (h : vo + P * c = va + vb) (hs : s = c + x + y) : vo + P * (s % B) + P * B * (s / B) = va + P * x + (vb + P * y) := by
  have h1 := Nat.mod_add_div s B
  have h2 : P * (s % B) + P * B * (s / B) = P * s := by rw [Nat.mul_assoc, ← Nat.mul_add, h1]
  have h3 : P * s = P * c + P * x + P * y := by rw [hs, Nat.mul_add, Nat.mul_add]
  omega
/-- one place of a difference: d = x - y - c, and the borrow -/
theorem diff_step {B va vb vo c x y d c' P : Nat} (h : vo + vb = va + P * c) (hd : d + y + c = x + B * c') : vo + P * d + (vb + P * y) = va + P * x + P * B * c' := by
  have h1 : P * d + P * y + P * c = P * x + P * B * c' := by rw [← Nat.mul_add, ← Nat.mul_add, hd, Nat.mul_add, Nat.mul_assoc]
  omega
/-- one place of a product with a digit -/
theorem mul_step {B c x y o s P V0 V vy : Nat} (hB : 0 < B) (h : V + P * c = V0 + vy) (hs : s = x * y + o + c) : V - P * o + P * (s % B) + P * B * (s / B) + P * o = V0 + (vy + P * (x * y)) + (P * o) + (V - P * o + P * o - V) := by
  have h1 := Nat.mod_add_div s B
  have h2 : P * (s % B) + P * B * (s / B) = P * s := by rw [Nat.mul_assoc, ← Nat.mul_add, h1]
  have h3 : P * s = P * (x * y) + P * o + P * c := by rw [hs, Nat.mul_add, Nat.mul_add]
  omega
theorem val_set {B : Nat} : ∀ {l : List Nat} {i : Nat} (d : Nat), i < l.length → val B (l.set i d) + B ^ i * l.getD i 0 = val B l + B ^ i * d
  | x :: l, 0, d, _ => by simp [val]; omega
  | x :: l, i + 1, d, h => by
    have ih := val_set (B := B) (l := l) (i := i) d (by simpa using h)
    rw [List.set_cons_succ, val, val, List.getD_cons_succ, Nat.pow_succ]
    have e1 : B ^ i * B * l.getD i 0 = B * (B ^ i * l.getD i 0) := by rw [Nat.mul_comm (B ^ i) B, Nat.mul_assoc]
    have e2 : B ^ i * B * d = B * (B ^ i * d) := by rw [Nat.mul_comm (B ^ i) B, Nat.mul_assoc]
    rw [e1, e2, Nat.add_assoc, Nat.add_assoc, ← Nat.mul_add, ← Nat.mul_add, ih]
  | [], _, d, h => by simp at h
end Go.Proofs.Bn
