/- Decimal texts: digits' signs, their value. Nothing of a program. -/
import Derived.Test.YtbacamboknmppaaDoorNb
import Derived.Shelf.Strings.SlTrimAscii
namespace Go.Proofs.Bn
set_option linter.unusedVariables false
set_option linter.unusedSimpArgs false
def digB : List UInt8 := [48, 49, 50, 51, 52, 53, 54, 55, 56, 57]
theorem isdig (b : UInt8) : digB.contains b = true ↔ 48 ≤ b.toNat ∧ b.toNat ≤ 57 := by
  constructor
  · intro h
    simp [digB] at h
    rcases h with rfl | rfl | rfl | rfl | rfl | rfl | rfl | rfl | rfl | rfl <;> decide
  · intro ⟨h1, h2⟩
    have e : b = UInt8.ofNat b.toNat := by simp
    generalize b.toNat = n at *
    have hn : n = 48 ∨ n = 49 ∨ n = 50 ∨ n = 51 ∨ n = 52 ∨ n = 53 ∨ n = 54 ∨ n = 55 ∨ n = 56 ∨ n = 57 := by omega
    rw [e]
    rcases hn with rfl | rfl | rfl | rfl | rfl | rfl | rfl | rfl | rfl | rfl <;> decide
theorem all_of_drop {p : UInt8 → Bool} : ∀ {l : List UInt8}, (∀ x ∈ l.dropWhile p, p x = true) → ∀ x ∈ l, p x = true
  | [], _ => fun x hx => by cases hx
  | a :: l, h => by
    by_cases ha : p a = true
    · rw [List.dropWhile_cons, if_pos ha] at h
      intro x hx
      rcases List.mem_cons.1 hx with rfl | hx
      · exact ha
      · exact all_of_drop h x hx
    · rw [List.dropWhile_cons, if_neg ha] at h
      exact h
theorem drop_of_all {p : UInt8 → Bool} : ∀ {l : List UInt8}, (∀ x ∈ l, p x = true) → l.dropWhile p = []
  | [], _ => rfl
  | a :: l, h => by
    rw [List.dropWhile_cons, if_pos (h a (by simp))]
    exact drop_of_all fun x hx => h x (by simp [hx])
theorem trimS_nil {l cs : List UInt8} : Lib.trimS l cs = [] ↔ ∀ b ∈ l, cs.contains b = true := by
  constructor
  · intro h
    have h1 : ∀ x ∈ Lib.trimRightS l cs, cs.contains x = true := all_of_drop (p := (cs.contains ·)) (by
      have h2 : (Lib.trimRightS l cs).dropWhile (cs.contains ·) = [] := h
      rw [h2]; intro x hx; cases hx)
    have h3 : ∀ x ∈ l.reverse, cs.contains x = true := all_of_drop (p := (cs.contains ·)) (fun x hx => h1 x (by unfold Lib.trimRightS; simpa using hx))
    exact fun b hb => h3 b (by simpa using hb)
  · intro h
    have h1 : l.reverse.dropWhile (cs.contains ·) = [] := drop_of_all fun x hx => h x (by simpa using hx)
    unfold Lib.trimS Lib.trimRightS
    rw [h1]; rfl
/-- the value of decimal signs -/
def decV (ts : List UInt8) : Nat := ts.foldl (fun v c => 10 * v + (c.toNat - 48)) 0
theorem decV_snoc (ts : List UInt8) (c : UInt8) : decV (ts ++ [c]) = 10 * decV ts + (c.toNat - 48) := by unfold decV; rw [List.foldl_append]; rfl
theorem foldl_ge (ts : List UInt8) (v : Nat) : v ≤ ts.foldl (fun v c => 10 * v + (c.toNat - 48)) v := by
  induction ts generalizing v with
  | nil => exact Nat.le_refl _
  | cons c ts ih => exact Nat.le_trans (show v ≤ 10 * v + (c.toNat - 48) by omega) (ih _)
theorem decV_take_le (ts : List UInt8) (i : Nat) : decV (ts.take i) ≤ decV ts := by
  conv => rhs; rw [← List.take_append_drop i ts]
  unfold decV
  rw [List.foldl_append]
  exact foldl_ge _ _
theorem decV_take_succ {ts : List UInt8} {i : Nat} {c : UInt8} (h : ts[i]? = some c) : decV (ts.take (i + 1)) = 10 * decV (ts.take i) + (c.toNat - 48) := by
  rw [List.take_add_one, h, Option.toList_some, decV_snoc]
theorem mul10_step {B P vo c x v vl d : Nat} (h : vo + P * c = 10 * vl + d) (hv : v = x * 10 + c) : vo + P * (v % B) + P * B * (v / B) = 10 * (vl + P * x) + d := by
  have h1 := Nat.mod_add_div v B
  have h2 : P * (v % B) + P * B * (v / B) = P * v := by rw [Nat.mul_assoc, ← Nat.mul_add, h1]
  have h3 : P * v = 10 * (P * x) + P * c := by rw [hv, Nat.mul_add, ← Nat.mul_assoc, Nat.mul_comm _ 10]
  omega
theorem canon_of_ge {B : Nat} {l : List Nat} (hD : Dig B l) (h : B ^ (l.length - 1) ≤ val B l) : Canon l := by
  unfold Canon
  intro hz
  have hl : l ≠ [] := fun e => by rw [e] at hz; cases hz
  have h2 := List.dropLast_concat_getLast hl
  rw [List.getLast?_eq_some_getLast hl] at hz
  rw [Option.some.inj hz] at h2
  have h3 := val_lt (hD.take (l.length - 1))
  rw [← List.dropLast_eq_take, List.length_dropLast] at h3
  have h4 : val B l = val B l.dropLast := by conv => lhs; rw [← h2, val_snoc]; simp
  omega
end Go.Proofs.Bn
