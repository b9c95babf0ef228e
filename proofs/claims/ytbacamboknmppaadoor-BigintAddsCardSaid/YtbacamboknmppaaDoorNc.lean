/- Dividing two words by one: the half step. Nothing of a program. -/
namespace Go.Proofs.Bn
set_option linter.unusedVariables false
set_option linter.unusedSimpArgs false
/-- a half step: the divisor's halves, the dividend's top, and its next half -/
structure Half (y y1 y0 U u1 : Nat) : Prop where
  split : y = y1 * 4294967296 + y0
  top : 2147483648 ≤ y1
  le1 : y1 < 4294967296
  le0 : y0 < 4294967296
  less : U < y
  next : u1 < 4294967296
theorem Half.pos {y y1 y0 U u1 : Nat} (h : Half y y1 y0 U u1) : 0 < y := by have := h.split; have := h.top; omega
theorem Half.q_lt {y y1 y0 U u1 : Nat} (h : Half y y1 y0 U u1) : (U * 4294967296 + u1) / y < 4294967296 := by
  rw [Nat.div_lt_iff_lt_mul h.pos]
  have := h.less; have := h.next
  have : (U + 1) * 4294967296 ≤ y * 4294967296 := Nat.mul_le_mul_right _ h.less
  rw [Nat.mul_comm 4294967296 y]
  omega
theorem Half.top_le {y y1 y0 U u1 : Nat} (h : Half y y1 y0 U u1) : (U * 4294967296 + u1) / y ≤ U / y1 := by
  rw [Nat.le_div_iff_mul_le (by have := h.top; omega)]
  have h1 := Nat.div_mul_le_self (U * 4294967296 + u1) y
  generalize (U * 4294967296 + u1) / y = q at *
  rw [h.split, Nat.mul_add, ← Nat.mul_assoc] at h1
  have := h.next
  generalize q * y1 = z at *
  generalize q * y0 = z0 at *
  omega
theorem Half.est {y y1 y0 U u1 : Nat} (h : Half y y1 y0 U u1) : U / y1 ≤ 4294967297 := by
  have hp : 0 < y1 := by have := h.top; omega
  rw [← Nat.lt_succ_iff, Nat.div_lt_iff_lt_mul hp]
  have := h.less; have := h.split; have := h.top; have := h.le0
  omega
theorem Half.split_q {y y1 y0 U u1 Q R : Nat} (h : Half y y1 y0 U u1) (hQ : Q * y1 + R = U) : Q * y + (R * 4294967296 + u1) = U * 4294967296 + u1 + Q * y0 := by
  rw [h.split, Nat.mul_add, ← Nat.mul_assoc, ← hQ, Nat.add_mul]
  omega
theorem Half.less_q {y y1 y0 U u1 Q R : Nat} (h : Half y y1 y0 U u1) (hQ : Q * y1 + R = U) (hle : (U * 4294967296 + u1) / y ≤ Q) (hc : 4294967296 ≤ Q ∨ 4294967296 * R + u1 < Q * y0) : (U * 4294967296 + u1) / y ≤ Q - 1 ∧ 1 ≤ Q ∧ (Q - 1) * y1 + (R + y1) = U := by
  have h1 := h.q_lt
  have h2 := h.split_q hQ
  have hQ1 : 1 ≤ Q := by
    rcases hc with hc | hc
    · omega
    · rcases Nat.eq_zero_or_pos Q with h0 | h0
      · subst h0; simp at hc
      · exact h0
  refine ⟨?_, hQ1, ?_⟩
  · rcases hc with hc | hc
    · omega
    · have : (U * 4294967296 + u1) / y < Q := by
        rw [Nat.div_lt_iff_lt_mul h.pos]
        omega
      omega
  · obtain ⟨q, rfl⟩ : ∃ q, Q = q + 1 := ⟨Q - 1, by omega⟩
    rw [← hQ, Nat.add_mul]; simp; omega
theorem Half.done {y y1 y0 U u1 Q R : Nat} (h : Half y y1 y0 U u1) (hQ : Q * y1 + R = U) (hle : (U * 4294967296 + u1) / y ≤ Q) (hc : Q * y0 ≤ 4294967296 * R + u1) : Q = (U * 4294967296 + u1) / y := by
  have h2 := h.split_q hQ
  refine Nat.le_antisymm ?_ hle
  rw [Nat.le_div_iff_mul_le h.pos]
  omega
theorem Half.broke {y y1 y0 U u1 Q R : Nat} (h : Half y y1 y0 U u1) (hQ : Q * y1 + R = U) (hle : (U * 4294967296 + u1) / y ≤ Q) (hb : Q ≤ 4294967296) (hR : 4294967296 ≤ R) : Q = (U * 4294967296 + u1) / y := by
  refine h.done hQ hle ?_
  have h1 : Q * y0 ≤ 4294967296 * y0 := Nat.mul_le_mul_right _ hb
  have := h.le0
  omega
theorem Half.prod_lt {y y1 y0 U u1 Q : Nat} (h : Half y y1 y0 U u1) (hb : Q < 4294967296) : Q * y0 < 18446744073709551616 := by
  have h1 : Q * y0 ≤ 4294967296 * y0 := Nat.mul_le_mul_right _ (by omega)
  have := h.le0
  omega
/-- what is left, in words of 64 bits -/
theorem rest_wrap {N y q : Nat} (hq : q = N / y) (hy : 0 < y) (hl : y < 18446744073709551616) : ((N : Int) % 18446744073709551616 - ((q * y : Nat) : Int) % 18446744073709551616) % 18446744073709551616 = ((N % y : Nat) : Int) := by
  have h1 := Nat.mod_add_div N y
  rw [← hq, Nat.mul_comm] at h1
  have h2 := Nat.mod_lt N hy
  omega
theorem two_halves {y N u0 : Nat} (hy : 0 < y) : N / y * 4294967296 + (N % y * 4294967296 + u0) / y = (N * 4294967296 + u0) / y ∧ (N % y * 4294967296 + u0) % y = (N * 4294967296 + u0) % y := by
  have h1 := Nat.mod_add_div N y
  have e : N * 4294967296 + u0 = (N % y * 4294967296 + u0) + y * (N / y * 4294967296) := by
    conv => lhs; rw [← h1]
    rw [Nat.add_mul, Nat.mul_assoc]
    omega
  rw [e, Nat.add_mul_div_left _ _ hy, Nat.add_mul_mod_self_left]
  refine ⟨Nat.add_comm _ _, ?_⟩
  exact Eq.refl _
/-- the operands moved up -/
theorem norm_facts {hi lo y s : Nat} (hlo : lo < 18446744073709551616) (hhi : hi < y) (hs : s ≤ 64) (h2 : y * 2 ^ s < 18446744073709551616) :
    hi * 2 ^ s < y * 2 ^ s ∧ (hi * 2 ^ s) ||| (lo / 2 ^ (64 - s)) = hi * 2 ^ s + lo / 2 ^ (64 - s) ∧ hi * 2 ^ s + lo / 2 ^ (64 - s) < y * 2 ^ s ∧ (hi * 2 ^ s + lo / 2 ^ (64 - s)) * 18446744073709551616 + lo * 2 ^ s % 18446744073709551616 = (hi * 18446744073709551616 + lo) * 2 ^ s := by
  have hp := Nat.pow_pos (n := s) (show 0 < 2 by omega)
  have hpp : 2 ^ (64 - s) * 2 ^ s = 18446744073709551616 := by rw [← Nat.pow_add, show 64 - s + s = 64 by omega]
  have hq := Nat.pow_pos (n := 64 - s) (show 0 < 2 by omega)
  generalize hS : 2 ^ s = S at *
  generalize 2 ^ (64 - s) = P at *
  have hL : lo / P < S := by rw [Nat.div_lt_iff_lt_mul hq, Nat.mul_comm, hpp]; exact hlo
  have hlt : hi * S + S ≤ y * S := by rw [← Nat.succ_mul]; exact Nat.mul_le_mul_right _ hhi
  have hor : hi * S ||| lo / P = hi * S + lo / P := by
    subst hS
    have := Nat.two_pow_add_eq_or_of_lt (i := s) hL hi
    rw [Nat.mul_comm hi]
    exact this.symm
  have hdm := Nat.mod_add_div lo P
  have hml := Nat.mod_lt lo hq
  have e1 : lo * S = lo % P * S + lo / P * 18446744073709551616 := by
    conv => lhs; rw [← hdm, Nat.add_mul, Nat.mul_comm P, Nat.mul_assoc, hpp]
  have e2 : lo % P * S < 18446744073709551616 := by
    have : (lo % P + 1) * S ≤ P * S := Nat.mul_le_mul_right _ hml
    rw [hpp, Nat.add_mul] at this
    omega
  have e3 : lo * S % 18446744073709551616 = lo % P * S := by
    rw [e1, Nat.add_mul_mod_self_right, Nat.mod_eq_of_lt e2]
  refine ⟨by omega, hor, by omega, ?_⟩
  rw [e3, Nat.add_mul (hi * _), Nat.add_mul _ lo, e1, Nat.mul_right_comm]
  omega
end Go.Proofs.Bn
