/- Big integers: the laws of what the functions compute. No program in sight. -/
import Derived.Test.YtbacamboknmppaaDoorLa
import Derived.Test.YtbacamboknmppaaDoorJf
namespace Go.Proofs.YtbacamboknmppaaDoor
open Go Go.RowKit Go.Proofs.Rg Go.Proofs.Hp Go.Proofs.Bn
set_option linter.unusedVariables false
set_option linter.unusedSimpArgs false
theorem same_self (b : Bool) (l : List Nat) : ((b == b) && decide (l = l)) = true := by simp
def BB : Nat := 4294967296 ^ 64
theorem BB_pos : 0 < BB := by decide
theorem mkN_right {neg : Bool} {ds : List Nat} (hR : RightB neg ds = true) (hD : Dig 4294967296 ds) : mkN neg (val 4294967296 ds) = (neg, ds, 0) := by
  obtain ⟨hC, hl, hn⟩ := right_canon hR
  by_cases h0 : val 4294967296 ds = 0
  · have : ds = [] := by
      rcases Nat.eq_zero_or_pos ds.length with h | h
      · exact List.eq_nil_of_length_eq_zero h
      · have := canon_pos (B := 4294967296) (by omega) hC (by intro e; rw [e] at h; simp at h); omega
    subst this
    unfold mkN
    rw [if_pos h0, hn rfl]
  · exact mkN_of ds rfl hD hC h0 hl
theorem right_of_canon {neg : Bool} {ds : List Nat} (hC : Canon ds) (hl : ds.length ≤ 64) (hn : ds = [] → neg = false) : RightB neg ds = true := by
  unfold RightB
  by_cases h0 : ds.length = 0
  · rw [if_pos h0, hn (List.eq_nil_of_length_eq_zero h0)]; rfl
  · rw [if_neg h0, decide_eq_true_eq]
    refine ⟨hl, fun e => hC ?_⟩
    rw [List.getLast?_eq_getElem?, List.getElem?_eq_getElem (by omega)]
    rw [List.getD_eq_getElem?_getD, List.getElem?_eq_getElem (by omega)] at e
    exact congrArg some e
/-- what a made big integer is -/
theorem mkN_ok {neg : Bool} {V : Nat} {r1 : Bool} {r2 : List Nat} (h : mkN neg V = (r1, r2, 0)) : val 4294967296 r2 = V ∧ RightB r1 r2 = true ∧ r1 = (neg && decide (V ≠ 0)) ∧ V < 4294967296 ^ 64 := by
  unfold mkN at h
  by_cases h0 : V = 0
  · rw [if_pos h0] at h
    simp only [Prod.mk.injEq] at h
    obtain ⟨rfl, rfl, _⟩ := h
    subst h0
    exact ⟨rfl, by decide, by simp, Nat.pow_pos (by omega)⟩
  · rw [if_neg h0] at h
    by_cases h1 : V < 4294967296 ^ 64
    · rw [if_pos h1] at h
      simp only [Prod.mk.injEq] at h
      obtain ⟨rfl, rfl, _⟩ := h
      refine ⟨val_dg (by omega) V, right_of_canon (dg_canon (by omega) V) ((dg_length_le (by omega) 64).2 h1) fun e => ?_, by simp [h0], h1⟩
      exact absurd ((dg_eq_nil (by omega)).1 e) h0
    · rw [if_neg h1] at h
      simp at h
theorem mkN_err {neg : Bool} {V : Nat} (h : V < 4294967296 ^ 64) : (mkN neg V).2.2 = 0 := by
  unfold mkN
  split
  · rfl
  · rfl
theorem mkN_six {neg : Bool} {V : Nat} : (mkN neg V).2.2 = 0 ∨ (mkN neg V).2.2 = 6 := by
  unfold mkN
  split
  · exact .inl rfl
  · split
    · exact .inl rfl
    · exact .inr rfl
theorem mkN_zero (neg : Bool) : mkN neg 0 = (false, [], 0) := by unfold mkN; rw [if_pos rfl]
theorem val_right_lt {neg : Bool} {ds : List Nat} (hR : RightB neg ds = true) (hD : Dig 4294967296 ds) : val 4294967296 ds < 4294967296 ^ 64 :=
  Nat.lt_of_lt_of_le (val_lt hD) (Nat.pow_le_pow_right (by omega) (right_canon hR).2.1)
theorem right_pos {neg : Bool} {ds : List Nat} (hR : RightB neg ds = true) (h : ds.length ≠ 0) : 0 < val 4294967296 ds :=
  canon_pos (by omega) (right_canon hR).1 fun e => h (by rw [e]; rfl)
theorem right_val0 {neg : Bool} {ds : List Nat} (hR : RightB neg ds = true) : val 4294967296 ds = 0 ↔ ds.length = 0 := by
  constructor
  · intro h
    rcases Nat.eq_zero_or_pos ds.length with h1 | h1
    · exact h1
    · have := right_pos hR (by omega); omega
  · intro h; rw [List.eq_nil_of_length_eq_zero h]; rfl
/-! ### The int that a big integer is -/
def sgn (neg : Bool) (V : Nat) : Int := if neg then -(V : Int) else V
def mkI (z : Int) : Bool × List Nat × Int := mkN (decide (z < 0)) z.natAbs
theorem sgn_abs (neg : Bool) (V : Nat) : (sgn neg V).natAbs = V := by unfold sgn; cases neg <;> simp
theorem sgn_neg {neg : Bool} {V : Nat} (h : V ≠ 0) : decide (sgn neg V < 0) = neg := by
  unfold sgn
  cases neg
  · simp
  · simp; omega
theorem mkN_mkI (neg : Bool) (V : Nat) : mkN neg V = mkI (sgn neg V) := by
  by_cases h : V = 0
  · subst h
    unfold mkI
    rw [sgn_abs, mkN_zero, mkN_zero]
  · unfold mkI
    rw [sgn_abs, sgn_neg h]
def sv (neg : Bool) (ds : List Nat) : Int := sgn neg (val 4294967296 ds)
theorem mkI_sv {neg : Bool} {ds : List Nat} (hR : RightB neg ds = true) (hD : Dig 4294967296 ds) : mkI (sv neg ds) = (neg, ds, 0) := by
  unfold sv
  rw [← mkN_mkI]
  exact mkN_right hR hD
theorem mkI_ok {z : Int} {r1 : Bool} {r2 : List Nat} (h : mkI z = (r1, r2, 0)) : sv r1 r2 = z ∧ RightB r1 r2 = true := by
  obtain ⟨h1, h2, h3, _⟩ := mkN_ok h
  refine ⟨?_, h2⟩
  unfold sv sgn
  rw [h1, h3]
  by_cases hz : z < 0
  · have : decide (z < 0) = true := by simpa using hz
    rw [this, show (true && decide (z.natAbs ≠ 0)) = true by simp; omega]
    simp; omega
  · have : decide (z < 0) = false := by simpa using hz
    rw [this, Bool.false_and]
    simp; omega
theorem addS_sv {na nb : Bool} {da db : List Nat} (ha : RightB na da = true) (hb : RightB nb db = true) : addS na da nb db = mkI (sv na da + sv nb db) := by
  unfold addS sv
  rw [ha, hb, if_neg (by decide)]
  generalize val 4294967296 da = Va
  generalize val 4294967296 db = Vb
  by_cases h : na = nb
  · subst h
    rw [if_pos rfl, mkN_mkI]
    congr 1
    unfold sgn
    cases na <;> simp <;> omega
  · rw [if_neg h]
    split
    · rename_i hl
      rw [mkN_mkI]
      congr 1
      unfold sgn
      cases na <;> cases nb <;> simp at h ⊢ <;> omega
    · rename_i hl
      rw [mkN_mkI]
      congr 1
      unfold sgn
      cases na <;> cases nb <;> simp at h ⊢ <;> omega
theorem mulS_sv {na nb : Bool} {da db : List Nat} (ha : RightB na da = true) (hb : RightB nb db = true) : mulS na da nb db = mkI (sv na da * sv nb db) := by
  unfold mulS sv
  rw [ha, hb, if_neg (by decide), mkN_mkI]
  congr 1
  unfold sgn
  cases na <;> cases nb <;> simp [Int.natCast_mul, Int.mul_neg, Int.neg_mul]
theorem fromS_mkI (n : Int) : fromS n = mkI n := rfl
theorem addS_comm (na nb : Bool) (da db : List Nat) : addS nb db na da = addS na da nb db := by
  cases ha : RightB na da with
  | false => unfold addS; rw [ha]; simp
  | true =>
    cases hb : RightB nb db with
    | false => unfold addS; rw [ha, hb]; simp
    | true => rw [addS_sv ha hb, addS_sv hb ha, Int.add_comm]
theorem addS_dig (na nb : Bool) (da db : List Nat) : Dig 4294967296 (addS na da nb db).2.1 ∧ (addS na da nb db).2.1.length ≤ 64 := by
  unfold addS
  split
  · exact ⟨Dig.nil, by simp⟩
  · split
    · exact ⟨mkN_dig, mkN_len⟩
    · split <;> exact ⟨mkN_dig, mkN_len⟩
theorem negS_dig (na : Bool) (da : List Nat) : Dig 4294967296 (negS na da).2.1 ∧ (negS na da).2.1.length ≤ 64 := by
  unfold negS
  split
  · exact ⟨Dig.nil, by simp⟩
  · exact ⟨mkN_dig, mkN_len⟩
theorem fromS_dig (n : Int) : Dig 4294967296 (fromS n).2.1 ∧ (fromS n).2.1.length ≤ 64 := ⟨mkN_dig, mkN_len⟩
theorem divS_dig (neg : Bool) (ds : List Nat) (n : Int) : Dig 4294967296 (divS neg ds n).1.2.1 ∧ (divS neg ds n).1.2.1.length ≤ 64 := by
  unfold divS
  split
  · exact ⟨Dig.nil, by simp⟩
  · split
    · exact ⟨Dig.nil, by simp⟩
    · exact ⟨mkN_dig, mkN_len⟩
theorem parseS_dig (bs : List UInt8) : Dig 4294967296 (parseS bs).2.1 ∧ (parseS bs).2.1.length ≤ 64 := by
  unfold parseS
  split
  · exact ⟨Dig.nil, by simp⟩
  · exact ⟨mkN_dig, mkN_len⟩
/-- a and its negation -/
theorem add_neg {na : Bool} {da : List Nat} (hD : Dig 4294967296 da) : addS na da (negS na da).1 (negS na da).2.1 = (false, [], if RightB na da then 0 else 2) := by
  cases hR : RightB na da with
  | false =>
    unfold addS
    rw [hR]
    rfl
  | true =>
    have h1 : negS na da = mkI (-(sv na da)) := by
      unfold negS
      rw [hR, if_neg (by decide), mkN_mkI]
      congr 1
      unfold sv sgn
      cases na <;> simp
    have h2 : (mkI (-(sv na da))).2.2 = 0 := by
      refine mkN_err ?_
      rw [Int.natAbs_neg, sv, sgn_abs]
      exact val_right_lt hR hD
    obtain ⟨⟨r1, r2, r3⟩, hr⟩ : ∃ r, mkI (-(sv na da)) = r := ⟨_, rfl⟩
    rw [hr] at h2
    simp only at h2
    subst h2
    obtain ⟨h3, h4⟩ := mkI_ok hr
    rw [h1, hr]
    simp only
    rw [addS_sv hR h4, h3, show sv na da + -(sv na da) = 0 by omega]
    exact mkN_zero _
theorem int_from {n : Int} (h1 : -9223372036854775808 ≤ n) (h2 : n < 9223372036854775808) : intS (fromS n).1 (fromS n).2.1 = (n, true) := by
  obtain ⟨⟨r1, r2, r3⟩, hr⟩ : ∃ r, mkI n = r := ⟨_, rfl⟩
  have h3 : (mkI n).2.2 = 0 := mkN_err (Nat.lt_of_lt_of_le (show n.natAbs < 4294967296 ^ 2 by omega) (Nat.pow_le_pow_right (by omega) (by omega)))
  rw [hr] at h3
  simp only at h3
  subst h3
  obtain ⟨h4, h5⟩ := mkI_ok hr
  obtain ⟨h6, _, h7, _⟩ := mkN_ok hr
  rw [fromS_mkI, hr]
  simp only
  have hl : r2.length ≤ 2 := by
    have : r2 = dg 4294967296 n.natAbs := by
      by_cases h0 : n.natAbs = 0
      · have : val 4294967296 r2 = 0 := by omega
        have := (right_val0 h5).1 this
        rw [List.eq_nil_of_length_eq_zero this, h0, dg_zero]
      · have e := hr
        unfold mkI mkN at e
        rw [if_neg h0, if_pos (Nat.lt_of_lt_of_le (show n.natAbs < 4294967296 ^ 2 by omega) (Nat.pow_le_pow_right (by omega) (by omega)))] at e
        simp only [Prod.mk.injEq] at e
        exact e.2.1.symm
    rw [this, dg_length_le (by omega)]
    omega
  unfold intS
  rw [h5, if_neg (by simp; omega), h6]
  have h8 : sgn r1 n.natAbs = n := by rw [← h6]; exact h4
  unfold sgn at h8
  cases r1 with
  | false =>
    simp only [Bool.false_eq_true, if_false] at h8 ⊢
    rw [if_pos (by omega), h8]
  | true =>
    simp only [if_true] at h8 ⊢
    rw [if_pos (by omega), h8]
/-- shifting back -/
theorem shift_back {neg : Bool} {ds : List Nat} {k : Int} {r1 : Bool} {r2 : List Nat} (hD : Dig 4294967296 ds) (hk : 0 ≤ k) (h : shiftS neg ds k = (r1, r2, 0)) : shiftS r1 r2 (-k) = (neg, ds, 0) := by
  unfold shiftS at h
  cases hR : RightB neg ds with
  | false => rw [hR, if_pos rfl] at h; simp at h
  | true =>
    rw [hR, if_neg (by decide)] at h
    by_cases h0 : ds.length = 0
    · rw [if_pos h0] at h
      simp only [Prod.mk.injEq] at h
      obtain ⟨rfl, rfl, _⟩ := h
      obtain rfl := List.eq_nil_of_length_eq_zero h0
      rw [(right_canon hR).2.2 rfl]
      unfold shiftS
      rw [show RightB false [] = true by decide, if_neg (by decide), if_pos (show ([] : List Nat).length = 0 from rfl)]
    · rw [if_neg h0, if_neg (by omega)] at h
      by_cases h2 : 2048 < k
      · rw [if_pos h2] at h; simp at h
      · rw [if_neg h2] at h
        obtain ⟨h3, h4, h5, h6⟩ := mkN_ok h
        have hV := right_pos hR h0
        have hp : 0 < 2 ^ k.toNat := Nat.pow_pos (by omega)
        have hne : val 4294967296 ds * 2 ^ k.toNat ≠ 0 := Nat.ne_of_gt (Nat.mul_pos hV hp)
        rw [decide_eq_true (show val 4294967296 ds * 2 ^ k.toNat ≠ 0 from hne), Bool.and_true] at h5
        subst h5
        unfold shiftS
        rw [h4, if_neg (by decide), if_neg (fun e => by rw [(right_val0 h4).2 e] at h3; omega), h3]
        by_cases h7 : k = 0
        · subst h7
          rw [if_neg (by omega), if_neg (by omega)]
          simp only [Int.neg_zero, Int.toNat_zero, Nat.pow_zero, Nat.mul_one]
          exact mkN_right hR hD
        · rw [if_pos (by omega), if_neg (by omega), Int.neg_neg]
          unfold downN
          rw [Nat.mul_div_cancel _ hp, Nat.mul_mod_left, if_neg (by simp), Nat.add_zero]
          exact mkN_right hR hD
theorem div_core {neg : Bool} {V m Q R : Nat} {s : Int} (hs : s = m ∨ s = -(m : Int)) (hm : 0 < m) (he : m * Q + R = V) (hR : R < m) {u : Bool} (hu : u = ((neg != decide (s < 0)) && decide (R ≠ 0))) {r : Int}
    (hr : r = if s < 0 then -((if u then m - R else R : Nat) : Int) else ((if u then m - R else R : Nat) : Int)) :
    sgn (neg != decide (s < 0)) (Q + if u then 1 else 0) * s + r = sgn neg V := by
  have e2 : (m : Int) * (Q : Int) + (R : Int) = (V : Int) := by rw [← he]; simp
  have hQ : ∀ z : Int, z = (Q : Int) * m → z = (m : Int) * Q := fun z h => by rw [h, Int.mul_comm]
  generalize hz : (m : Int) * (Q : Int) = z at e2
  have hz' : (Q : Int) * (m : Int) = z := by rw [Int.mul_comm]; exact hz
  unfold sgn
  rcases hs with rfl | rfl
  · have hd : decide ((m : Int) < 0) = false := by simp
    rw [hd] at hu ⊢
    rw [if_neg (by omega)] at hr
    cases neg
    · obtain rfl : u = false := by rw [hu]; rfl
      simp only [Bool.bne_false, Bool.false_eq_true, if_false, Nat.add_zero] at hr ⊢
      rw [hz', hr]; exact e2
    · by_cases h0 : R = 0
      · obtain rfl : u = false := by rw [hu, h0]; rfl
        simp only [Bool.bne_false, Bool.false_eq_true, if_false, if_true, Nat.add_zero] at hr ⊢
        rw [Int.neg_mul, hz', hr]; omega
      · obtain rfl : u = true := by rw [hu]; simp [h0]
        simp only [Bool.bne_false, if_true] at hr ⊢
        rw [Int.neg_mul, Int.natCast_add, Int.add_mul, hz', hr]; omega
  · have hd : decide (-(m : Int) < 0) = true := by simp; omega
    rw [hd] at hu ⊢
    rw [if_pos (by omega)] at hr
    cases neg
    · by_cases h0 : R = 0
      · obtain rfl : u = false := by rw [hu, h0]; rfl
        simp only [Bool.false_bne, if_true, Bool.false_eq_true, if_false, Nat.add_zero] at hr ⊢
        rw [Int.neg_mul_neg, hz', hr]; omega
      · obtain rfl : u = true := by rw [hu]; simp [h0]
        simp only [Bool.false_bne, if_true, Bool.false_eq_true, if_false] at hr ⊢
        rw [Int.neg_mul_neg, Int.natCast_add, Int.add_mul, hz', hr]; omega
    · obtain rfl : u = false := by rw [hu]; rfl
      simp only [bne_self_eq_false, Bool.false_eq_true, if_false, if_true, Nat.add_zero] at hr ⊢
      rw [Int.mul_neg, hz', hr]; omega
theorem div_int {neg : Bool} {V : Nat} {n r : Int} (h0 : n ≠ 0)
    (h2 : (if n < 0 then -((if divUp neg V n then n.natAbs - V % n.natAbs else V % n.natAbs : Nat) : Int) else ((if divUp neg V n then n.natAbs - V % n.natAbs else V % n.natAbs : Nat) : Int)) = r) :
    sgn (neg != decide (n < 0)) (V / n.natAbs + if divUp neg V n then 1 else 0) * n + r = sgn neg V :=
  div_core (m := n.natAbs) (Q := V / n.natAbs) (R := V % n.natAbs) (s := n) (by omega) (by omega) (Nat.div_add_mod V n.natAbs) (Nat.mod_lt _ (by omega)) rfl h2.symm
/-- the dividend is the quotient times the divisor, and the remainder -/
theorem div_back {neg : Bool} {ds : List Nat} {n r : Int} {q1 : Bool} {q2 : List Nat} (hD : Dig 4294967296 ds) (h : divS neg ds n = ((q1, q2, 0), r)) :
    RightB neg ds = true ∧ n ≠ 0 ∧ RightB q1 q2 = true ∧ sv q1 q2 * n + r = sv neg ds ∧ r.natAbs < n.natAbs := by
  unfold divS at h
  cases hR : RightB neg ds with
  | false => rw [hR, if_pos rfl] at h; simp at h
  | true =>
    rw [hR, if_neg (by decide)] at h
    by_cases h0 : n = 0
    · rw [if_pos h0] at h; simp at h
    · rw [if_neg h0] at h
      simp only [Prod.mk.injEq] at h
      obtain ⟨h1, h2⟩ := h
      obtain ⟨h3, h4, h5, h6⟩ := mkN_ok h1
      rw [mkN_mkI] at h1
      obtain ⟨h7, _⟩ := mkI_ok h1
      refine ⟨rfl, h0, h4, ?_, ?_⟩
      · rw [h7]
        have hs : sv neg ds = sgn neg (val 4294967296 ds) := rfl
        rw [hs]
        exact div_int h0 h2
      · rw [← h2]
        have := Nat.mod_lt (val 4294967296 ds) (show 0 < n.natAbs by omega)
        unfold divUp
        generalize val 4294967296 ds % n.natAbs = R at *
        by_cases hR0 : R = 0
        · subst hR0; split <;> simp <;> omega
        · split <;> split <;> omega
end Go.Proofs.YtbacamboknmppaaDoor
