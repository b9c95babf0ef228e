/- Own texts of this claim, part 5: no condition. -/
import Derived.Lib.SliceRun
import Derived.Maps.AppendAt
import Derived.Test.YtjidldfnlejdhaaZM3
set_option linter.unusedVariables false
set_option linter.unusedSimpArgs false
section
/- Big integers: laws of sums, shifts and conversions of what the functions compute. No program in sight. -/
namespace Go.Proofs.Ytjidldfnlejdhaa
set_option linter.unusedVariables false
set_option linter.unusedSimpArgs false
open Go Go.RowKit Go.Proofs.Rg Go.Proofs.Hp Go.Proofs.Bn
theorem dg_of {B : Nat} (hB : 2 ≤ B) {V : Nat} (l : List Nat) (hV : val B l = V) (hD : Dig B l) (hC : Canon l) : dg B V = l := by rw [← hV]; exact dg_val hB hD hC
theorem mkN_of {neg : Bool} {V : Nat} (l : List Nat) (hV : val 4294967296 l = V) (hD : Dig 4294967296 l) (hC : Canon l) (h0 : V ≠ 0) (hl : l.length ≤ 64) : mkN neg V = (neg, l, 0) := by
  unfold mkN
  rw [if_neg h0, if_pos, dg_of (by omega) l hV hD hC]
  rw [← hV]
  exact Nat.lt_of_lt_of_le (val_lt hD) (Nat.pow_le_pow_right (by omega) hl)
theorem same_self (b : Bool) (l : List Nat) : ((b == b) && decide (l = l)) = true := by simp
def BB : Nat := 4294967296 ^ 64
theorem BB_pos : 0 < BB := by decide
theorem right_of_canon {neg : Bool} {ds : List Nat} (hC : Canon ds) (hl : ds.length ≤ 64) (hn : ds = [] → neg = false) : RightB neg ds = true := by
  unfold RightB
  by_cases h0 : ds.length = 0
  · rw [if_pos h0, hn (List.eq_nil_of_length_eq_zero h0)]; rfl
  · rw [if_neg h0, decide_eq_true_eq]
    refine ⟨hl, fun e => hC ?_⟩
    rw [List.getLast?_eq_getElem?, List.getElem?_eq_getElem (by omega)]
    rw [List.getD_eq_getElem?_getD, List.getElem?_eq_getElem (by omega)] at e
    exact congrArg some e
/-- what a made big integer is -/
theorem mkN_right {neg : Bool} {ds : List Nat} (hR : RightB neg ds = true) (hD : Dig 4294967296 ds) : mkN neg (val 4294967296 ds) = (neg, ds, 0) := by
  obtain ⟨hC, hl, hn⟩ := right_canon hR
  by_cases h0 : val 4294967296 ds = 0
  · have : ds = [] := by
      rcases Nat.eq_zero_or_pos ds.length with h | h
      · exact List.eq_nil_of_length_eq_zero h
      · have := canon_pos (B := 4294967296) (by omega) hC (by intro e; rw [e] at h; simp at h); omega
    subst this
    unfold mkN
    rw [if_pos h0, hn rfl]
  · exact mkN_of ds rfl hD hC h0 hl
theorem mkN_ok {neg : Bool} {V : Nat} {r1 : Bool} {r2 : List Nat} (h : mkN neg V = (r1, r2, 0)) : val 4294967296 r2 = V ∧ RightB r1 r2 = true ∧ r1 = (neg && decide (V ≠ 0)) ∧ V < 4294967296 ^ 64 := by
  unfold mkN at h
  by_cases h0 : V = 0
  · rw [if_pos h0] at h
    simp only [Prod.mk.injEq] at h
    obtain ⟨rfl, rfl, _⟩ := h
    subst h0
    exact ⟨rfl, by decide, by simp, Nat.pow_pos (by omega)⟩
  · rw [if_neg h0] at h
    by_cases h1 : V < 4294967296 ^ 64
    · rw [if_pos h1] at h
      simp only [Prod.mk.injEq] at h
      obtain ⟨rfl, rfl, _⟩ := h
      refine ⟨val_dg (by omega) V, right_of_canon (dg_canon (by omega) V) ((dg_length_le (by omega) 64).2 h1) fun e => ?_, by simp [h0], h1⟩
      exact absurd ((dg_eq_nil (by omega)).1 e) h0
    · rw [if_neg h1] at h
      simp at h
theorem mkN_err {neg : Bool} {V : Nat} (h : V < 4294967296 ^ 64) : (mkN neg V).2.2 = 0 := by
  unfold mkN
  split
  · rfl
  · rfl
theorem mkN_six {neg : Bool} {V : Nat} : (mkN neg V).2.2 = 0 ∨ (mkN neg V).2.2 = 6 := by
  unfold mkN
  split
  · exact .inl rfl
  · split
    · exact .inl rfl
    · exact .inr rfl
theorem mkN_zero (neg : Bool) : mkN neg 0 = (false, [], 0) := by unfold mkN; rw [if_pos rfl]
theorem val_right_lt {neg : Bool} {ds : List Nat} (hR : RightB neg ds = true) (hD : Dig 4294967296 ds) : val 4294967296 ds < 4294967296 ^ 64 :=
  Nat.lt_of_lt_of_le (val_lt hD) (Nat.pow_le_pow_right (by omega) (right_canon hR).2.1)
theorem right_pos {neg : Bool} {ds : List Nat} (hR : RightB neg ds = true) (h : ds.length ≠ 0) : 0 < val 4294967296 ds :=
  canon_pos (by omega) (right_canon hR).1 fun e => h (by rw [e]; rfl)
theorem right_val0 {neg : Bool} {ds : List Nat} (hR : RightB neg ds = true) : val 4294967296 ds = 0 ↔ ds.length = 0 := by
  constructor
  · intro h
    rcases Nat.eq_zero_or_pos ds.length with h1 | h1
    · exact h1
    · have := right_pos hR (by omega); omega
  · intro h; rw [List.eq_nil_of_length_eq_zero h]; rfl
def sgn (neg : Bool) (V : Nat) : Int := if neg then -(V : Int) else V
def mkI (z : Int) : Bool × List Nat × Int := mkN (decide (z < 0)) z.natAbs
theorem sgn_abs (neg : Bool) (V : Nat) : (sgn neg V).natAbs = V := by unfold sgn; cases neg <;> simp
theorem sgn_neg {neg : Bool} {V : Nat} (h : V ≠ 0) : decide (sgn neg V < 0) = neg := by
  unfold sgn
  cases neg
  · simp
  · simp; omega
theorem mkN_mkI (neg : Bool) (V : Nat) : mkN neg V = mkI (sgn neg V) := by
  by_cases h : V = 0
  · subst h
    unfold mkI
    rw [sgn_abs, mkN_zero, mkN_zero]
  · unfold mkI
    rw [sgn_abs, sgn_neg h]
def sv (neg : Bool) (ds : List Nat) : Int := sgn neg (val 4294967296 ds)
theorem mkI_sv {neg : Bool} {ds : List Nat} (hR : RightB neg ds = true) (hD : Dig 4294967296 ds) : mkI (sv neg ds) = (neg, ds, 0) := by
  unfold sv
  rw [← mkN_mkI]
  exact mkN_right hR hD
theorem mkI_ok {z : Int} {r1 : Bool} {r2 : List Nat} (h : mkI z = (r1, r2, 0)) : sv r1 r2 = z ∧ RightB r1 r2 = true := by
  obtain ⟨h1, h2, h3, _⟩ := mkN_ok h
  refine ⟨?_, h2⟩
  unfold sv sgn
  rw [h1, h3]
  by_cases hz : z < 0
  · have : decide (z < 0) = true := by simpa using hz
    rw [this, show (true && decide (z.natAbs ≠ 0)) = true by simp; omega]
    simp; omega
  · have : decide (z < 0) = false := by simpa using hz
    rw [this, Bool.false_and]
    simp; omega
theorem addS_sv {na nb : Bool} {da db : List Nat} (ha : RightB na da = true) (hb : RightB nb db = true) : addS na da nb db = mkI (sv na da + sv nb db) := by
  unfold addS sv
  rw [ha, hb, if_neg (by decide)]
  generalize val 4294967296 da = Va
  generalize val 4294967296 db = Vb
  by_cases h : na = nb
  · subst h
    rw [if_pos rfl, mkN_mkI]
    congr 1
    unfold sgn
    cases na <;> simp <;> omega
  · rw [if_neg h]
    split
    · rename_i hl
      rw [mkN_mkI]
      congr 1
      unfold sgn
      cases na <;> cases nb <;> simp at h ⊢ <;> omega
    · rename_i hl
      rw [mkN_mkI]
      congr 1
      unfold sgn
      cases na <;> cases nb <;> simp at h ⊢ <;> omega
theorem fromS_mkI (n : Int) : fromS n = mkI n := rfl
theorem addS_comm (na nb : Bool) (da db : List Nat) : addS nb db na da = addS na da nb db := by
  cases ha : RightB na da with
  | false => unfold addS; rw [ha]; simp
  | true =>
    cases hb : RightB nb db with
    | false => unfold addS; rw [ha, hb]; simp
    | true => rw [addS_sv ha hb, addS_sv hb ha, Int.add_comm]
theorem addS_dig (na nb : Bool) (da db : List Nat) : Dig 4294967296 (addS na da nb db).2.1 ∧ (addS na da nb db).2.1.length ≤ 64 := by
  unfold addS
  split
  · exact ⟨Dig.nil, by simp⟩
  · split
    · exact ⟨mkN_dig, mkN_len⟩
    · split <;> exact ⟨mkN_dig, mkN_len⟩
theorem negS_dig (na : Bool) (da : List Nat) : Dig 4294967296 (negS na da).2.1 ∧ (negS na da).2.1.length ≤ 64 := by
  unfold negS
  split
  · exact ⟨Dig.nil, by simp⟩
  · exact ⟨mkN_dig, mkN_len⟩
theorem fromS_dig (n : Int) : Dig 4294967296 (fromS n).2.1 ∧ (fromS n).2.1.length ≤ 64 := ⟨mkN_dig, mkN_len⟩
/-- a and its negation -/
theorem add_neg {na : Bool} {da : List Nat} (hD : Dig 4294967296 da) : addS na da (negS na da).1 (negS na da).2.1 = (false, [], if RightB na da then 0 else 2) := by
  cases hR : RightB na da with
  | false =>
    unfold addS
    rw [hR]
    rfl
  | true =>
    have h1 : negS na da = mkI (-(sv na da)) := by
      unfold negS
      rw [hR, if_neg (by decide), mkN_mkI]
      congr 1
      unfold sv sgn
      cases na <;> simp
    have h2 : (mkI (-(sv na da))).2.2 = 0 := by
      refine mkN_err ?_
      rw [Int.natAbs_neg, sv, sgn_abs]
      exact val_right_lt hR hD
    obtain ⟨⟨r1, r2, r3⟩, hr⟩ : ∃ r, mkI (-(sv na da)) = r := ⟨_, rfl⟩
    rw [hr] at h2
    simp only at h2
    subst h2
    obtain ⟨h3, h4⟩ := mkI_ok hr
    rw [h1, hr]
    simp only
    rw [addS_sv hR h4, h3, show sv na da + -(sv na da) = 0 by omega]
    exact mkN_zero _
theorem int_from {n : Int} (h1 : -9223372036854775808 ≤ n) (h2 : n < 9223372036854775808) : intS (fromS n).1 (fromS n).2.1 = (n, true) := by
  obtain ⟨⟨r1, r2, r3⟩, hr⟩ : ∃ r, mkI n = r := ⟨_, rfl⟩
  have h3 : (mkI n).2.2 = 0 := mkN_err (Nat.lt_of_lt_of_le (show n.natAbs < 4294967296 ^ 2 by omega) (Nat.pow_le_pow_right (by omega) (by omega)))
  rw [hr] at h3
  simp only at h3
  subst h3
  obtain ⟨h4, h5⟩ := mkI_ok hr
  obtain ⟨h6, _, h7, _⟩ := mkN_ok hr
  rw [fromS_mkI, hr]
  simp only
  have hl : r2.length ≤ 2 := by
    have : r2 = dg 4294967296 n.natAbs := by
      by_cases h0 : n.natAbs = 0
      · have : val 4294967296 r2 = 0 := by omega
        have := (right_val0 h5).1 this
        rw [List.eq_nil_of_length_eq_zero this, h0, dg_zero]
      · have e := hr
        unfold mkI mkN at e
        rw [if_neg h0, if_pos (Nat.lt_of_lt_of_le (show n.natAbs < 4294967296 ^ 2 by omega) (Nat.pow_le_pow_right (by omega) (by omega)))] at e
        simp only [Prod.mk.injEq] at e
        exact e.2.1.symm
    rw [this, dg_length_le (by omega)]
    omega
  unfold intS
  rw [h5, if_neg (by simp; omega), h6]
  have h8 : sgn r1 n.natAbs = n := by rw [← h6]; exact h4
  unfold sgn at h8
  cases r1 with
  | false =>
    simp only [Bool.false_eq_true, if_false] at h8 ⊢
    rw [if_pos (by omega), h8]
  | true =>
    simp only [if_true] at h8 ⊢
    rw [if_pos (by omega), h8]
theorem div_core {neg : Bool} {V m Q R : Nat} {s : Int} (hs : s = m ∨ s = -(m : Int)) (hm : 0 < m) (he : m * Q + R = V) (hR : R < m) {u : Bool} (hu : u = ((neg != decide (s < 0)) && decide (R ≠ 0))) {r : Int}
    (hr : r = if s < 0 then -((if u then m - R else R : Nat) : Int) else ((if u then m - R else R : Nat) : Int)) :
    sgn (neg != decide (s < 0)) (Q + if u then 1 else 0) * s + r = sgn neg V := by
  have e2 : (m : Int) * (Q : Int) + (R : Int) = (V : Int) := by rw [← he]; simp
  have hQ : ∀ z : Int, z = (Q : Int) * m → z = (m : Int) * Q := fun z h => by rw [h, Int.mul_comm]
  generalize hz : (m : Int) * (Q : Int) = z at e2
  have hz' : (Q : Int) * (m : Int) = z := by rw [Int.mul_comm]; exact hz
  unfold sgn
  rcases hs with rfl | rfl
  · have hd : decide ((m : Int) < 0) = false := by simp
    rw [hd] at hu ⊢
    rw [if_neg (by omega)] at hr
    cases neg
    · obtain rfl : u = false := by rw [hu]; rfl
      simp only [Bool.bne_false, Bool.false_eq_true, if_false, Nat.add_zero] at hr ⊢
      rw [hz', hr]; exact e2
    · by_cases h0 : R = 0
      · obtain rfl : u = false := by rw [hu, h0]; rfl
        simp only [Bool.bne_false, Bool.false_eq_true, if_false, if_true, Nat.add_zero] at hr ⊢
        rw [Int.neg_mul, hz', hr]; omega
      · obtain rfl : u = true := by rw [hu]; simp [h0]
        simp only [Bool.bne_false, if_true] at hr ⊢
        rw [Int.neg_mul, Int.natCast_add, Int.add_mul, hz', hr]; omega
  · have hd : decide (-(m : Int) < 0) = true := by simp; omega
    rw [hd] at hu ⊢
    rw [if_pos (by omega)] at hr
    cases neg
    · by_cases h0 : R = 0
      · obtain rfl : u = false := by rw [hu, h0]; rfl
        simp only [Bool.false_bne, if_true, Bool.false_eq_true, if_false, Nat.add_zero] at hr ⊢
        rw [Int.neg_mul_neg, hz', hr]; omega
      · obtain rfl : u = true := by rw [hu]; simp [h0]
        simp only [Bool.false_bne, if_true, Bool.false_eq_true, if_false] at hr ⊢
        rw [Int.neg_mul_neg, Int.natCast_add, Int.add_mul, hz', hr]; omega
    · obtain rfl : u = false := by rw [hu]; rfl
      simp only [bne_self_eq_false, Bool.false_eq_true, if_false, if_true, Nat.add_zero] at hr ⊢
      rw [Int.mul_neg, hz', hr]; omega
theorem downN_le {neg : Bool} {V m : Nat} (hV : 0 < V) (hm : m ≠ 0) : downN neg V m ≤ V := by
  unfold downN
  have h2 : 2 ≤ 2 ^ m := by
    calc 2 = 2 ^ 1 := rfl
      _ ≤ 2 ^ m := Nat.pow_le_pow_right (by omega) (by omega)
  have h3 : V / 2 ^ m ≤ V / 2 := Nat.div_le_div_left h2 (by omega)
  split <;> omega
theorem val_head (l : List Nat) : val 4294967296 l % 2 = l.getD 0 0 % 2 := by
  cases l with
  | nil => rfl
  | cons d l => show (d + 4294967296 * val 4294967296 l) % 2 = d % 2; omega
def t8 (l : List Nat) : List UInt8 := l.map UInt8.ofNat
theorem u8_toNat {n : Nat} (h : n < 256) : (UInt8.ofNat n).toNat = n := by rw [UInt8.toNat_ofNat']; omega
theorem t8_append (a b : List Nat) : t8 (a ++ b) = t8 a ++ t8 b := by simp [t8]
/-- shifting back -/
theorem shift_back {neg : Bool} {ds : List Nat} {k : Int} {r1 : Bool} {r2 : List Nat} (hD : Dig 4294967296 ds) (hk : 0 ≤ k) (h : shiftS neg ds k = (r1, r2, 0)) : shiftS r1 r2 (-k) = (neg, ds, 0) := by
  unfold shiftS at h
  cases hR : RightB neg ds with
  | false => rw [hR, if_pos rfl] at h; simp at h
  | true =>
    rw [hR, if_neg (by decide)] at h
    by_cases h0 : ds.length = 0
    · rw [if_pos h0] at h
      simp only [Prod.mk.injEq] at h
      obtain ⟨rfl, rfl, _⟩ := h
      obtain rfl := List.eq_nil_of_length_eq_zero h0
      rw [(right_canon hR).2.2 rfl]
      unfold shiftS
      rw [show RightB false [] = true by decide, if_neg (by decide), if_pos (show ([] : List Nat).length = 0 from rfl)]
    · rw [if_neg h0, if_neg (by omega)] at h
      by_cases h2 : 2048 < k
      · rw [if_pos h2] at h; simp at h
      · rw [if_neg h2] at h
        obtain ⟨h3, h4, h5, h6⟩ := mkN_ok h
        have hV := right_pos hR h0
        have hp : 0 < 2 ^ k.toNat := Nat.pow_pos (by omega)
        have hne : val 4294967296 ds * 2 ^ k.toNat ≠ 0 := Nat.ne_of_gt (Nat.mul_pos hV hp)
        rw [decide_eq_true (show val 4294967296 ds * 2 ^ k.toNat ≠ 0 from hne), Bool.and_true] at h5
        subst h5
        unfold shiftS
        rw [h4, if_neg (by decide), if_neg (fun e => by rw [(right_val0 h4).2 e] at h3; omega), h3]
        by_cases h7 : k = 0
        · subst h7
          rw [if_neg (by omega), if_neg (by omega)]
          simp only [Int.neg_zero, Int.toNat_zero, Nat.pow_zero, Nat.mul_one]
          exact mkN_right hR hD
        · rw [if_pos (by omega), if_neg (by omega), Int.neg_neg]
          unfold downN
          rw [Nat.mul_div_cancel _ hp, Nat.mul_mod_left, if_neg (by simp), Nat.add_zero]
          exact mkN_right hR hD
end Go.Proofs.Ytjidldfnlejdhaa
end

section
/- Big integers as integers, where nothing overflows. Nothing of a program. -/
namespace Go.Proofs.Ytjidldfnlejdhaa
open Go Go.RowKit Go.Proofs.Rg Go.Proofs.Hp Go.Proofs.Bn
set_option linter.unusedVariables false
set_option linter.unusedSimpArgs false
/-- the digits of an integer -/
def zd (z : Int) : List Nat := dg 4294967296 z.natAbs
/-- a value is an integer, in blocks of which A holds -/
def BigZ (w : World) (A : Nat → Prop) (v : Value) (z : Int) : Prop :=
  ∃ a c, v = .agg #[.bool (decide (z < 0)), .slice a (zd z).length c] ∧ (zd z).length ≤ c ∧ (∀ g, (Value.slice a (zd z).length c).ownBlock = some g → A g) ∧ Reads w (.slice a (zd z).length c) (zd z).length 1 (u32s (zd z))
/-- integers of at most 64 digits -/
def Zok (z : Int) : Prop := z.natAbs < 4294967296 ^ 64
theorem zd_dig (z : Int) : Dig 4294967296 (zd z) := dg_dig (by omega) _
theorem zd_val (z : Int) : val 4294967296 (zd z) = z.natAbs := val_dg (by omega) _
theorem zd_len {z : Int} (h : Zok z) : (zd z).length ≤ 64 := (dg_length_le (by omega) 64).2 h
theorem zd_right {z : Int} (h : Zok z) : RightB (decide (z < 0)) (zd z) = true :=
  right_of_canon (dg_canon (by omega) _) (zd_len h) fun e => by
    have := (dg_eq_nil (by omega)).1 e
    simp; omega
theorem zd_sv (z : Int) : sv (decide (z < 0)) (zd z) = z := by
  unfold sv sgn
  rw [zd_val]
  by_cases h : z < 0
  · simp only [h, decide_true, if_true]; omega
  · simp only [h, decide_false]; simp; omega
theorem mkI_z {z : Int} (h : Zok z) : mkI z = (decide (z < 0), zd z, 0) := by
  unfold mkI mkN zd
  by_cases h0 : z.natAbs = 0
  · have : z = 0 := by omega
    subst this
    simp [dg_zero]
  · rw [if_neg h0, if_pos (show z.natAbs < 4294967296 ^ 64 from h)]
theorem addS_z {x y : Int} (hx : Zok x) (hy : Zok y) (h : Zok (x + y)) : addS (decide (x < 0)) (zd x) (decide (y < 0)) (zd y) = (decide (x + y < 0), zd (x + y), 0) := by
  rw [addS_sv (zd_right hx) (zd_right hy), zd_sv, zd_sv, mkI_z h]
theorem fromS_z {z : Int} (h : Zok z) : fromS z = (decide (z < 0), zd z, 0) := mkI_z h
theorem zok_int {z : Int} (h1 : -9223372036854775808 ≤ z) (h2 : z < 9223372036854775808) : Zok z := by
  unfold Zok
  have : (9223372036854775808 : Nat) < 4294967296 ^ 64 := by
    rw [show (64 : Nat) = 2 + 62 from rfl, Nat.pow_add]
    have h1 := Nat.one_le_pow 62 4294967296 (by omega)
    have := Nat.mul_le_mul_left (4294967296 ^ 2) h1
    omega
  omega
theorem negS_z {z : Int} (h : Zok z) : negS (decide (z < 0)) (zd z) = (decide (-z < 0), zd (-z), 0) := by
  unfold negS
  rw [if_neg (by rw [zd_right h]; simp), zd_val]
  unfold mkN zd
  by_cases h0 : z.natAbs = 0
  · have : z = 0 := by omega
    subst this
    simp [dg_zero]
  · rw [if_neg h0, if_pos (show z.natAbs < 4294967296 ^ 64 from h), Int.natAbs_neg]
    have : (!decide (z < 0)) = decide (-z < 0) := by
      by_cases hz : z < 0
      · simp [hz]; omega
      · simp [hz]; omega
    rw [this]
def cmpI (x y : Int) : Int := if x < y then -1 else if x = y then 0 else 1
theorem cmpS_z {x y : Int} (hx : Zok x) (hy : Zok y) : cmpS (decide (x < 0)) (zd x) (decide (y < 0)) (zd y) = cmpI x y := by
  unfold cmpS
  rw [if_neg (by rw [zd_right hx, zd_right hy]; simp), zd_val, zd_val]
  unfold cmpN cmpI
  by_cases h1 : x < 0 <;> by_cases h2 : y < 0 <;> simp only [h1, h2, decide_true, decide_false, if_true, reduceCtorEq, if_false, Bool.false_eq_true] <;> (repeat' split) <;> omega
theorem intS_z {z : Int} (h : Zok z) : intS (decide (z < 0)) (zd z) = if -9223372036854775808 ≤ z ∧ z < 9223372036854775808 then (z, true) else (0, false) := by
  by_cases hi : -9223372036854775808 ≤ z ∧ z < 9223372036854775808
  · rw [if_pos hi]
    have := int_from hi.1 hi.2
    rwa [fromS_z h] at this
  · rw [if_neg hi]
    unfold intS
    by_cases hl : 2 < (zd z).length
    · rw [if_pos (.inr hl)]
    · rw [if_neg (by rw [zd_right h]; simpa using hl), zd_val]
      by_cases h1 : z < 0
      · simp only [h1, decide_true, if_true]; rw [if_neg (by omega)]
      · simp only [h1, decide_false, Bool.false_eq_true, if_false]; rw [if_neg (by omega)]
theorem two_pow_lt {a k n : Nat} (h : n < a * k) : 2 ^ n < (2 ^ a) ^ k := by rw [← Nat.pow_mul]; exact Nat.pow_lt_pow_right (by omega) h
theorem shift_one {n : Nat} (h : n ≤ 2047) : shiftS false (zd 1) n = (false, zd ((2 ^ n : Nat) : Int), 0) := by
  have h1 : zd 1 = [1] := by
    unfold zd
    rw [show (1 : Int).natAbs = 1 from rfl, dg_succ (by omega) (by omega), show 1 / 4294967296 = 0 from rfl, dg_zero]
  unfold shiftS
  rw [h1, if_neg (by simp [RightB]), if_neg (by simp), if_neg (by omega), if_neg (by omega)]
  have hv : val 4294967296 [1] = 1 := by simp [val]
  rw [hv, Nat.one_mul, Int.toNat_natCast]
  unfold mkN zd
  have hp : 2 ^ n < 4294967296 ^ 64 := two_pow_lt (a := 32) (k := 64) (by omega)
  rw [if_neg (by have := Nat.pow_pos (n := n) (show 0 < 2 by omega); omega), if_pos hp, Int.natAbs_natCast]
theorem zok_pow {n : Nat} (h : n ≤ 2047) : Zok ((2 ^ n : Nat) : Int) := by
  unfold Zok
  rw [Int.natAbs_natCast]
  exact two_pow_lt (a := 32) (k := 64) (by omega)
theorem zok_le {x y : Int} (hy : Zok y) (h : x.natAbs ≤ y.natAbs) : Zok x := Nat.lt_of_le_of_lt h hy
/-- a valid big integer of a sign and digits is an integer -/
theorem right_z {neg : Bool} {ds : List Nat} (hR : RightB neg ds = true) (hD : Dig 4294967296 ds) : ∃ z, Zok z ∧ neg = decide (z < 0) ∧ ds = zd z := by
  refine ⟨sv neg ds, ?_, ?_, ?_⟩
  · unfold Zok sv; rw [sgn_abs]; exact val_right_lt hR hD
  · have := mkI_sv hR hD
    have h2 : Zok (sv neg ds) := by unfold Zok sv; rw [sgn_abs]; exact val_right_lt hR hD
    rw [mkI_z h2] at this
    exact (congrArg (·.1) this).symm
  · have := mkI_sv hR hD
    have h2 : Zok (sv neg ds) := by unfold Zok sv; rw [sgn_abs]; exact val_right_lt hR hD
    rw [mkI_z h2] at this
    exact (congrArg (·.2.1) this).symm
theorem bitS_z {z : Int} (h : Zok z) (hz : 0 ≤ z) {k : Nat} (hk : k < 2048) : bitS (decide (z < 0)) (zd z) k = z.toNat / 2 ^ k % 2 := by
  have hn : decide (z < 0) = false := by simp; omega
  unfold bitS
  rw [if_neg (by rw [zd_right h]; simp), if_neg (by omega), hn]
  unfold shiftS
  have hR := zd_right h
  rw [hn] at hR
  rw [if_neg (by rw [hR]; simp)]
  by_cases h0 : (zd z).length = 0
  · rw [if_pos h0]
    have : z.natAbs = 0 := by
      rw [← zd_val z, List.length_eq_zero_iff.1 h0]; rfl
    rw [show z.toNat = 0 by omega]
    simp
  · rw [if_neg h0]
    by_cases hk0 : k = 0
    · subst hk0
      simp only [Int.natCast_zero, Int.neg_zero, show ¬ (0 : Int) < 0 by omega, if_false, show ¬ (2048 : Int) < 0 by omega, Int.toNat_zero, Nat.pow_zero, Nat.mul_one, Nat.div_one]
      rw [mkN_right hR (zd_dig z), ← val_head, zd_val]
      congr 1; omega
    · rw [if_pos (by omega), if_neg (by omega)]
      have e1 : (- -(k : Int)).toNat = k := by omega
      rw [e1]
      unfold downN
      simp only [Bool.false_and, Bool.false_eq_true, if_false, Nat.add_zero]
      rw [zd_val, show z.natAbs = z.toNat by omega, ← val_head (mkN false (z.toNat / 2 ^ k)).2.1]
      unfold mkN
      by_cases hq : z.toNat / 2 ^ k = 0
      · rw [if_pos hq, hq]; rfl
      · have hlt : z.toNat / 2 ^ k < 4294967296 ^ 64 := Nat.lt_of_le_of_lt (Nat.div_le_self _ _) (by have : z.natAbs < 4294967296 ^ 64 := h; omega)
        rw [if_neg hq, if_pos hlt, val_dg (by omega)]
theorem BigZ.fr {w w' : World} {A : Nat → Prop} {v : Value} {z : Int} (h : BigZ w A v z) {F : List Nat} (hf : Fr F w w') (hA : ∀ g, A g → g ∉ F) : BigZ w' A v z := by
  obtain ⟨a, c, rfl, h1, h2, h3⟩ := h
  exact ⟨a, c, rfl, h1, h2, h3.keep fun x hx hl => hf.block x hl (hA x (h2 x hx))⟩
theorem BigZ.fr0 {w w' : World} {A : Nat → Prop} {v : Value} {z : Int} (h : BigZ w A v z) (hf : Fr [] w w') : BigZ w' A v z := h.fr hf fun _ _ => by simp
theorem BigZ.mono {w : World} {A B : Nat → Prop} {v : Value} {z : Int} (h : BigZ w A v z) (hA : ∀ g, A g → B g) : BigZ w B v z := by
  obtain ⟨a, c, rfl, h1, h2, h3⟩ := h
  exact ⟨a, c, rfl, h1, fun g hg => hA g (h2 g hg), h3⟩
theorem BigZ.zero (w : World) (A : Nat → Prop) : BigZ w A (.agg #[.bool false, .slice none 0 0]) 0 := by
  refine ⟨none, 0, ?_, ?_, ?_, ?_⟩
  · simp [zd, dg_zero]
  · simp [zd, dg_zero]
  · intro g hg; cases hg
  · simp only [zd, Int.natAbs_zero, dg_zero]; exact ⟨rfl, none, 0, rfl, fun h => by simp at h⟩
end Go.Proofs.Ytjidldfnlejdhaa
end

section
/- Big integers as results of functions. -/
namespace Go.Proofs.Ytjidldfnlejdhaa
set_option linter.unusedVariables false
set_option linter.unusedSimpArgs false
open Go Go.RowKit Go.Proofs.Rg Go.Proofs.Hp Go.Proofs.Bn
/-- the results of a function that returns a big integer in a cell, and an error -/
theorem big_result {fn : Func} {p u : Tmp} (h : fn.results = #[.cell p 41, .tmp u]) {tmps : Array Value} {b : Nat} {w' : World} {x y v : Value} (h4 : tmps.getD p undef = .pointer (some ⟨b, 0, none⟩)) (hb : w'.heap[b]? = some (.cells #[x, y] 41 (0, 0))) (h5 : tmps.getD u undef = v) :
    (results fn tmps).run Try.prog w' = .ok (.tuple #[.agg #[x, y], v]) w' := by
  rw [results_cell2 h, h4]
  simp only [asAddr, Sem.run_pure, Result.andThen]
  rw [run_loadVar_row w' b _ _ _ _ _ hb Try.underlying41 rfl (by kernel_rfl)]
  simp only [h5]
theorem big_result1 {fn : Func} {p : Tmp} (h : fn.results = #[.cell p 41]) {tmps : Array Value} {b : Nat} {w' : World} {x y : Value} (h4 : tmps.getD p undef = .pointer (some ⟨b, 0, none⟩)) (hb : w'.heap[b]? = some (.cells #[x, y] 41 (0, 0))) :
    (results fn tmps).run Try.prog w' = .ok (.agg #[x, y]) w' := by
  rw [results_cell1 h, h4]
  simp only [asAddr, Sem.run_pure, Result.andThen]
  rw [run_loadVar_row w' b _ _ _ _ _ hb Try.underlying41 rfl (by kernel_rfl)]
theorem info_u32' : (Try.prog.info? 71).map (fun i => (i.zero, i.size, i.bytes)) = some (some (.int .u32 0), 1, 4) := by kernel_rfl
/-- append of one digit -/
theorem append_u32 {ops : Array Oper} {rest : List Oper} {o : Oper} {a : Act} {W : World} {Q : Exit → Act → World → Prop} (hgd : o.guard = none) {s x : Operand} (ho : o.op = .call { callee := .builtin .append, args := #[s, x], argTypes := #[39, 39] })
    {base : Nat} {v : Value} {n : Nat} {xs : List Value} (hs : a.eval s = v) (hown : W.ownsRow base 71 1 v n xs) {nb c : Nat} {y : Int} (hx : a.eval x = .slice (some ⟨nb, 0, none⟩) 1 c)
    (hnb : W.heap[nb]? = some (.cells #[.int .u32 y] 71 (0, 0))) (hn : n ≤ 4000000000000) (hbase : base ≤ W.heap.size)
    (h : ∀ g cap w', w'.ownsRow base 71 1 (.slice (some ⟨g, 0, none⟩) (n + 1) cap) (n + 1) (xs ++ [.int .u32 y]) → (∀ b, b < W.heap.size → v.ownBlock ≠ some b → w'.heap[b]? = W.heap[b]?) → Fr v.ownBlock.toList W w' → (v.ownBlock = some g ∨ g = W.heap.size) → g < w'.heap.size →
      wpList Try.prog ops Q rest (a.put o.dst (.slice (some ⟨g, 0, none⟩) (n + 1) cap)) w') : wpList Try.prog ops Q (o :: rest) a W :=
  append_new hgd ho Try.underlying39 info_u32' rfl (by decide) hs hown hx (news := [.int .u32 y]) hnb rfl (by intro u hu; simp at hu; subst hu; rfl) (by unfold maxLen; omega) (by omega) hbase h
end Go.Proofs.Ytjidldfnlejdhaa
end

section
/- Big integers in the heap; Right, digit, trimmed, made. -/
namespace Go.Proofs.Ytjidldfnlejdhaa
set_option linter.unusedVariables false
set_option linter.unusedSimpArgs false
open Go Go.RowKit Go.Proofs.Rg Go.Proofs.Hp Go.Proofs.Bn
set_option maxHeartbeats 2000000 in
theorem Right_calls {w : World} {neg : Bool} {ds : List Nat} {v : Value} (hv : Reads w v ds.length 1 (u32s ds)) (hl : ds.length ≤ 9223372036854775807) :
    Calls Try.prog 64 #[.agg #[.bool neg, v]] w fun e w' => e = .returned (.bool (RightB neg ds)) ∧ Fr [] w w' := by
  obtain ⟨_, a, c, rfl, hav⟩ := hv
  have Hav := Lib.hid hav
  clear hav
  by_cases h0 : ds.length = 0
  · have hd : decide ((ds.length : Int) = 0) = true := by simp [h0]
    have hR : RightB neg ds = !neg := by unfold RightB; rw [if_pos h0]
    have HR := Lib.hid hR
    obtain rfl := List.eq_nil_of_length_eq_zero h0
    clear h0 hR hd
    go_enter Try.func64, Try.ntmps64
    go_wp2
    go_ret
    exact ⟨by rw [HR.out]; rfl, by (repeat first | exact Fr.refl _ _ | assumption | apply Fr.n | apply Fr.d | apply Fr.a | refine Fr.s ?_ (.inr (by simp; try omega)) _)⟩
  · obtain ⟨g, off, rfl, hg, hc⟩ := Hav.out (by omega)
    have hcz := hc (ds.length - 1) _ (u32s_get (by omega))
    have hd : ((ds.length : Int) == 0) = false := by rw [beq_eq_false_iff_ne]; omega
    have hp1 : (1 : Int) ≤ ds.length := by omega
    have hp2 : (ds.length : Int) - 1 < ds.length := by omega
    by_cases h64 : ds.length ≤ 64
    · have hd2 : decide ((ds.length : Int) ≤ 64) = true := by simp; omega
      have hR : RightB neg ds = (((ds.getD (ds.length - 1) 0 : Nat) : Int) != 0) := by
        unfold RightB; rw [if_neg h0, Bool.eq_iff_iff]; simp; omega
      have HR := Lib.hid hR
      have H0 := Lib.hid h0
      generalize ds.getD (ds.length - 1) 0 = y at *
      clear h0 hR hc
      go_enter Try.func64, Try.ntmps64
      go_wp2
      go_ret
      exact ⟨by rw [HR.out]; rfl, by (repeat first | exact Fr.refl _ _ | assumption | apply Fr.n | apply Fr.d | apply Fr.a | refine Fr.s ?_ (.inr (by simp; try omega)) _)⟩
    · have hd2 : decide ((ds.length : Int) ≤ 64) = false := by simp; omega
      have hR : RightB neg ds = false := by
        unfold RightB; rw [if_neg h0, Bool.eq_iff_iff]; simp; omega
      have HR := Lib.hid hR
      have H0 := Lib.hid h0
      clear h0 hcz hR hc
      go_enter Try.func64, Try.ntmps64
      go_wp2
      go_ret
      exact ⟨by rw [HR.out]; rfl, by (repeat first | exact Fr.refl _ _ | assumption | apply Fr.n | apply Fr.d | apply Fr.a | refine Fr.s ?_ (.inr (by simp; try omega)) _)⟩
/-- a digit, and 0 beyond the highest one -/
theorem digit_calls {w : World} {ds : List Nat} {v : Value} (hv : Reads w v ds.length 1 (u32s ds)) (hl : ds.length ≤ 1000000) (i : Nat) :
    Calls Try.prog 81 #[v, .int .i64 i] w fun e w' => e = .returned (.int .u32 (ds.getD i 0 : Nat)) ∧ w = w' := by
  obtain ⟨_, a, c, rfl, hav⟩ := hv
  by_cases h : i < ds.length
  · obtain ⟨g, off, rfl, hg, hc⟩ := hav (by omega)
    have hcz := hc i _ (u32s_get h)
    clear hc hav
    generalize ds.getD i 0 = y at *
    go_enter Try.func81, Try.ntmps81
    go_wp2
    go_ret
    exact ⟨rfl, rfl⟩
  · have h0 : ds.getD i 0 = 0 := by rw [List.getD_eq_getElem?_getD, List.getElem?_eq_none (by omega)]; rfl
    rw [h0]
    clear h0 hav
    go_enter Try.func81, Try.ntmps81
    go_wp2
    go_ret
    exact ⟨rfl, rfl⟩
set_option maxHeartbeats 2000000 in
theorem trimmed_calls {w : World} {ds : List Nat} {a : Option Addr} {c : Nat} (hv : Reads w (.slice a ds.length c) ds.length 1 (u32s ds)) (hD : Dig 4294967296 ds) (hl : ds.length ≤ 1000000) (hc : ds.length ≤ c) :
    Calls Try.prog 75 #[.slice a ds.length c] w fun e w' => e = .returned (.slice a (trimL 4294967296 ds).length c) ∧ w = w' := by
  obtain ⟨_, a', c', he, hav⟩ := hv
  cases he
  have Hav := Lib.hid hav
  have HD := Lib.hid hD
  clear hav hD
  go_enter Try.func75, Try.ntmps75
  go_wp2
  go_loop [0] (fun x => ∃ k : Nat, k ≤ ds.length ∧ x = .slice a k c ∧ trimL 4294967296 (ds.take k) = trimL 4294967296 ds) (fun x => match x with | .slice _ k _ => k | _ => 0)
  case atStart => exact ⟨_, Nat.le_refl _, rfl, by rw [List.take_length]⟩
  case round =>
    obtain ⟨k, hk, rfl, hT⟩ := hrel
    have HT := Lib.hid hT
    clear hT
    cases k with
    | zero =>
      go_wp2
      go_ret
      have hT := HT.out
      rw [List.take_zero] at hT
      exact ⟨by rw [← hT, trimL_nil]; rfl, rfl⟩
    | succ k =>
      obtain ⟨g, off, rfl, hg, hc⟩ := Hav.out (by omega)
      have hcz := hc k _ (u32s_get (by omega))
      have htk : ds.take (k + 1) = ds.take k ++ [ds.getD k 0] := by
        rw [List.take_add_one, List.getElem?_eq_getElem (by omega), List.getD_eq_getElem?_getD, List.getElem?_eq_getElem (by omega)]; rfl
      have Htk := Lib.hid htk
      clear hc htk
      obtain ⟨y, hy⟩ : ∃ y, y = ds.getD k 0 := ⟨_, rfl⟩
      rw [← hy] at hcz Htk
      have Hy := Lib.hid hy
      clear hy
      by_cases hz : y = 0
      · subst hz
        go_wp2
        go_round
        case rel => exact ⟨k, by omega, rfl, by have := HT.out; rwa [Htk.out, trimL_zero] at this⟩
        case measure => simp
      · have hb : ((y : Int) == 0) = false := by rw [beq_eq_false_iff_ne]; omega
        have Hz := Lib.hid hz
        clear hz
        go_wp2
        go_ret
        refine ⟨?_, rfl⟩
        have hT := HT.out
        have hD := HD.out.take (k + 1)
        rw [Htk.out] at hT hD
        rw [trimL_canon (by omega) hD (canon_snoc Hz.out)] at hT
        rw [← hT, List.length_append, List.length_take, Nat.min_eq_left (by omega)]
        rfl
set_option maxHeartbeats 2000000 in
set_option maxRecDepth 100000 in
theorem made_calls {w : World} {neg : Bool} {ds : List Nat} {a : Option Addr} {c : Nat} (hv : Reads w (.slice a ds.length c) ds.length 1 (u32s ds)) (hD : Dig 4294967296 ds) (hl : ds.length ≤ 1000000) (hc : ds.length ≤ c) {A : Nat → Prop} (hlo : ∀ g, (Value.slice a ds.length c).ownBlock = some g → A g) :
    Calls Try.prog 61 #[.bool neg, .slice a ds.length c] w (BigPost w A (mkN neg (val 4294967296 ds))) := by
  have Hlo := Lib.hid hlo
  clear hlo
  have hT := fun w1 (hf : Fr [] w w1) => trimmed_calls (hv.fr hf) hD hl hc
  obtain ⟨k, hk, hkt⟩ := trimL_prefix (by omega : 2 ≤ 4294967296) ds.length rfl hD
  have hkl : (trimL 4294967296 ds).length = k := by rw [hkt, List.length_take, Nat.min_eq_left hk]
  rw [hkl] at hT
  have hr := Reads.take hv hk
  have hu : (u32s ds).take k = u32s (dg 4294967296 (val 4294967296 ds)) := by rw [u32s, u32s, ← List.map_take, ← hkt]; rfl
  rw [hu] at hr
  have hle := dg_length_le (B := 4294967296) (by omega) 64 (n := val 4294967296 ds)
  have h0 := dg_eq_nil (B := 4294967296) (by omega) (n := val 4294967296 ds)
  rw [← List.length_eq_zero_iff] at h0
  have hkl' : (dg 4294967296 (val 4294967296 ds)).length = k := hkl
  rw [hkl'] at hle h0
  have HT := Lib.hid hT
  have Hr := Lib.hid hr
  have Hkl := Lib.hid hkl'
  clear hT hr hu hkt hkl hkl' hv hD
  have hmk : mkN neg (val 4294967296 ds) = if k = 0 then (false, [], 0) else if k ≤ 64 then (neg, dg 4294967296 (val 4294967296 ds), 0) else (false, [], 6) := by
    unfold mkN
    by_cases e : val 4294967296 ds = 0
    · rw [if_pos e, if_pos (h0.2 e)]
    · rw [if_neg e, if_neg (fun h => e (h0.1 h))]
      by_cases e2 : val 4294967296 ds < 4294967296 ^ 64
      · rw [if_pos e2, if_pos (hle.2 e2)]
      · rw [if_neg e2, if_neg (fun h => e2 (hle.1 h))]
  generalize mkN neg (val 4294967296 ds) = r at *
  generalize dg 4294967296 (val 4294967296 ds) = T at *
  clear hle h0
  by_cases hk0 : k = 0
  · rw [if_pos hk0] at hmk
    have Hmk := Lib.hid hmk
    clear hmk
    subst hk0
    go_enter Try.func61, Try.ntmps61
    go_wp2_with fail
    refine (HT.out _ (by (repeat first | exact Fr.refl _ _ | assumption | apply Fr.n | apply Fr.d | apply Fr.a | refine Fr.s ?_ (.inr (by simp; try omega)) _))).mono ?_
    rintro e w1 ⟨rfl, rfl⟩
    go_wp2
    (try simp only [Exit.inBlock, Exit.then])
    have hr := Hmk.out
    subst hr
    refine bodyPost_ret (big_result rfl (b := w.heap.size) (x := .bool false) (y := .slice none 0 0) rfl (by (repeat first | rw [if_pos (by omega)] | rw [if_neg (by omega)] | rw [hp_drew] | rw [hp_drewN] | rw [hp_alloc_size] | rw [hp_setCell_size] | rw [hp_alloc] | rw [hp_setCell] | rw [oMS] | rw [upd_cells] | rw [lSZ] | rw [lSS] | rfl)) rfl) rfl ⟨_, _, ⟨Nat.le_refl _, fun g hg => (by cases hg)⟩, rfl, reads_nil _, by (repeat first | exact Fr.refl _ _ | assumption | apply Fr.n | apply Fr.d | apply Fr.a | refine Fr.s ?_ (.inr (by simp; try omega)) _)⟩
  by_cases hk64 : k ≤ 64
  · rw [if_neg hk0, if_pos hk64] at hmk
    have Hmk := Lib.hid hmk
    clear hmk
    have hd : decide ((64 : Int) < k) = false := by simp; omega
    have hd0 : ((k : Int) == 0) = false := by rw [beq_eq_false_iff_ne]; omega
    have Hk := Lib.hid (And.intro hk0 hk64)
    clear hk0 hk64
    go_enter Try.func61, Try.ntmps61
    go_wp2_with fail
    refine (HT.out _ (by (repeat first | exact Fr.refl _ _ | assumption | apply Fr.n | apply Fr.d | apply Fr.a | refine Fr.s ?_ (.inr (by simp; try omega)) _))).mono ?_
    rintro e w1 ⟨rfl, rfl⟩
    go_wp2
    (try simp only [Exit.inBlock, Exit.then])
    have hr := Hmk.out
    subst hr
    have hTl := Hkl.out
    subst hTl
    exact bodyPost_ret (big_result rfl (b := w.heap.size) (x := .bool neg) (y := .slice a T.length c) rfl (by (repeat first | rw [if_pos (by omega)] | rw [if_neg (by omega)] | rw [hp_drew] | rw [hp_drewN] | rw [hp_alloc_size] | rw [hp_setCell_size] | rw [hp_alloc] | rw [hp_setCell] | rw [oMS] | rw [upd_cells] | rw [lSZ] | rw [lSS] | rfl)) rfl) rfl ⟨_, _, ⟨(show T.length ≤ c by omega), fun g hg => Hlo.out g (own_len a _ _ c c ▸ hg)⟩, rfl, Hr.out.fr (by (repeat first | exact Fr.refl _ _ | assumption | apply Fr.n | apply Fr.d | apply Fr.a | refine Fr.s ?_ (.inr (by simp; try omega)) _)), by (repeat first | exact Fr.refl _ _ | assumption | apply Fr.n | apply Fr.d | apply Fr.a | refine Fr.s ?_ (.inr (by simp; try omega)) _)⟩
  · rw [if_neg hk0, if_neg hk64] at hmk
    have Hmk := Lib.hid hmk
    clear hmk
    have hd : decide ((64 : Int) < k) = true := by simp; omega
    have Hk := Lib.hid (And.intro hk0 hk64)
    clear hk0 hk64
    go_enter Try.func61, Try.ntmps61
    go_wp2_with fail
    refine (HT.out _ (by (repeat first | exact Fr.refl _ _ | assumption | apply Fr.n | apply Fr.d | apply Fr.a | refine Fr.s ?_ (.inr (by simp; try omega)) _))).mono ?_
    rintro e w1 ⟨rfl, rfl⟩
    go_wp2
    (try simp only [Exit.inBlock, Exit.then])
    have hr := Hmk.out
    subst hr
    exact bodyPost_ret (big_result rfl (b := w.heap.size) (x := .bool false) (y := .slice none 0 0) rfl (by (repeat first | rw [if_pos (by omega)] | rw [if_neg (by omega)] | rw [hp_drew] | rw [hp_drewN] | rw [hp_alloc_size] | rw [hp_setCell_size] | rw [hp_alloc] | rw [hp_setCell] | rw [oMS] | rw [upd_cells] | rw [lSZ] | rw [lSS] | rfl)) rfl) rfl ⟨_, _, ⟨Nat.le_refl _, fun g hg => (by cases hg)⟩, rfl, reads_nil _, by (repeat first | exact Fr.refl _ _ | assumption | apply Fr.n | apply Fr.d | apply Fr.a | refine Fr.s ?_ (.inr (by simp; try omega)) _)⟩
end Go.Proofs.Ytjidldfnlejdhaa
end

section
/- Big integers: size, Sub32, carry, against, Clone. -/
namespace Go.Proofs.Ytjidldfnlejdhaa
set_option linter.unusedVariables false
set_option linter.unusedSimpArgs false
open Go Go.RowKit Go.Proofs.Rg Go.Proofs.Hp Go.Proofs.Bn
theorem size_calls {w : World} {n : Int} (h1 : -9223372036854775808 ≤ n) (h2 : n < 9223372036854775808) :
    Calls Try.prog 60 #[.int .i64 n] w fun e w' => e = .returned (.int .u64 (n.natAbs : Nat)) ∧ w = w' := by
  by_cases h : n < 0
  · have hd : decide (n < 0) = true := by simpa using h
    go_enter Try.func60, Try.ntmps60
    go_wp2
    go_ret
    exact ⟨ret_u64 (by show IntKind.u64.wrap (-IntKind.u64.wrap n) = _; rw [wrap_u64, wrap_u64]; omega), rfl⟩
  · have hd : decide (n < 0) = false := by simpa using h
    go_enter Try.func60, Try.ntmps60
    go_wp2
    go_ret
    exact ⟨ret_u64 (by show n = _; omega), rfl⟩
theorem Sub32_calls {w : World} {x y b : Nat} (hx : x < 4294967296) (hy : y < 4294967296) (hb : b ≤ 1) :
    Calls Try.prog 83 #[.int .u32 x, .int .u32 y, .int .u32 b] w fun e w' => e = .returned (.tuple #[.int .u32 ((x + 4294967296 - y - b) % 4294967296 : Nat), .int .u32 (bor x y b : Nat)]) ∧ w = w' := by
  have hbit := sub32_bit hx hy hb
  obtain ⟨d, hdd⟩ : ∃ d, d = (x + 4294967296 - y - b) % 4294967296 := ⟨_, rfl⟩
  have hd : ((x : Int) - y - b) % 4294967296 = (d : Nat) := by omega
  have hdl : d < 4294967296 := by omega
  rw [← hdd] at hbit ⊢
  have e1 : bits BinOp.xor IntKind.u32 IntKind.u32.max (x : Int) = ((4294967295 ^^^ x : Nat) : Int) := u32_xor_nat 4294967295 x (by omega) hx
  have e2 : bits BinOp.xor IntKind.u32 (x : Int) (y : Int) = ((x ^^^ y : Nat) : Int) := u32_xor_nat x y hx hy
  have hn1 : 4294967295 ^^^ x < 4294967296 := Nat.xor_lt_two_pow (n := 32) (by omega) hx
  have hxy : x ^^^ y < 4294967296 := Nat.xor_lt_two_pow (n := 32) hx hy
  have hn2 : 4294967295 ^^^ (x ^^^ y) < 4294967296 := Nat.xor_lt_two_pow (n := 32) (by omega) hxy
  have e3 : bits BinOp.xor IntKind.u32 IntKind.u32.max ((x ^^^ y : Nat) : Int) = ((4294967295 ^^^ (x ^^^ y) : Nat) : Int) := u32_xor_nat 4294967295 (x ^^^ y) (by omega) hxy
  have ha1 : (4294967295 ^^^ x) &&& y < 4294967296 := Nat.lt_of_le_of_lt Nat.and_le_right hy
  have ha2 : (4294967295 ^^^ (x ^^^ y)) &&& d < 4294967296 := Nat.lt_of_le_of_lt Nat.and_le_right hdl
  have e4 : bits BinOp.and IntKind.u32 ((4294967295 ^^^ x : Nat) : Int) (y : Int) = (((4294967295 ^^^ x) &&& y : Nat) : Int) := u32_and_nat _ _ hn1 hy
  have e5 : bits BinOp.and IntKind.u32 ((4294967295 ^^^ (x ^^^ y) : Nat) : Int) (d : Int) = (((4294967295 ^^^ (x ^^^ y)) &&& d : Nat) : Int) := u32_and_nat _ _ hn2 hdl
  have e6 : bits BinOp.or IntKind.u32 (((4294967295 ^^^ x) &&& y : Nat) : Int) (((4294967295 ^^^ (x ^^^ y)) &&& d : Nat) : Int) = ((((4294967295 ^^^ x) &&& y) ||| ((4294967295 ^^^ (x ^^^ y)) &&& d) : Nat) : Int) := u32_or_nat _ _ ha1 ha2
  have hres : bits BinOp.or IntKind.u32 (bits BinOp.and IntKind.u32 (bits BinOp.xor IntKind.u32 IntKind.u32.max (x : Int)) y) (bits BinOp.and IntKind.u32 (bits BinOp.xor IntKind.u32 IntKind.u32.max (bits BinOp.xor IntKind.u32 (x : Int) y)) (((x : Int) - y - b) % 4294967296)) / 2147483648 = (bor x y b : Nat) := by
    rw [hd, e1, e2, e3, e4, e5, e6]; omega
  have Hres := Lib.hid hres
  have Hd := Lib.hid hd
  generalize bor x y b = bb at *
  clear hbit hdd hd hdl e1 e2 hn1 hxy hn2 e3 ha1 ha2 e4 e5 e6 hres
  go_enter Try.func83, Try.ntmps83
  go_wp2
  go_ret2
  exact ⟨by rw [← Hres.out, ← Hd.out]; rfl, rfl⟩
theorem carry_calls {w : World} {c x y : Nat} {b : Nat} (hc : c < 4294967296) (hx : x < 4294967296) (hy : y < 4294967296) (hb : w.heap[b]? = some (.cells #[.int .u32 x, .int .u32 y] 71 (0, 0))) :
    Calls Try.prog 82 #[.int .u64 c, .slice (some ⟨b, 0, none⟩) 2 2] w fun e w' => e = .returned (.tuple #[.int .u32 ((c + x + y) % 4294967296 : Nat), .int .u64 ((c + x + y) / 4294967296 : Nat)]) ∧ w = w' := by
  have b0 := heap_eq_cell hb 0
  have b1 := heap_eq_cell hb 1
  have hl := lt_of_block hb
  have e1 : ((((c + x + y) % 4294967296 : Nat)) : Int) = ((c : Int) + x + y) % 4294967296 := by omega
  have e2 : ((((c + x + y) / 4294967296 : Nat)) : Int) = ((c : Int) + x + y) / 4294967296 := by omega
  have E := Lib.hid (And.intro e1 e2)
  clear hb e1 e2
  go_enter Try.func82, Try.ntmps82
  go_wp2
  refine wp_loop_rounds 3 ?_
  iterate 3 (rw [rounds_succ]; go_wp2)
  go_ret2
  exact ⟨by rw [E.out.1, E.out.2]; rfl, rfl⟩
set_option maxHeartbeats 2000000 in
set_option maxRecDepth 100000 in
theorem against_calls {w : World} {da db : List Nat} {va vb : Value} (ha : Reads w va da.length 1 (u32s da)) (hb : Reads w vb db.length 1 (u32s db)) (hDa : Dig 4294967296 da) (hDb : Dig 4294967296 db) (ca : Canon da) (cb : Canon db) (hla : da.length ≤ 1000000) (hlb : db.length ≤ 1000000) :
    Calls Try.prog 67 #[va, vb] w fun e w' => e = .returned (.int .i64 (cmpN (val 4294967296 da) (val 4294967296 db))) ∧ Drew w w' := by
  obtain ⟨_, a, ac, rfl, haa⟩ := ha
  obtain ⟨_, b, bc, rfl, hbb⟩ := hb
  have Ha := Lib.hid haa
  have Hb := Lib.hid hbb
  clear haa hbb
  obtain ⟨r, hr0⟩ : ∃ r, cmpN (val 4294967296 da) (val 4294967296 db) = r := ⟨_, rfl⟩
  rw [hr0]
  have Hr0 := Lib.hid hr0
  clear hr0
  by_cases hne : da.length = db.length
  rotate_left
  · have hd : ((da.length : Int) != (db.length : Int)) = true := by simp; omega
    by_cases hlt : da.length < db.length
    · have hd2 : decide (da.length < db.length) = true := by simpa using hlt
      have hr := val_lt_len (by omega) hDa hDb cb hlt
      have hc : cmpN (val 4294967296 da) (val 4294967296 db) = -1 := by unfold cmpN; rw [if_pos hr]
      have Hc := Lib.hid hc
      clear hc hr hDa hDb ca cb hne hlt
      go_enter Try.func67, Try.ntmps67
      go_wp2
      go_ret
      exact ⟨by rw [← Hr0.out, Hc.out]; rfl, Drew.refl _⟩
    · have hd2 : decide (da.length < db.length) = false := by simpa using hlt
      have hr := val_lt_len (by omega) hDb hDa ca (by omega)
      have hc : cmpN (val 4294967296 da) (val 4294967296 db) = 1 := by unfold cmpN; rw [if_neg (by omega), if_pos hr]
      have Hc := Lib.hid hc
      clear hc hr hDa hDb ca cb hne hlt
      go_enter Try.func67, Try.ntmps67
      go_wp2
      go_ret
      exact ⟨by rw [← Hr0.out, Hc.out]; rfl, Drew.refl _⟩
  · have hd : ((da.length : Int) != (db.length : Int)) = false := by simp; omega
    have HDa := Lib.hid hDa
    have HDb := Lib.hid hDb
    have Hne := Lib.hid hne
    clear hDa hDb ca cb hne
    go_enter Try.func67, Try.ntmps67
    go_wp2
    go_loopw [5] (fun x wr => ∃ (k : Nat) (z : Int), x = .int .i64 z ∧ z = (k : Int) - 1 ∧ k ≤ da.length ∧ da.drop k = db.drop k ∧ Drew w wr) (fun x _ => (intOf x + 1).toNat)
    case atStart => exact ⟨da.length, _, rfl, rfl, Nat.le_refl _, by rw [List.drop_length, Hne.out, List.drop_length], Drew.refl _⟩
    case round =>
      obtain ⟨k, z, rfl, hz, hk, hdr, m, rfl⟩ := hrel
      have Hdr := Lib.hid hdr
      clear hdr
      cases k with
      | zero =>
        have hz' : z = -1 := by omega
        subst hz'
        clear hz
        have heq := Hdr.out
        rw [List.drop_zero, List.drop_zero] at heq
        have hc : cmpN (val 4294967296 da) (val 4294967296 db) = 0 := by rw [heq]; unfold cmpN; rw [if_neg (by omega), if_neg (by omega)]
        have Hc := Lib.hid hc
        clear hc heq
        go_wp2
        go_ret
        exact ⟨by rw [← Hr0.out, Hc.out]; rfl, m, rfl⟩
      | succ k =>
        obtain rfl : z = (k : Int) := by omega
        clear hz
        have hkb : k < db.length := by have := Hne.out; omega
        obtain ⟨g1, off1, rfl, hg1, hc1⟩ := Ha.out (by omega)
        obtain ⟨g2, off2, rfl, hg2, hc2⟩ := Hb.out (by omega)
        have e1 := hc1 k _ (u32s_get (by omega))
        have e2 := hc2 k _ (u32s_get hkb)
        have hxl := HDa.out.getD (by omega) k
        have hyl := HDb.out.getD (by omega) k
        have htop := fun h => val_lt_top (B := 4294967296) (by omega) HDa.out HDb.out (i := k) (by omega) Hne.out Hdr.out h
        have htop2 := fun h => val_lt_top (B := 4294967296) (by omega) HDb.out HDa.out (i := k) (by omega) Hne.out.symm Hdr.out.symm h
        have hde := drop_eq_succ (i := k) (by omega) Hne.out Hdr.out
        have Htop := Lib.hid htop
        have Htop2 := Lib.hid htop2
        have Hde := Lib.hid hde
        clear hc1 hc2 htop htop2 hde hxl hyl
        generalize da.getD k 0 = x at *
        generalize db.getD k 0 = y at *
        rcases Nat.lt_trichotomy x y with hxy | hxy | hxy
        · have hd1 : decide (x < y) = true := by simpa using hxy
          have hc : cmpN (val 4294967296 da) (val 4294967296 db) = -1 := by unfold cmpN; rw [if_pos (Htop.out hxy)]
          have Hc := Lib.hid hc
          clear hc hxy
          go_wp2
          (refine wp_region_text (by kernel_rfl) (by kernel_rfl) ?_)
          go_wp2
          refine Strict.intro rfl ?_
          go_wp2
          go_ret
          exact ⟨by rw [← Hr0.out, Hc.out]; rfl, m + 1, rfl⟩
        · subst hxy
          go_wp2
          (refine wp_region_text (by kernel_rfl) (by kernel_rfl) ?_)
          go_wp2
          refine Strict.intro rfl ?_
          go_wp2
          (refine wp_region_text (by kernel_rfl) (by kernel_rfl) ?_)
          go_wp2
          refine Strict.intro rfl ?_
          go_wp2
          go_roundw
          case rel => exact ⟨k, _, rfl, rfl, by omega, Hde.out (by first | rfl | trivial), m + 1 + 1, rfl⟩
          case measure => first | (simp [intOf]; done) | (simp [intOf]; omega)
        · have hd1 : decide (x < y) = false := by simp; omega
          have hd2 : decide (y < x) = true := by simpa using hxy
          have hc : cmpN (val 4294967296 da) (val 4294967296 db) = 1 := by unfold cmpN; rw [if_neg (by have := Htop2.out hxy; omega), if_pos (Htop2.out hxy)]
          have Hc := Lib.hid hc
          clear hc hxy
          go_wp2
          (refine wp_region_text (by kernel_rfl) (by kernel_rfl) ?_)
          go_wp2
          refine Strict.intro rfl ?_
          go_wp2
          (refine wp_region_text (by kernel_rfl) (by kernel_rfl) ?_)
          go_wp2
          refine Strict.intro rfl ?_
          go_wp2
          go_ret
          exact ⟨by rw [← Hr0.out, Hc.out]; rfl, m + 1 + 1, rfl⟩
theorem info_u32 : (Try.prog.info? 71).map (fun i => (i.zero, i.size, i.bytes)) = some (some (.int .u32 0), 1, 4) := by kernel_rfl
end Go.Proofs.Ytjidldfnlejdhaa
end
