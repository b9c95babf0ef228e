/- BitioLengths: what the law's function returns. -/
import Derived.Test.YtfcihdicbncoaaaBs
namespace Go.Proofs.Ytfcihdicbncoaaa
open Go Go.RowKit Go.Proofs.Rg Go.Proofs.Hp Go.Proofs.Bp
theorem wGamma_nil {a : Int} (h : 0 ≤ a) (h2 : a ≤ 9223372036854775807) : wGamma [] a = (gcode (a.toNat + 1), 0) := by
  unfold wGamma wCode
  have hlg : (a.toNat + 1).log2 < 64 := (Nat.log2_lt (by omega)).2 (by show a.toNat + 1 < 2 ^ 64; omega)
  rw [if_neg (by omega), if_neg (by simp; omega)]; rfl
theorem wGamma_neg {bs : List Bool} {a : Int} (h : a < 0) : wGamma bs a = (bs, 5) := by unfold wGamma; rw [if_pos h]
set_option maxHeartbeats 4000000 in
theorem Lengths_calls {W : World} {a b : Int} (ha : -9223372036854775808 ≤ a ∧ a ≤ 9223372036854775807) (hb : -9223372036854775808 ≤ b ∧ b ≤ 9223372036854775807) :
    Calls Try.prog 4 #[.int .i64 a, .int .i64 b] W fun e w' => e = .returned (.bool true) ∧ Fr [] W w' := by
  have h0 := has_newWr (has_newWr (Has.nil (Fr.refl [] W)))
  rw [hp_alloc_size] at h0
  have H0 := Lib.hid h0.swap
  clear h0
  by_cases ha0 : a < 0
  · have hd : decide (a < 0) = true := by simpa using ha0
    have Ha := Lib.hid ha
    go_enter Try.func4, Try.ntmps4
    go_wp2_with fail
    refine (has_wGamma H0.out a ha.2 (wGamma_neg ha0)).mono ?_
    rintro e w1 ⟨rfl, h⟩
    have H1 := Lib.hid h
    clear h
    go_wp2_with fail
    refine (awake_calls H1.out).mono ?_
    rintro e w2 ⟨rfl, h⟩
    have H2 := Lib.hid h.fr
    clear h
    go_wp2
    go_ret
    exact ⟨rfl, H2.out⟩
  have hd : decide (a < 0) = false := by simpa using ha0
  by_cases hb0 : b < 0
  · have hd2 : decide (b < 0) = true := by simpa using hb0
    go_enter Try.func4, Try.ntmps4
    go_wp2_with fail
    refine (has_wGamma H0.out a ha.2 (wGamma_nil (by omega) ha.2)).mono ?_
    rintro e w1 ⟨rfl, h⟩
    have H1 := Lib.hid h.swap
    clear h
    go_wp2_with fail
    refine (has_wGamma H1.out b hb.2 (wGamma_neg hb0)).mono ?_
    rintro e w1 ⟨rfl, h⟩
    have H1 := Lib.hid h
    clear h
    go_wp2_with fail
    refine (awake_calls H1.out).mono ?_
    rintro e w2 ⟨rfl, h⟩
    have H2 := Lib.hid h.fr
    clear h
    go_wp2
    go_ret
    exact ⟨rfl, H2.out⟩
  obtain ⟨m, rfl⟩ : ∃ m : Nat, a = m := ⟨a.toNat, by omega⟩
  obtain ⟨n, rfl⟩ : ∃ n : Nat, b = n := ⟨b.toNat, by omega⟩
  have hg1 : wGamma [] (m : Int) = (gcode (m + 1), 0) := wGamma_nil (by omega) ha.2
  have hg2 : wGamma [] (n : Int) = (gcode (n + 1), 0) := wGamma_nil (by omega) hb.2
  have hmono : m ≤ n → (m + 1).log2 ≤ (n + 1).log2 := fun h => (Nat.le_log2 (by omega)).2 (Nat.le_trans (Nat.log2_self_le (by omega)) (by omega))
  have hlen1 := gcode_length (m + 1)
  have hlen2 := gcode_length (n + 1)
  have hlog : ∀ k, ((1 : Int) < ((m : Int) + 1) / 2 ^ k) ↔ k < (m + 1).log2 := fun k => by
    have h1 : ((m : Int) + 1) / 2 ^ k = (((m + 1) / 2 ^ k : Nat) : Int) := by simp
    rw [h1]
    have h2 : k < (m + 1).log2 ↔ 2 ^ (k + 1) ≤ m + 1 := by rw [← Nat.le_log2 (by omega)]; omega
    have h3 : 2 ≤ (m + 1) / 2 ^ k ↔ 2 * 2 ^ k ≤ m + 1 := Nat.le_div_iff_mul_le (Nat.two_pow_pos k)
    rw [h2, Nat.pow_succ]
    omega
  have hlg : (m + 1).log2 < 64 := (Nat.log2_lt (by omega)).2 (by show m + 1 < 2 ^ 64; omega)
  have hw1 : IntKind.u64.wrap (m : Int) = m := IntWalk.u64_in _ (by omega)
  have hw2 : IntKind.u64.wrap ((m : Int) + 1) = m + 1 := IntWalk.u64_in _ (by omega)
  have ha2 : m ≤ 9223372036854775807 := by omega
  have hb2 : n ≤ 9223372036854775807 := by omega
  have hlg2 : (n + 1).log2 < 64 := (Nat.log2_lt (by omega)).2 (by show n + 1 < 2 ^ 64; omega)
  generalize (m + 1).log2 = g at *
  generalize (n + 1).log2 = g2 at *
  have Hg1 := Lib.hid hg1
  have Hg2 := Lib.hid hg2
  have Hmono := Lib.hid hmono
  have Hlen1 := Lib.hid hlen1
  have Hlen2 := Lib.hid hlen2
  have Hlog := Lib.hid hlog
  have Ha2 := Lib.hid ha2
  have Hb2 := Lib.hid hb2
  clear ha hb hg1 hg2 hmono hlen1 hlen2 hlog ha2 hb2
  go_enter Try.func4, Try.ntmps4
  go_wp2_with fail
  refine (has_wGamma H0.out (m : Int) (by have := Ha2.out; omega) Hg1.out).mono ?_
  rintro e w1 ⟨rfl, h⟩
  have H1 := Lib.hid h.swap
  clear h
  go_wp2_with fail
  refine (has_wGamma H1.out (n : Int) (by have := Hb2.out; omega) Hg2.out).mono ?_
  rintro e w2 ⟨rfl, h⟩
  have H2 := Lib.hid h
  clear h
  go_wp2_with fail
  go_loopw [7] (fun x wr => ∃ k : Nat, x = .int .i64 k ∧ k ≤ g ∧ w2 = wr) (fun x _ => g - (intOf x).toNat)
  case atStart => exact ⟨0, rfl, by omega, rfl⟩
  case round =>
    obtain ⟨k, rfl, hk, rfl⟩ := hrel
    have hwk : IntKind.u64.wrap (k : Int) = k := IntWalk.u64_in _ (by omega)
    by_cases hlt : k < g
    · have hdk : decide ((1 : Int) < ((m : Int) + 1) / 2 ^ k) = true := decide_eq_true ((Hlog.out k).2 hlt)
      go_wp2
      go_roundw
      case rel => exact ⟨k + 1, by go_num, by omega, trivial⟩
      case measure => simp [intOf]; omega
    · obtain rfl : k = g := by omega
      have hdk : decide ((1 : Int) < ((m : Int) + 1) / 2 ^ k) = false := decide_eq_false fun h => by have := (Hlog.out k).1 h; omega
      have hc1 := has_wLenCall H2.out.swap
      rw [Hlen1.out] at hc1
      have hc2 := has_wLenCall H2.out
      rw [Hlen2.out] at hc2
      have hc3 := awake_calls H2.out
      have HC1 := Lib.hid hc1
      have HC2 := Lib.hid hc2
      have HC3 := Lib.hid hc3
      clear hc1 hc2 hc3
      by_cases hmn : m ≤ n
      · have hgg : k ≤ g2 := Hmono.out hmn
        go_wp2_with fail
        refine HC1.out.mono ?_
        rintro e w3 ⟨rfl, rfl⟩
        go_wp2_with fail
        refine HC2.out.mono ?_
        rintro e w3 ⟨rfl, rfl⟩
        go_wp2_with fail
        refine HC1.out.mono ?_
        rintro e w3 ⟨rfl, rfl⟩
        go_wp2_with fail
        refine HC3.out.mono ?_
        rintro e w3 ⟨rfl, h⟩
        have H3 := Lib.hid h.fr
        clear h
        go_wp2
        go_ret
        exact ⟨rfl, H3.out⟩
      · go_wp2_with fail
        refine HC1.out.mono ?_
        rintro e w3 ⟨rfl, rfl⟩
        go_wp2_with fail
        refine HC3.out.mono ?_
        rintro e w3 ⟨rfl, h⟩
        have H3 := Lib.hid h.fr
        clear h
        go_wp2
        go_ret
        exact ⟨rfl, H3.out⟩
end Go.Proofs.Ytfcihdicbncoaaa
