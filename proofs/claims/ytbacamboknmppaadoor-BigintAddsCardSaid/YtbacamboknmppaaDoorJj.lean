/- math/bits.Div64. -/
import Derived.Test.YtbacamboknmppaaDoorJb
import Derived.Test.YtbacamboknmppaaDoorNc
import Derived.Test.YtbacamboknmppaaDoorSh01
import Derived.Lib.ItoaNum
namespace Go.Proofs.YtbacamboknmppaaDoor
open Go Go.RowKit Go.Proofs.Rg Go.Proofs.Hp Go.Proofs.Bn
set_option linter.unusedVariables false
set_option linter.unusedSimpArgs false
theorem ht_aux (U W : Nat) : (U * 4294967296 + W / 4294967296) * 4294967296 + W % 4294967296 = U * 18446744073709551616 + W := by
  have h := Nat.mod_add_div W 4294967296
  rw [Nat.add_mul, Nat.mul_assoc]
  omega
theorem and_low {x : Nat} (h : x < 18446744073709551616) : bits BinOp.and IntKind.u64 (x : Int) 4294967295 = ((x % 4294967296 : Nat) : Int) := by
  have e := u64_and_nat x 4294967295 h (by omega)
  rw [show (4294967295 : Nat) = 2 ^ 32 - 1 from rfl, Nat.and_two_pow_sub_one_eq_mod] at e
  exact e
theorem half_start {Y y1 y0 U u1 : Nat} (h : Half Y y1 y0 U u1) (hU : U < 18446744073709551616) : ∃ Q R : Nat, ((U : Int) / (y1 : Int)) = (Q : Nat) ∧ IntKind.u64.wrap ((Q : Int) * (y1 : Int)) = ((Q * y1 : Nat) : Int) ∧ ((U : Int) - (Q : Int) * y1) = (R : Nat) ∧ Q ≤ 4294967297 ∧ R < y1 ∧ (U * 4294967296 + u1) / Y ≤ Q ∧ Q * y1 + R = U := by
  have hp : 0 < y1 := by have := h.top; omega
  have hm := Nat.mod_add_div U y1
  have hl := Nat.mod_lt U hp
  have hle : U / y1 * y1 ≤ U := Nat.div_mul_le_self _ _
  rw [Nat.mul_comm] at hm
  have h1 := h.est
  have h2 := h.top_le
  refine ⟨U / y1, U % y1, by simp, ?_, ?_, h1, hl, h2, by omega⟩
  · rw [← Int.natCast_mul]; exact IntWalk.u64_in _ (by omega)
  · rw [← Int.natCast_mul]; omega
theorem EX_aux {U u1 q Y N : Nat} (hN : N = U * 4294967296 + u1) (hq : q = N / Y) (hy : 0 < Y) (hl : Y < 18446744073709551616) :
    IntKind.u64.wrap (IntKind.u64.wrap (IntKind.u64.wrap ((U : Int) * 4294967296) + u1) - IntKind.u64.wrap ((q : Int) * Y)) = ((N % Y : Nat) : Int) := by
  rw [← rest_wrap hq hy hl, ← Int.natCast_mul]
  simp only [wrap_u64]
  generalize q * Y = z
  rw [hN]
  omega
theorem LZ_calls {y : Nat} (h1 : 1 ≤ y) (h2 : y < 18446744073709551616) : ∃ s : Nat, s ≤ 63 ∧ 9223372036854775808 ≤ y * 2 ^ s ∧ y * 2 ^ s < 18446744073709551616 ∧ ∀ w, Calls Tryd.prog 75 #[.int .u64 y] w fun e w' => e = .returned (.int .i64 (s : Nat)) ∧ w = w' := by
  obtain ⟨h3, h4, h5⟩ := Lib.bitLenAux_bounds 64 y (by simpa using h2) (by omega)
  have hc := fun w => Tryd.bits_LeadingZeros64 (y : Int) w (by omega) (by omega)
  have e : Lib.bitLen ((y : Int)).toNat = Lib.bitLenAux 64 y := by rw [Int.toNat_natCast]; rfl
  rw [e] at hc
  generalize Lib.bitLenAux 64 y = L at *
  have hL : L ≤ 64 := by
    rcases Nat.lt_or_ge 64 L with h | h
    · have : 2 ^ 64 ≤ 2 ^ (L - 1) := Nat.pow_le_pow_right (by omega) (by omega)
      omega
    · exact h
  have hL1 : 1 ≤ L := by
    rcases Nat.eq_zero_or_pos L with h | h
    · subst h; omega
    · exact h
  refine ⟨64 - L, by omega, ?_, ?_, fun w => (hc w).mono fun e w' ⟨h, h'⟩ => ⟨by rw [h]; congr 2; omega, h'.symm⟩⟩
  · have : 2 ^ (L - 1) * 2 ^ (64 - L) = 9223372036854775808 := by rw [← Nat.pow_add, show L - 1 + (64 - L) = 63 by omega]
    rw [← this]
    exact Nat.mul_le_mul_right _ h4
  · have : 2 ^ L * 2 ^ (64 - L) = 18446744073709551616 := by rw [← Nat.pow_add, show L + (64 - L) = 64 by omega]
    rw [← this]
    exact Nat.mul_lt_mul_of_pos_right h5 (Nat.pow_pos (by omega))
set_option maxHeartbeats 4000000 in
set_option maxRecDepth 100000 in
theorem Div64_calls {w : World} {hi lo y : Nat} (hlo : lo < 18446744073709551616) (hhi : hi < y) (hy : y < 18446744073709551616) :
    Calls Tryd.prog 64 #[.int .u64 hi, .int .u64 lo, .int .u64 y] w fun e w' => e = .returned (.tuple #[.int .u64 ((hi * 18446744073709551616 + lo) / y : Nat), .int .u64 ((hi * 18446744073709551616 + lo) % y : Nat)]) ∧ Drew w w' := by
  have hy0 : ((y : Int) == 0) = false := by rw [beq_eq_false_iff_ne]; omega
  by_cases h0 : hi = 0
  · subst h0
    rw [Nat.zero_mul, Nat.zero_add]
    have hyp : (0 : Int) < y := by omega
    have hd : decide ((y : Int) ≤ 0) = false := by simp; omega
    have hd2 : decide (y = 0) = false := by simp; omega
    have h1 : ((lo / y : Nat) : Int) = (lo : Int) / y := by simp
    have h2 : ((lo % y : Nat) : Int) = (lo : Int) % y := by simp
    have hle : lo / y ≤ lo := Nat.div_le_self _ _
    generalize lo / y = q at *
    generalize lo % y = r at *
    have e1 := h1.symm
    have e2 := h2.symm
    clear h1 h2 hhi hy
    go_enter Tryd.func64, Tryd.ntmps64
    go_wp2_with fail
    (refine wp_region_text (by kernel_rfl) (by kernel_rfl) ?_)
    go_wp2
    refine Strict.intro rfl ?_
    go_wp2
    go_ret2
    exact ⟨by rw [← e2]; rfl, (Drew.refl _).drew⟩
  · obtain ⟨s, hs, hn1, hn2, hLZ⟩ := LZ_calls (y := y) (by omega) hy
    obtain ⟨f1, f2, f3, f4⟩ := norm_facts hlo hhi (by omega : s ≤ 64) hn2
    have hp := Nat.pow_pos (n := s) (show 0 < 2 by omega)
    have hpos : 0 < y := by omega
    have hqt : (hi * 18446744073709551616 + lo) / y < 18446744073709551616 := by
      rw [Nat.div_lt_iff_lt_mul hpos]
      have : (hi + 1) * 18446744073709551616 ≤ y * 18446744073709551616 := Nat.mul_le_mul_right _ hhi
      omega
    have hd1 : decide (y ≤ hi) = false := by simp; omega
    have hd2 : ((hi : Int) == 0) = false := by rw [beq_eq_false_iff_ne]; omega
    have hsc : IntKind.u64.wrap (s : Int) = s := IntWalk.u64_in _ (by omega)
    -- letters
    obtain ⟨Y, hY⟩ : ∃ Y, Y = y * 2 ^ s := ⟨_, rfl⟩
    obtain ⟨H, hH⟩ : ∃ H, H = hi * 2 ^ s := ⟨_, rfl⟩
    obtain ⟨s', hs'⟩ : ∃ s', s' = 64 - s := ⟨_, rfl⟩
    obtain ⟨L, hL⟩ : ∃ L, L = lo / 2 ^ s' := ⟨_, rfl⟩
    obtain ⟨U, hU⟩ : ∃ U, U = H + L := ⟨_, rfl⟩
    obtain ⟨W, hW⟩ : ∃ W, W = lo * 2 ^ s % 18446744073709551616 := ⟨_, rfl⟩
    obtain ⟨y1, hy1⟩ : ∃ y1, y1 = Y / 4294967296 := ⟨_, rfl⟩
    obtain ⟨y0, hy0'⟩ : ∃ y0, y0 = Y % 4294967296 := ⟨_, rfl⟩
    obtain ⟨u1, hu1⟩ : ∃ u1, u1 = W / 4294967296 := ⟨_, rfl⟩
    obtain ⟨u0, hu0⟩ : ∃ u0, u0 = W % 4294967296 := ⟨_, rfl⟩
    have hWl : W < 18446744073709551616 := by rw [hW]; exact Nat.mod_lt _ (by omega)
    have EY : IntKind.u64.wrap ((y : Int) * 2 ^ s) = (Y : Nat) := by rw [hY, show ((y : Int) * 2 ^ s) = ((y * 2 ^ s : Nat) : Int) by simp]; exact IntWalk.u64_in _ (by omega)
    have EH : IntKind.u64.wrap ((hi : Int) * 2 ^ s) = (H : Nat) := by rw [hH, show ((hi : Int) * 2 ^ s) = ((hi * 2 ^ s : Nat) : Int) by simp]; exact IntWalk.u64_in _ (by omega)
    have EW : IntKind.u64.wrap ((lo : Int) * 2 ^ s) = (W : Nat) := by rw [hW, show ((lo : Int) * 2 ^ s) = ((lo * 2 ^ s : Nat) : Int) by simp, wrap_u64]; simp
    have Es : ((64 : Int) - s) = (s' : Nat) := by omega
    have EL : ((lo : Int) / 2 ^ s') = (L : Nat) := by rw [hL]; simp
    have EU : bits BinOp.or IntKind.u64 (H : Int) (L : Int) = (U : Nat) := by
      rw [u64_or_nat _ _ (by omega) (by rw [hL]; exact Nat.lt_of_le_of_lt (Nat.div_le_self _ _) hlo), hU, hH, hL, hs', f2]
    have Ey1 : ((Y : Int) / 4294967296) = (y1 : Nat) := by omega
    have Ey0 : ((Y : Int) % 4294967296) = (y0 : Nat) := by omega
    have Eu1 : ((W : Int) / 4294967296) = (u1 : Nat) := by omega
    have Eu0 : ((W : Int) % 4294967296) = (u0 : Nat) := by omega
    have Ey0b : bits BinOp.and IntKind.u64 (Y : Int) 4294967295 = (y0 : Nat) := by rw [and_low (by omega), hy0']
    have Eu0b : bits BinOp.and IntKind.u64 (W : Int) 4294967295 = (u0 : Nat) := by rw [and_low (by omega), hu0]
    rw [← hs'] at f2 f3 f4
    rw [← hL, ← hH, ← hU] at f3
    rw [← hY] at f3 hn1 hn2
    rw [← hL, ← hH, ← hU, ← hW] at f4
    have h1 : Half Y y1 y0 U u1 := ⟨by omega, by omega, by omega, by omega, f3, by omega⟩
    obtain ⟨N, hN⟩ : ∃ N, N = U * 4294967296 + u1 := ⟨_, rfl⟩
    obtain ⟨q1, hq1⟩ : ∃ q1, q1 = N / Y := ⟨_, rfl⟩
    obtain ⟨r1, hr1⟩ : ∃ r1, r1 = N % Y := ⟨_, rfl⟩
    have h2 : Half Y y1 y0 r1 u0 := ⟨by omega, by omega, by omega, by omega, by rw [hr1]; exact Nat.mod_lt _ (by omega), by omega⟩
    obtain ⟨q0, hq0⟩ : ∃ q0, q0 = (r1 * 4294967296 + u0) / Y := ⟨_, rfl⟩
    obtain ⟨r0, hr0⟩ : ∃ r0, r0 = (r1 * 4294967296 + u0) % Y := ⟨_, rfl⟩
    obtain ⟨t1, t2⟩ := two_halves (y := Y) (N := N) (u0 := u0) (by omega)
    have ht : N * 4294967296 + u0 = (hi * 18446744073709551616 + lo) * 2 ^ s := by
      rw [← f4, hN, hu0, hu1]; exact ht_aux U W
    rw [ht, hY, Nat.mul_div_mul_right _ _ hp, ← hY, ← hq1, ← hr1, ← hq0] at t1
    rw [ht, hY, Nat.mul_mod_mul_right, ← hY, ← hr1, ← hr0] at t2
    have hr0s : r0 / 2 ^ s = (hi * 18446744073709551616 + lo) % y := by rw [t2, Nat.mul_div_cancel _ hp]
    rw [← t1, ← hr0s]
    rw [← t1] at hqt
    have hUb : U < 18446744073709551616 := Nat.lt_trans h1.less hn2
    obtain ⟨Q0, R0, EQ, EP, ER, hS1⟩ := half_start h1 hUb
    have HQ := Lib.hid hS1
    have EX := EX_aux hN hq1 (show 0 < Y by omega) hn2
    rw [← hr1] at EX
    have EX2 := EX_aux (U := r1) (u1 := u0) rfl hq0 (show 0 < Y by omega) hn2
    rw [← hr0] at EX2
    have HX2 := Lib.hid EX2
    have hQ0b := HQ.out.1
    have hPb : Q0 * y1 ≤ U := by have := HQ.out.2.2.2; omega
    have hr1Y : r1 < Y := h2.less
    obtain ⟨Q2, R2, EQ2, EP2, ER2, hS2⟩ := half_start h2 (by omega)
    have HS := Lib.hid (And.intro EX (And.intro EQ2 (And.intro (And.intro EP2 ER2) hS2)))
    have H := Lib.hid h1
    have H9 := Lib.hid (show q1 = (U * 4294967296 + u1) / Y by rw [← hN]; exact hq1)
    have HQ1' := H9
    have HQ0' := Lib.hid hq0
    clear hS1 hS2 EX EX2 EQ2 EP2 ER2 hr1Y
    have hyd : ((y1 : Int) == 0) = false := by rw [beq_eq_false_iff_ne]; have := h1.top; omega
    have hyd2 : decide (y1 = 0) = false := by rw [decide_eq_false_iff_not]; have := h1.top; omega
    have hy1b := h1.le1
    have hy0b := h1.le0
    have hu1b := h1.next
    have hu0b := h2.next
    have H1 := Lib.hid h1
    have H2 := Lib.hid h2
    have HN := Lib.hid hN
    have Hq1 := Lib.hid hq1
    have Hr1 := Lib.hid hr1
    have Hq0 := Lib.hid hq0
    have Hr0 := Lib.hid hr0
    have HLZ := Lib.hid hLZ
    clear hY h1 h2 hN hq1 hr1 hq0 hr0 hLZ t1 t2 ht hr0s f1 f2 f3 f4 hp hH hL hU hW hs' hu1 hu0 hy1 hy0'
    go_enter Tryd.func64, Tryd.ntmps64
    go_wp2_with fail
    refine (HLZ.out _).mono ?_
    rintro e w1 ⟨rfl, rfl⟩
    go_wp2_with fail
    clear EY EH EW Es EL EU Ey1 Ey0 Eu1 Eu0 Ey0b Eu0b EQ EP ER hqt hQ0b hPb
    go_loop [15, 16] (fun xq xr => ∃ Q R : Nat, xq = .int .u64 Q ∧ xr = .int .u64 R ∧ Q ≤ 4294967297 ∧ R < 4294967296 ∧ (U * 4294967296 + u1) / Y ≤ Q ∧ Q * y1 + R = U) (fun xq _ => (intOf xq).toNat)
    case atStart => exact ⟨_, _, rfl, rfl, HQ.out.1, Nat.lt_trans HQ.out.2.1 hy1b, HQ.out.2.2.1, HQ.out.2.2.2⟩
    case round =>
      obtain ⟨Q, R, rfl, rfl, hQ1, hR1, hQ2, hQ3⟩ := hrel
      have HQ2 := Lib.hid hQ2
      have HQ3 := Lib.hid hQ3
      clear hQ2 hQ3
      by_cases hgo : 4294967296 ≤ Q ∨ 4294967296 * R + u1 < Q * y0
      · obtain ⟨g1, g2, g3⟩ := H.out.less_q HQ3.out HQ2.out hgo
        obtain ⟨Q, rfl⟩ : ∃ q, Q = q + 1 := ⟨Q - 1, by omega⟩
        rw [Nat.add_sub_cancel] at g1 g3
        have Hg := Lib.hid (And.intro g1 g3)
        clear g1 g3 g2
        have hdb : decide ((4294967296 : Int) ≤ (Q : Int) + 1) = decide (4294967296 ≤ Q + 1) := by rw [decide_eq_decide]; omega
        have hcond : ∃ b, decide (4294967296 ≤ Q + 1) = b ∧ (b = false → Q + 1 < 4294967296 ∧ 4294967296 * R + u1 < (Q + 1) * y0) := ⟨_, rfl, fun h => by rw [decide_eq_false_iff_not] at h; exact ⟨by omega, by rcases hgo with hh | hh <;> omega⟩⟩
        obtain ⟨b, hb, hb2⟩ := hcond
        rw [hb] at hdb
        obtain ⟨M, hM⟩ : ∃ M, M = (Q + 1) * y0 := ⟨_, rfl⟩
        have EM : b = false → IntKind.u64.wrap (((Q : Int) + 1) * (y0 : Int)) = (M : Nat) ∧ decide ((4294967296 : Int) * R + u1 < M) = true := fun h => by
          obtain ⟨h1, h2⟩ := hb2 h
          refine ⟨?_, by rw [decide_eq_true_eq]; omega⟩
          rw [hM, show ((Q : Int) + 1) = ((Q + 1 : Nat) : Int) by omega, ← Int.natCast_mul]
          have := H.out.prod_lt (Q := Q + 1) h1
          exact IntWalk.u64_in _ (by omega)
        have HM := Lib.hid EM
        clear hM hb2 hgo hb EM
        by_cases hR2 : 4294967296 ≤ R + y1
        · have hdr : decide ((4294967296 : Int) ≤ (R : Int) + y1) = true := by rw [decide_eq_true_eq]; omega
          have hQq : Q = q1 := by rw [H9.out]; exact H.out.broke Hg.out.2 Hg.out.1 (by omega) hR2
          subst hQq
          cases b
          · obtain ⟨EM, hdm⟩ := HM.out rfl
            have HQ := Lib.hid HS.out.2.2.2
            have H := Lib.hid H2.out
            have H9 := Lib.hid Hq0.out
            obtain ⟨EX, EQ, ⟨EP, ER⟩, hQ0b, _⟩ := HS.out
            have hPb : Q2 * y1 ≤ r1 := by have := HQ.out.2.2.2; omega
            go_wp2_with fail
            clear EX EQ EP ER hQ0b hPb
            go_loop [18, 16] (fun xq xr => ∃ Q R : Nat, xq = .int .u64 Q ∧ xr = .int .u64 R ∧ Q ≤ 4294967297 ∧ R < 4294967296 ∧ (r1 * 4294967296 + u0) / Y ≤ Q ∧ Q * y1 + R = r1) (fun xq _ => (intOf xq).toNat)
            case atStart => exact ⟨_, _, rfl, rfl, HQ.out.1, Nat.lt_trans HQ.out.2.1 hy1b, HQ.out.2.2.1, HQ.out.2.2.2⟩
            case round =>
              obtain ⟨Q, R, rfl, rfl, hQ1, hR1, hQ2, hQ3⟩ := hrel
              have HQ2 := Lib.hid hQ2
              have HQ3 := Lib.hid hQ3
              clear hQ2 hQ3
              by_cases hgo : 4294967296 ≤ Q ∨ 4294967296 * R + u0 < Q * y0
              · obtain ⟨g1, g2, g3⟩ := H.out.less_q HQ3.out HQ2.out hgo
                obtain ⟨Q, rfl⟩ : ∃ q, Q = q + 1 := ⟨Q - 1, by omega⟩
                rw [Nat.add_sub_cancel] at g1 g3
                have Hg := Lib.hid (And.intro g1 g3)
                clear g1 g3 g2
                have hdb : decide ((4294967296 : Int) ≤ (Q : Int) + 1) = decide (4294967296 ≤ Q + 1) := by rw [decide_eq_decide]; omega
                have hcond : ∃ b, decide (4294967296 ≤ Q + 1) = b ∧ (b = false → Q + 1 < 4294967296 ∧ 4294967296 * R + u0 < (Q + 1) * y0) := ⟨_, rfl, fun h => by rw [decide_eq_false_iff_not] at h; exact ⟨by omega, by rcases hgo with hh | hh <;> omega⟩⟩
                obtain ⟨b, hb, hb2⟩ := hcond
                rw [hb] at hdb
                obtain ⟨M, hM⟩ : ∃ M, M = (Q + 1) * y0 := ⟨_, rfl⟩
                have EM : b = false → IntKind.u64.wrap (((Q : Int) + 1) * (y0 : Int)) = (M : Nat) ∧ decide ((4294967296 : Int) * R + u0 < M) = true := fun h => by
                  obtain ⟨h1, h2⟩ := hb2 h
                  refine ⟨?_, by rw [decide_eq_true_eq]; omega⟩
                  rw [hM, show ((Q : Int) + 1) = ((Q + 1 : Nat) : Int) by omega, ← Int.natCast_mul]
                  have := H.out.prod_lt (Q := Q + 1) h1
                  exact IntWalk.u64_in _ (by omega)
                have HM := Lib.hid EM
                clear hM hb2 hgo hb EM
                by_cases hR2 : 4294967296 ≤ R + y1
                · have hdr : decide ((4294967296 : Int) ≤ (R : Int) + y1) = true := by rw [decide_eq_true_eq]; omega
                  have hQq : Q = q0 := by rw [H9.out]; exact H.out.broke Hg.out.2 Hg.out.1 (by omega) hR2
                  subst hQq
                  cases b
                  · obtain ⟨EM, hdm⟩ := HM.out rfl
                    have hqb := H2.out.q_lt
                    have hq1b := H1.out.q_lt
                    have EX2 := HX2.out
                    rw [← HQ0'.out] at hqb
                    rw [← HQ1'.out] at hq1b
                    go_wp2_with fail
                    go_ret2
                    exact ⟨by simp only [Int.natCast_add, Int.natCast_mul, Int.natCast_ediv, Int.natCast_pow]; rfl, Drew.refl _⟩
                  · skip
                    have hqb := H2.out.q_lt
                    have hq1b := H1.out.q_lt
                    have EX2 := HX2.out
                    rw [← HQ0'.out] at hqb
                    rw [← HQ1'.out] at hq1b
                    go_wp2_with fail
                    go_ret2
                    exact ⟨by simp only [Int.natCast_add, Int.natCast_mul, Int.natCast_ediv, Int.natCast_pow]; rfl, Drew.refl _⟩
                · have hdr : decide ((4294967296 : Int) ≤ (R : Int) + y1) = false := by rw [decide_eq_false_iff_not]; omega
                  cases b
                  · obtain ⟨EM, hdm⟩ := HM.out rfl
                    go_wp2_with fail
                    go_round
                    case rel => exact ⟨Q, R + y1, by go_num, by go_num, by omega, by omega, Hg.out.1, Hg.out.2⟩
                    case measure => simp [intOf]
                  · go_wp2_with fail
                    go_round
                    case rel => exact ⟨Q, R + y1, by go_num, by go_num, by omega, by omega, Hg.out.1, Hg.out.2⟩
                    case measure => simp [intOf]
              · have hQq : Q = q0 := by rw [H9.out]; exact H.out.done HQ3.out HQ2.out (by omega)
                subst hQq
                obtain ⟨M, hM⟩ : ∃ M, M = Q * y0 := ⟨_, rfl⟩
                have hdb : decide ((4294967296 : Int) ≤ Q) = false := by rw [decide_eq_false_iff_not]; omega
                have EM : IntKind.u64.wrap ((Q : Int) * (y0 : Int)) = (M : Nat) := by
                  rw [hM, ← Int.natCast_mul]
                  have := H.out.prod_lt (Q := Q) (by omega)
                  exact IntWalk.u64_in _ (by omega)
                have hdm : decide ((4294967296 : Int) * R + u0 < M) = false := by rw [decide_eq_false_iff_not]; omega
                clear hM hgo
                have hqb := H2.out.q_lt
                have hq1b := H1.out.q_lt
                have EX2 := HX2.out
                rw [← HQ0'.out] at hqb
                rw [← HQ1'.out] at hq1b
                go_wp2_with fail
                go_ret2
                exact ⟨by simp only [Int.natCast_add, Int.natCast_mul, Int.natCast_ediv, Int.natCast_pow]; rfl, Drew.refl _⟩
          · skip
            have HQ := Lib.hid HS.out.2.2.2
            have H := Lib.hid H2.out
            have H9 := Lib.hid Hq0.out
            obtain ⟨EX, EQ, ⟨EP, ER⟩, hQ0b, _⟩ := HS.out
            have hPb : Q2 * y1 ≤ r1 := by have := HQ.out.2.2.2; omega
            go_wp2_with fail
            clear EX EQ EP ER hQ0b hPb
            go_loop [18, 16] (fun xq xr => ∃ Q R : Nat, xq = .int .u64 Q ∧ xr = .int .u64 R ∧ Q ≤ 4294967297 ∧ R < 4294967296 ∧ (r1 * 4294967296 + u0) / Y ≤ Q ∧ Q * y1 + R = r1) (fun xq _ => (intOf xq).toNat)
            case atStart => exact ⟨_, _, rfl, rfl, HQ.out.1, Nat.lt_trans HQ.out.2.1 hy1b, HQ.out.2.2.1, HQ.out.2.2.2⟩
            case round =>
              obtain ⟨Q, R, rfl, rfl, hQ1, hR1, hQ2, hQ3⟩ := hrel
              have HQ2 := Lib.hid hQ2
              have HQ3 := Lib.hid hQ3
              clear hQ2 hQ3
              by_cases hgo : 4294967296 ≤ Q ∨ 4294967296 * R + u0 < Q * y0
              · obtain ⟨g1, g2, g3⟩ := H.out.less_q HQ3.out HQ2.out hgo
                obtain ⟨Q, rfl⟩ : ∃ q, Q = q + 1 := ⟨Q - 1, by omega⟩
                rw [Nat.add_sub_cancel] at g1 g3
                have Hg := Lib.hid (And.intro g1 g3)
                clear g1 g3 g2
                have hdb : decide ((4294967296 : Int) ≤ (Q : Int) + 1) = decide (4294967296 ≤ Q + 1) := by rw [decide_eq_decide]; omega
                have hcond : ∃ b, decide (4294967296 ≤ Q + 1) = b ∧ (b = false → Q + 1 < 4294967296 ∧ 4294967296 * R + u0 < (Q + 1) * y0) := ⟨_, rfl, fun h => by rw [decide_eq_false_iff_not] at h; exact ⟨by omega, by rcases hgo with hh | hh <;> omega⟩⟩
                obtain ⟨b, hb, hb2⟩ := hcond
                rw [hb] at hdb
                obtain ⟨M, hM⟩ : ∃ M, M = (Q + 1) * y0 := ⟨_, rfl⟩
                have EM : b = false → IntKind.u64.wrap (((Q : Int) + 1) * (y0 : Int)) = (M : Nat) ∧ decide ((4294967296 : Int) * R + u0 < M) = true := fun h => by
                  obtain ⟨h1, h2⟩ := hb2 h
                  refine ⟨?_, by rw [decide_eq_true_eq]; omega⟩
                  rw [hM, show ((Q : Int) + 1) = ((Q + 1 : Nat) : Int) by omega, ← Int.natCast_mul]
                  have := H.out.prod_lt (Q := Q + 1) h1
                  exact IntWalk.u64_in _ (by omega)
                have HM := Lib.hid EM
                clear hM hb2 hgo hb EM
                by_cases hR2 : 4294967296 ≤ R + y1
                · have hdr : decide ((4294967296 : Int) ≤ (R : Int) + y1) = true := by rw [decide_eq_true_eq]; omega
                  have hQq : Q = q0 := by rw [H9.out]; exact H.out.broke Hg.out.2 Hg.out.1 (by omega) hR2
                  subst hQq
                  cases b
                  · obtain ⟨EM, hdm⟩ := HM.out rfl
                    have hqb := H2.out.q_lt
                    have hq1b := H1.out.q_lt
                    have EX2 := HX2.out
                    rw [← HQ0'.out] at hqb
                    rw [← HQ1'.out] at hq1b
                    go_wp2_with fail
                    go_ret2
                    exact ⟨by simp only [Int.natCast_add, Int.natCast_mul, Int.natCast_ediv, Int.natCast_pow]; rfl, Drew.refl _⟩
                  · skip
                    have hqb := H2.out.q_lt
                    have hq1b := H1.out.q_lt
                    have EX2 := HX2.out
                    rw [← HQ0'.out] at hqb
                    rw [← HQ1'.out] at hq1b
                    go_wp2_with fail
                    go_ret2
                    exact ⟨by simp only [Int.natCast_add, Int.natCast_mul, Int.natCast_ediv, Int.natCast_pow]; rfl, Drew.refl _⟩
                · have hdr : decide ((4294967296 : Int) ≤ (R : Int) + y1) = false := by rw [decide_eq_false_iff_not]; omega
                  cases b
                  · obtain ⟨EM, hdm⟩ := HM.out rfl
                    go_wp2_with fail
                    go_round
                    case rel => exact ⟨Q, R + y1, by go_num, by go_num, by omega, by omega, Hg.out.1, Hg.out.2⟩
                    case measure => simp [intOf]
                  · go_wp2_with fail
                    go_round
                    case rel => exact ⟨Q, R + y1, by go_num, by go_num, by omega, by omega, Hg.out.1, Hg.out.2⟩
                    case measure => simp [intOf]
              · have hQq : Q = q0 := by rw [H9.out]; exact H.out.done HQ3.out HQ2.out (by omega)
                subst hQq
                obtain ⟨M, hM⟩ : ∃ M, M = Q * y0 := ⟨_, rfl⟩
                have hdb : decide ((4294967296 : Int) ≤ Q) = false := by rw [decide_eq_false_iff_not]; omega
                have EM : IntKind.u64.wrap ((Q : Int) * (y0 : Int)) = (M : Nat) := by
                  rw [hM, ← Int.natCast_mul]
                  have := H.out.prod_lt (Q := Q) (by omega)
                  exact IntWalk.u64_in _ (by omega)
                have hdm : decide ((4294967296 : Int) * R + u0 < M) = false := by rw [decide_eq_false_iff_not]; omega
                clear hM hgo
                have hqb := H2.out.q_lt
                have hq1b := H1.out.q_lt
                have EX2 := HX2.out
                rw [← HQ0'.out] at hqb
                rw [← HQ1'.out] at hq1b
                go_wp2_with fail
                go_ret2
                exact ⟨by simp only [Int.natCast_add, Int.natCast_mul, Int.natCast_ediv, Int.natCast_pow]; rfl, Drew.refl _⟩
        · have hdr : decide ((4294967296 : Int) ≤ (R : Int) + y1) = false := by rw [decide_eq_false_iff_not]; omega
          cases b
          · obtain ⟨EM, hdm⟩ := HM.out rfl
            go_wp2_with fail
            go_round
            case rel => exact ⟨Q, R + y1, by go_num, by go_num, by omega, by omega, Hg.out.1, Hg.out.2⟩
            case measure => simp [intOf]
          · go_wp2_with fail
            go_round
            case rel => exact ⟨Q, R + y1, by go_num, by go_num, by omega, by omega, Hg.out.1, Hg.out.2⟩
            case measure => simp [intOf]
      · have hQq : Q = q1 := by rw [H9.out]; exact H.out.done HQ3.out HQ2.out (by omega)
        subst hQq
        obtain ⟨M, hM⟩ : ∃ M, M = Q * y0 := ⟨_, rfl⟩
        have hdb : decide ((4294967296 : Int) ≤ Q) = false := by rw [decide_eq_false_iff_not]; omega
        have EM : IntKind.u64.wrap ((Q : Int) * (y0 : Int)) = (M : Nat) := by
          rw [hM, ← Int.natCast_mul]
          have := H.out.prod_lt (Q := Q) (by omega)
          exact IntWalk.u64_in _ (by omega)
        have hdm : decide ((4294967296 : Int) * R + u1 < M) = false := by rw [decide_eq_false_iff_not]; omega
        clear hM hgo
        have HQ := Lib.hid HS.out.2.2.2
        have H := Lib.hid H2.out
        have H9 := Lib.hid Hq0.out
        obtain ⟨EX, EQ, ⟨EP, ER⟩, hQ0b, _⟩ := HS.out
        have hPb : Q2 * y1 ≤ r1 := by have := HQ.out.2.2.2; omega
        go_wp2_with fail
        clear EX EQ EP ER hQ0b hPb
        go_loop [18, 16] (fun xq xr => ∃ Q R : Nat, xq = .int .u64 Q ∧ xr = .int .u64 R ∧ Q ≤ 4294967297 ∧ R < 4294967296 ∧ (r1 * 4294967296 + u0) / Y ≤ Q ∧ Q * y1 + R = r1) (fun xq _ => (intOf xq).toNat)
        case atStart => exact ⟨_, _, rfl, rfl, HQ.out.1, Nat.lt_trans HQ.out.2.1 hy1b, HQ.out.2.2.1, HQ.out.2.2.2⟩
        case round =>
          obtain ⟨Q, R, rfl, rfl, hQ1, hR1, hQ2, hQ3⟩ := hrel
          have HQ2 := Lib.hid hQ2
          have HQ3 := Lib.hid hQ3
          clear hQ2 hQ3
          by_cases hgo : 4294967296 ≤ Q ∨ 4294967296 * R + u0 < Q * y0
          · obtain ⟨g1, g2, g3⟩ := H.out.less_q HQ3.out HQ2.out hgo
            obtain ⟨Q, rfl⟩ : ∃ q, Q = q + 1 := ⟨Q - 1, by omega⟩
            rw [Nat.add_sub_cancel] at g1 g3
            have Hg := Lib.hid (And.intro g1 g3)
            clear g1 g3 g2
            have hdb : decide ((4294967296 : Int) ≤ (Q : Int) + 1) = decide (4294967296 ≤ Q + 1) := by rw [decide_eq_decide]; omega
            have hcond : ∃ b, decide (4294967296 ≤ Q + 1) = b ∧ (b = false → Q + 1 < 4294967296 ∧ 4294967296 * R + u0 < (Q + 1) * y0) := ⟨_, rfl, fun h => by rw [decide_eq_false_iff_not] at h; exact ⟨by omega, by rcases hgo with hh | hh <;> omega⟩⟩
            obtain ⟨b, hb, hb2⟩ := hcond
            rw [hb] at hdb
            obtain ⟨M, hM⟩ : ∃ M, M = (Q + 1) * y0 := ⟨_, rfl⟩
            have EM : b = false → IntKind.u64.wrap (((Q : Int) + 1) * (y0 : Int)) = (M : Nat) ∧ decide ((4294967296 : Int) * R + u0 < M) = true := fun h => by
              obtain ⟨h1, h2⟩ := hb2 h
              refine ⟨?_, by rw [decide_eq_true_eq]; omega⟩
              rw [hM, show ((Q : Int) + 1) = ((Q + 1 : Nat) : Int) by omega, ← Int.natCast_mul]
              have := H.out.prod_lt (Q := Q + 1) h1
              exact IntWalk.u64_in _ (by omega)
            have HM := Lib.hid EM
            clear hM hb2 hgo hb EM
            by_cases hR2 : 4294967296 ≤ R + y1
            · have hdr : decide ((4294967296 : Int) ≤ (R : Int) + y1) = true := by rw [decide_eq_true_eq]; omega
              have hQq : Q = q0 := by rw [H9.out]; exact H.out.broke Hg.out.2 Hg.out.1 (by omega) hR2
              subst hQq
              cases b
              · obtain ⟨EM, hdm⟩ := HM.out rfl
                have hqb := H2.out.q_lt
                have hq1b := H1.out.q_lt
                have EX2 := HX2.out
                rw [← HQ0'.out] at hqb
                rw [← HQ1'.out] at hq1b
                go_wp2_with fail
                go_ret2
                exact ⟨by simp only [Int.natCast_add, Int.natCast_mul, Int.natCast_ediv, Int.natCast_pow]; rfl, Drew.refl _⟩
              · skip
                have hqb := H2.out.q_lt
                have hq1b := H1.out.q_lt
                have EX2 := HX2.out
                rw [← HQ0'.out] at hqb
                rw [← HQ1'.out] at hq1b
                go_wp2_with fail
                go_ret2
                exact ⟨by simp only [Int.natCast_add, Int.natCast_mul, Int.natCast_ediv, Int.natCast_pow]; rfl, Drew.refl _⟩
            · have hdr : decide ((4294967296 : Int) ≤ (R : Int) + y1) = false := by rw [decide_eq_false_iff_not]; omega
              cases b
              · obtain ⟨EM, hdm⟩ := HM.out rfl
                go_wp2_with fail
                go_round
                case rel => exact ⟨Q, R + y1, by go_num, by go_num, by omega, by omega, Hg.out.1, Hg.out.2⟩
                case measure => simp [intOf]
              · go_wp2_with fail
                go_round
                case rel => exact ⟨Q, R + y1, by go_num, by go_num, by omega, by omega, Hg.out.1, Hg.out.2⟩
                case measure => simp [intOf]
          · have hQq : Q = q0 := by rw [H9.out]; exact H.out.done HQ3.out HQ2.out (by omega)
            subst hQq
            obtain ⟨M, hM⟩ : ∃ M, M = Q * y0 := ⟨_, rfl⟩
            have hdb : decide ((4294967296 : Int) ≤ Q) = false := by rw [decide_eq_false_iff_not]; omega
            have EM : IntKind.u64.wrap ((Q : Int) * (y0 : Int)) = (M : Nat) := by
              rw [hM, ← Int.natCast_mul]
              have := H.out.prod_lt (Q := Q) (by omega)
              exact IntWalk.u64_in _ (by omega)
            have hdm : decide ((4294967296 : Int) * R + u0 < M) = false := by rw [decide_eq_false_iff_not]; omega
            clear hM hgo
            have hqb := H2.out.q_lt
            have hq1b := H1.out.q_lt
            have EX2 := HX2.out
            rw [← HQ0'.out] at hqb
            rw [← HQ1'.out] at hq1b
            go_wp2_with fail
            go_ret2
            exact ⟨by simp only [Int.natCast_add, Int.natCast_mul, Int.natCast_ediv, Int.natCast_pow]; rfl, Drew.refl _⟩
end Go.Proofs.YtbacamboknmppaaDoor
