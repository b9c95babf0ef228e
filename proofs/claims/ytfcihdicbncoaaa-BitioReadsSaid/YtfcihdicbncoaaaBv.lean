/- The writer of package bitio: Bits, Gamma, Signed, Len. -/
import Derived.Test.YtfcihdicbncoaaaBw
import Derived.Lib.ItoaNum
namespace Go.Proofs.Ytfcihdicbncoaaa
open Go Go.RowKit Go.Proofs.Rg Go.Proofs.Hp Go.Proofs.Bp
def wBits (bs : List Bool) (v : Nat) (n : Int) : List Bool × Int :=
  if n < 0 ∨ 64 < n then (bs, 2) else if 2 ^ n.toNat ≤ v then (bs, 5) else if 524288 < bs.length + n.toNat then (bs, 6) else (bs ++ digits v n.toNat, 0)
def wCode (bs : List Bool) (m : Nat) : List Bool × Int := if 524288 < bs.length + (2 * m.log2 + 1) then (bs, 6) else (bs ++ gcode m, 0)
def wGamma (bs : List Bool) (n : Int) : List Bool × Int := if n < 0 then (bs, 5) else wCode bs (n.toNat + 1)
def fold (n : Int) : Int := if 0 ≤ n then 2 * n else -2 * n - 1
theorem fold_nonneg (k : Int) : 0 ≤ fold k := by unfold fold; split <;> omega
def wSigned (bs : List Bool) (n : Int) : List Bool × Int := if n < -4611686018427387904 ∨ 4611686018427387903 < n then (bs, 5) else wCode bs ((fold n).toNat + 1)
theorem bitLen_pos {m : Nat} (h : 1 ≤ m) (h2 : m < 18446744073709551616) : Lib.bitLen m = m.log2 + 1 := by
  obtain ⟨h3, h4, h5⟩ := Lib.bitLenAux_bounds 64 m (by simpa using h2) (by omega)
  have h6 : m.log2 < Lib.bitLenAux 64 m := (Nat.log2_lt (by omega)).2 h5
  have h7 : Lib.bitLenAux 64 m - 1 ≤ m.log2 := (Nat.le_log2 (by omega)).2 h4
  show Lib.bitLenAux 64 m = _
  omega
theorem bitLen_gt {v k : Nat} (h2 : v < 18446744073709551616) : k < Lib.bitLen v ↔ 2 ^ k ≤ v := by
  by_cases h0 : v = 0
  · subst h0
    have : Lib.bitLen 0 = 0 := Lib.bitLenAux_zero 64
    rw [this]
    have := Nat.two_pow_pos k
    omega
  · rw [bitLen_pos (by omega) h2, ← Nat.le_log2 h0]
    omega
theorem Len64_calls (v : Nat) (w : World) (hv : v < 18446744073709551616) : Calls Try.prog 34 #[.int .u64 v] w fun e w' => e = .returned (.int .i64 (Lib.bitLen v)) ∧ w = w' :=
  (Try.bits_Len64 (v : Int) w (by omega) (by omega)).mono fun e w' ⟨h1, h2⟩ => ⟨by rw [h1, Int.toNat_natCast], h2.symm⟩
/-- what a call of a writer leaves -/
def WCall (w : World) (b : Nat) (r : List Bool × Int) (F : List Nat) (e : Ending) (w' : World) : Prop := e = .returned (.int .i64 r.2) ∧ WPost w b r.1 F w'
theorem WCall.same {w w' : World} {b : Nat} {bs : List Bool} {F : List Nat} {r : List Bool × Int} {x : Int} (h : WAt w b bs F) (hf : Fr [] w w') (hr : r = (bs, x)) : WCall w b r F (.returned (.int .i64 x)) w' := by
  subst hr; exact ⟨rfl, WPost.same h hf⟩
set_option maxHeartbeats 2000000 in
theorem Bits_calls {w : World} {b : Nat} {bs : List Bool} {F : List Nat} (hW : WAt w b bs F) {v : Nat} (hv : v < 18446744073709551616) (n : Int) :
    Calls Try.prog 20 #[.pointer (some ⟨b, 0, none⟩), .int .u64 v, .int .i64 n] w (WCall w b (wBits bs v n) F) := by
  have HW := Lib.hid hW
  have Hv := Lib.hid hv
  obtain ⟨hlen, v0, hI, rfl⟩ := hW
  have b1 := heap_eq_cell hI.blk 1
  clear hv hI
  by_cases hn : n < 0 ∨ 64 < n
  · have hr : wBits bs v n = (bs, 2) := by unfold wBits; rw [if_pos hn]
    have Hr := Lib.hid hr
    clear hr
    rcases hn with hn | hn
    · go_enter Try.func20, Try.ntmps20
      go_wp2
      go_ret
      exact WCall.same HW.out (Fr.refl _ _) Hr.out
    · have hn' : ¬ n < 0 := by omega
      go_enter Try.func20, Try.ntmps20
      go_wp2
      go_ret
      exact WCall.same HW.out (Fr.refl _ _) Hr.out
  obtain ⟨k, rfl⟩ : ∃ k : Nat, n = k := ⟨n.toNat, by omega⟩
  have hk : k ≤ 64 := by omega
  have hbl := bitLen_gt (k := k) Hv.out
  have hb64 : Lib.bitLen v ≤ 64 := by
    by_cases h0 : v = 0
    · subst h0; decide
    · rw [bitLen_pos (by omega) Hv.out]
      have := (Nat.log2_lt h0).2 (show v < 2 ^ 64 from Hv.out)
      omega
  have hL : ∀ w1, Calls Try.prog 34 #[.int .u64 v] w1 fun e w' => e = .returned (.int .i64 (Lib.bitLen v)) ∧ w1 = w' := fun w1 => Len64_calls v w1 Hv.out
  generalize Lib.bitLen v = q at *
  have HL := Lib.hid hL
  have Hbl := Lib.hid hbl
  have hput := put_calls HW.out (v := v) (n := k) Hv.out hk
  have Hput := Lib.hid hput
  clear hn hL hbl hput
  go_enter Try.func20, Try.ntmps20
  go_wp2_with fail
  refine (HL.out _).mono ?_
  rintro e w1 ⟨rfl, rfl⟩
  go_wp2_with fail
  any_goals first
    | (go_ret; refine WCall.same HW.out (Fr.refl _ _) ?_; have := Hbl.out; unfold wBits; rw [if_neg (by omega), if_pos (by rw [Int.toNat_natCast]; omega)]; done)
    | (go_ret; refine WCall.same HW.out (Fr.refl _ _) ?_; have := Hbl.out; unfold wBits; rw [if_neg (by omega), if_neg (by rw [Int.toNat_natCast]; omega), if_pos (by omega)]; done)
  refine (Hput.out (by omega)).mono ?_
  rintro e w1 ⟨rfl, h⟩
  have H := Lib.hid h
  clear h
  have hr : wBits bs v k = (bs ++ digits v k, 0) := by
    have := Hbl.out
    unfold wBits; rw [if_neg (by omega), if_neg (by rw [Int.toNat_natCast]; omega), if_neg (by omega), Int.toNat_natCast]
  have Hr := Lib.hid hr
  clear hr
  go_wp2
  go_ret
  rw [Hr.out]
  exact ⟨rfl, H.out⟩
theorem digits0 (k : Nat) : digits 0 k = List.replicate k false := digits_zero k
set_option maxHeartbeats 2000000 in
theorem Gamma_calls {w : World} {b : Nat} {bs : List Bool} {F : List Nat} (hW : WAt w b bs F) (n : Int) (hn2 : n ≤ 9223372036854775807) :
    Calls Try.prog 15 #[.pointer (some ⟨b, 0, none⟩), .int .i64 n] w (WCall w b (wGamma bs n) F) := by
  have HW := Lib.hid hW
  obtain ⟨hlen, v0, hI, rfl⟩ := hW
  have b1 := heap_eq_cell hI.blk 1
  clear hI
  by_cases hn : n < 0
  · have hr : wGamma bs n = (bs, 5) := by unfold wGamma; rw [if_pos hn]
    have Hr := Lib.hid hr
    clear hr
    go_enter Try.func15, Try.ntmps15
    go_wp2
    go_ret
    exact WCall.same HW.out (Fr.refl _ _) Hr.out
  obtain ⟨k, rfl⟩ : ∃ k : Nat, n = k := ⟨n.toNat, by omega⟩
  have hm : k + 1 < 18446744073709551616 := by omega
  have hbl := bitLen_pos (m := k + 1) (by omega) hm
  have hlg : (k + 1).log2 < 64 := (Nat.log2_lt (by omega)).2 (by simpa using hm)
  have hw1 : IntKind.u64.wrap (k : Int) = k := IntWalk.u64_in _ (by omega)
  have hL : ∀ w1, Calls Try.prog 34 #[.int .u64 ((k : Int) + 1)] w1 fun e w' => e = .returned (.int .i64 ((((k + 1).log2 : Nat) : Int) + 1)) ∧ w1 = w' := fun w1 => by
    have := Len64_calls (k + 1) w1 hm
    rw [hbl] at this
    exact this
  have hw2 : IntKind.u64.wrap ((k : Int) + 1) = k + 1 := IntWalk.u64_in _ (by omega)
  have HL := Lib.hid hL
  have Hm := Lib.hid hm
  have Hlg : Hid ((wGamma bs k) = wCode bs (k + 1)) := Lib.hid (by unfold wGamma; rw [if_neg (by omega), Int.toNat_natCast])
  clear hn hbl hL hm hn2
  generalize hg : (k + 1).log2 = g at *
  have Hg := Lib.hid hg
  clear hg
  go_enter Try.func15, Try.ntmps15
  go_wp2_with fail
  refine (HL.out _).mono ?_
  rintro e w1 ⟨rfl, rfl⟩
  go_wp2_with fail
  any_goals (go_ret; refine WCall.same HW.out (Fr.refl _ _) ?_; rw [Hlg.out]; unfold wCode; rw [Hg.out, if_pos (by omega)]; done)
  have hput0 : Calls Try.prog 35 #[.pointer (some ⟨b, 0, none⟩), .int .u64 0, .int .i64 g] w fun e w' => e = .returned (.tuple #[]) ∧ WPost w b (bs ++ digits 0 g) (b :: v0.ownBlock.toList) w' :=
    put_calls HW.out (v := 0) (n := g) (by omega) (by omega) (by omega)
  refine hput0.mono ?_
  clear hput0
  rintro e w1 ⟨rfl, F1, hW1, hf1, hs1⟩
  have hput1 : Calls Try.prog 35 #[.pointer (some ⟨b, 0, none⟩), .int .u64 ((k : Int) + 1), .int .i64 ((g : Int) + 1)] w1 fun e w' => e = .returned (.tuple #[]) ∧ WPost w1 b ((bs ++ digits 0 g) ++ digits (k + 1) (g + 1)) F1 w' :=
    put_calls hW1 (v := k + 1) (n := g + 1) Hm.out (by omega) (by rw [List.length_append, digits_length]; omega)
  have Hput1 := Lib.hid hput1
  have Hf1 := Lib.hid hf1
  have Hs1 := Lib.hid hs1
  clear hput1 hW1 hf1 hs1
  go_wp2_with fail
  refine Hput1.out.mono ?_
  rintro e w2 ⟨rfl, h⟩
  have H := Lib.hid (WPost.trans Hf1.out Hs1.out h)
  clear h
  have hr : wGamma bs k = (bs ++ digits 0 g ++ digits (k + 1) (g + 1), 0) := by
    rw [Hlg.out]; unfold wCode gcode
    rw [Hg.out, if_neg (by omega), digits_zero, List.append_assoc]
  have Hr := Lib.hid hr
  clear hr
  go_wp2
  go_ret
  rw [Hr.out]
  exact ⟨rfl, H.out⟩
set_option maxHeartbeats 1000000 in
theorem Signed_calls {w : World} {b : Nat} {bs : List Bool} {F : List Nat} (hW : WAt w b bs F) (n : Int) :
    Calls Try.prog 29 #[.pointer (some ⟨b, 0, none⟩), .int .i64 n] w (WCall w b (wSigned bs n) F) := by
  have HW := Lib.hid hW
  clear hW
  by_cases hn : n < -4611686018427387904 ∨ 4611686018427387903 < n
  · have hr : wSigned bs n = (bs, 5) := by unfold wSigned; rw [if_pos hn]
    have Hr := Lib.hid hr
    clear hr
    have hd : (decide (n < -4611686018427387904) = true) ∨ (decide (n < -4611686018427387904) = false ∧ decide (4611686018427387903 < n) = true) := by
      rcases hn with hn | hn
      · left; simpa using hn
      · right; exact ⟨by simp; omega, by simpa using hn⟩
    clear hn
    rcases hd with hd | ⟨hd, hd2⟩
    all_goals
      go_enter Try.func29, Try.ntmps29
      go_wp2
      go_ret
      exact WCall.same HW.out (Fr.refl _ _) Hr.out
  · have hr : wSigned bs n = wGamma bs (fold n) := by
      unfold wSigned wGamma
      rw [if_neg hn, if_neg (by unfold fold; split <;> omega)]
    have hfold : fold n = if 0 ≤ n then 2 * n else -2 * n - 1 := rfl
    have hG : Calls Try.prog 15 #[.pointer (some ⟨b, 0, none⟩), .int .i64 (fold n)] w (WCall w b (wSigned bs n) F) := by
      rw [hr]
      exact Gamma_calls HW.out (fold n) (by unfold fold; split <;> omega)
    have hd1 : decide (n < -4611686018427387904) = false := by simp; omega
    have hd2 : decide (4611686018427387903 < n) = false := by simp; omega
    have hb : -4611686018427387904 ≤ n ∧ n ≤ 4611686018427387903 := by omega
    clear hr hn
    by_cases h0 : 0 ≤ n
    · rw [hfold, if_pos h0] at hG
      have HG := Lib.hid hG
      have hd3 : decide (n < 0) = false := by simp; omega
      have hw : IntKind.i64.wrap (2 * n) = 2 * n := IntWalk.i64_in _ (by omega)
      clear hG hfold h0 hb
      go_enter Try.func29, Try.ntmps29
      go_wp2_with fail
      refine HG.out.mono ?_
      rintro e w1 ⟨rfl, h⟩
      have H := Lib.hid h
      clear h
      go_wp2
      go_ret
      exact ⟨rfl, H.out⟩
    · rw [hfold, if_neg h0] at hG
      have HG := Lib.hid hG
      have hd3 : decide (n < 0) = true := by simp; omega
      by_cases hmin : n = -4611686018427387904
      · subst hmin
        rw [show (-2 * (-4611686018427387904 : Int) - 1) = 9223372036854775807 by decide] at hG
        have HG := Lib.hid hG
        clear hG hfold h0 hb
        go_enter Try.func29, Try.ntmps29
        go_wp2_with fail
        rw [show wrap64 (wrap64 9223372036854775808 - 1) = 9223372036854775807 by unfold wrap64; omega]
        refine HG.out.mono ?_
        rintro e w1 ⟨rfl, h⟩
        have H := Lib.hid h
        clear h
        go_wp2
        go_ret
        exact ⟨rfl, H.out⟩
      have hw : IntKind.i64.wrap (-2 * n) = -2 * n := IntWalk.i64_in (-2 * n) (by constructor <;> omega)
      have hw2 : IntKind.i64.wrap (-2 * n - 1) = -2 * n - 1 := IntWalk.i64_in _ (by omega)
      clear hmin
      clear hG hfold h0 hb
      go_enter Try.func29, Try.ntmps29
      go_wp2_with fail
      refine HG.out.mono ?_
      rintro e w1 ⟨rfl, h⟩
      have H := Lib.hid h
      clear h
      go_wp2
      go_ret
      exact ⟨rfl, H.out⟩
set_option maxHeartbeats 2000000 in
theorem Len_calls {w : World} {b : Nat} {bs : List Bool} {F : List Nat} (hW : WAt w b bs F) :
    Calls Try.prog 10 #[.pointer (some ⟨b, 0, none⟩)] w fun e w' => e = .returned (.int .i64 bs.length) ∧ w = w' := by
  obtain ⟨hlen, v0, hI, rfl⟩ := hW
  have b1 := heap_eq_cell hI.blk 1
  clear hI
  go_enter Try.func10, Try.ntmps10
  go_wp2
  go_ret
  exact ⟨rfl, rfl⟩
end Go.Proofs.Ytfcihdicbncoaaa
