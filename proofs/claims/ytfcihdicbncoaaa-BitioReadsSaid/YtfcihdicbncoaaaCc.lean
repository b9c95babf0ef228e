/- The reference's writer: Bits, Gamma, Signed, Len, Bytes; as a thing in the heap. -/
import Derived.Test.YtfcihdicbncoaaaCb
namespace Go.Proofs.Ytfcihdicbncoaaa
open Go Go.RowKit Go.Proofs.Rg Go.Proofs.Hp Go.Proofs.Bp
theorem RwCall.back {w w1 w' : World} {b : Nat} {F : List Nat} {r : List Bool × Int} {e : Ending} (hf : Fr [] w w1) (h : RwCall w1 b r F e w') : RwCall w b r F e w' := by
  obtain ⟨he, F', h1, h2, h3⟩ := h
  refine ⟨he, F', h1, (hf.mono (by simp)).trans h2 fun x hx => .inl hx, fun x hx => ?_⟩
  rcases h3 x hx with h | h
  · exact .inl h
  · have := hf.size; right; omega
theorem wAdd_bits {bs : List Bool} {v k : Nat} (hk : k ≤ 64) (hv : v < 2 ^ k) : wAdd bs (digits v k) = wBits bs v k := by
  unfold wAdd wBits
  rw [digits_length, if_neg (by omega : ¬ ((k : Int) < 0 ∨ 64 < (k : Int))), Int.toNat_natCast, if_neg (by omega : ¬ 2 ^ k ≤ v)]
theorem wAdd_code {bs : List Bool} {m : Nat} : wAdd bs (gcode m) = wCode bs m := by
  unfold wAdd wCode
  rw [gcode_length]
theorem own_else {w w1 : World} {v : Value} {T n size : Nat} {xs : List Value} {F : List Nat} (hF : ∀ x ∈ F, x < w.heap.size) (ho : w1.ownsRow w.heap.size T size v n xs) : ∀ g, v.ownBlock = some g → g ∉ F :=
  fun g hg hx => by have := hF g hx; have := owns_ge ho hg; omega
set_option maxHeartbeats 4000000 in
theorem RwBits_calls {w : World} {b : Nat} {bs : List Bool} {F : List Nat} (hW : RwAt w b bs F) {v : Nat} (hv : v < 18446744073709551616) (n : Int) :
    Calls Try.prog 30 #[.pointer (some ⟨b, 0, none⟩), .int .u64 v, .int .i64 n] w (RwCall w b (wBits bs v n) F) := by
  have HW := Lib.hid hW
  have Hv := Lib.hid hv
  clear hW hv
  by_cases hn : n < 0 ∨ 64 < n
  · have hr : wBits bs v n = (bs, 2) := by unfold wBits; rw [if_pos hn]
    have Hr := Lib.hid hr
    clear hr
    rcases hn with hn | hn
    · go_enter Try.func30, Try.ntmps30
      go_wp2
      go_ret
      exact RwCall.same HW.out (Fr.refl _ _) Hr.out
    · have hn' : ¬ n < 0 := by omega
      go_enter Try.func30, Try.ntmps30
      go_wp2
      go_ret
      exact RwCall.same HW.out (Fr.refl _ _) Hr.out
  obtain ⟨k, rfl⟩ : ∃ k : Nat, n = k := ⟨n.toNat, by omega⟩
  have hk : k ≤ 64 := by omega
  have hwk : IntKind.u64.wrap (k : Int) = k := IntWalk.u64_in _ (by omega)
  have hsh : (v : Int) / 2 ^ k = ((v / 2 ^ k : Nat) : Int) := by simp
  clear hn
  by_cases hbig : 2 ^ k ≤ v
  · have hr : wBits bs v k = (bs, 5) := by unfold wBits; rw [if_neg (by omega), if_pos (by rw [Int.toNat_natCast]; exact hbig)]
    have hk64 : k < 64 := by
      rcases Nat.lt_or_ge k 64 with h | h
      · exact h
      · have : k = 64 := by omega
        subst this
        have := Hv.out
        omega
    have hb : ((v : Int) / 2 ^ k != 0) = true := by
      rw [hsh]
      have : 1 ≤ v / 2 ^ k := (Nat.le_div_iff_mul_le (Nat.two_pow_pos k)).2 (by omega)
      simp only [bne_iff_ne, ne_eq]
      omega
    have Hr := Lib.hid hr
    clear hr hbig hsh
    go_enter Try.func30, Try.ntmps30
    go_wp2
    go_ret
    exact RwCall.same HW.out (Fr.refl _ _) Hr.out
  · have hb : ((v : Int) / 2 ^ k != 0) = false := by
      rw [hsh, Nat.div_eq_of_lt (by omega)]; rfl
    have hA := wAdd_bits (bs := bs) hk (by omega : v < 2 ^ k)
    have HA := Lib.hid hA
    have hD := Digits_calls (w := w) (v := v) (n := k) Hv.out hk
    have HD := Lib.hid hD
    clear hsh hbig hA hD
    go_enter Try.func30, Try.ntmps30
    go_wp2_with fail
    all_goals
      refine HD.out.mono ?_
      rintro e w1 ⟨v1, rfl, ho, hf⟩
      have hc := add_calls (l := digits v k) (HW.out.fr hf (by simp)) (by rw [digits_length]; exact Reads.of_owns ho) (own_else HW.out.lt ho) (by rw [digits_length]; omega)
      rw [HA.out] at hc
      have HC := Lib.hid hc
      have Hf := Lib.hid hf
      clear ho hf hc
      go_wp2_with fail
      refine HC.out.mono ?_
      rintro e w2 ⟨rfl, h⟩
      have H := Lib.hid h
      clear h
      go_wp2
      go_ret
      exact RwCall.back Hf.out ⟨rfl, H.out⟩
set_option maxHeartbeats 4000000 in
theorem RwGamma_calls {w : World} {b : Nat} {bs : List Bool} {F : List Nat} (hW : RwAt w b bs F) (n : Int) (hn2 : n ≤ 9223372036854775807) :
    Calls Try.prog 31 #[.pointer (some ⟨b, 0, none⟩), .int .i64 n] w (RwCall w b (wGamma bs n) F) := by
  have HW := Lib.hid hW
  clear hW
  by_cases hn : n < 0
  · have hr : wGamma bs n = (bs, 5) := by unfold wGamma; rw [if_pos hn]
    have Hr := Lib.hid hr
    clear hr
    go_enter Try.func31, Try.ntmps31
    go_wp2
    go_ret
    exact RwCall.same HW.out (Fr.refl _ _) Hr.out
  obtain ⟨k, rfl⟩ : ∃ k : Nat, n = k := ⟨n.toNat, by omega⟩
  have hm : k + 1 < 18446744073709551616 := by omega
  have hlg : (k + 1).log2 < 64 := (Nat.log2_lt (by omega)).2 (by simpa using hm)
  have hw1 : IntKind.u64.wrap (k : Int) = k := IntWalk.u64_in _ (by omega)
  have hw2 : IntKind.u64.wrap ((k : Int) + 1) = k + 1 := IntWalk.u64_in _ (by omega)
  have hA : wAdd bs (gcode (k + 1)) = wGamma bs k := by unfold wGamma; rw [if_neg (by omega), Int.toNat_natCast]; exact wAdd_code
  have hgl := gcode_length (k + 1)
  have hD : Calls Try.prog 41 #[.int .u64 ((k : Int) + 1)] w (RowPost w 4 (gcode (k + 1)).length (bos (gcode (k + 1)))) := Code_calls (m := k + 1) (by omega) hm
  have HA := Lib.hid hA
  have Hgl := Lib.hid (by omega : (gcode (k + 1)).length ≤ 1000)
  have HD := Lib.hid hD
  clear hA hD hgl hm hlg hn hn2
  go_enter Try.func31, Try.ntmps31
  go_wp2_with fail
  refine HD.out.mono ?_
  rintro e w1 ⟨v1, rfl, ho, hf⟩
  have hc := add_calls (l := gcode (k + 1)) (HW.out.fr hf (by simp)) (Reads.of_owns ho) (own_else HW.out.lt ho) Hgl.out
  rw [HA.out] at hc
  have HC := Lib.hid hc
  have Hf := Lib.hid hf
  clear ho hf hc
  go_wp2_with fail
  refine HC.out.mono ?_
  rintro e w2 ⟨rfl, h⟩
  have H := Lib.hid h
  clear h
  go_wp2
  go_ret
  exact RwCall.back Hf.out ⟨rfl, H.out⟩
set_option maxHeartbeats 2000000 in
theorem Fold_calls (n : Int) (w : World) (h1 : -4611686018427387904 ≤ n) (h2 : n ≤ 4611686018427387903) : Calls Try.prog 42 #[.int .i64 n] w fun e w' => e = .returned (.int .i64 (fold n)) ∧ w = w' := by
  unfold fold
  by_cases h0 : 0 ≤ n
  · rw [if_pos h0]
    have hw : IntKind.i64.wrap (2 * n) = 2 * n := IntWalk.i64_in _ (by omega)
    have hd : decide (0 ≤ n) = true := by simpa using h0
    clear h0 h1 h2
    go_enter Try.func42, Try.ntmps42
    go_wp2
    go_ret
    exact ⟨rfl, rfl⟩
  · rw [if_neg h0]
    have hd : decide (0 ≤ n) = false := by simpa using h0
    have hw0 : IntKind.i64.wrap (n + 1) = n + 1 := IntWalk.i64_in _ (by omega)
    have hw : IntKind.i64.wrap (-2 * (n + 1)) = -2 * (n + 1) := IntWalk.i64_in _ (by omega)
    have hw2 : IntKind.i64.wrap (-2 * (n + 1) + 1) = -2 * (n + 1) + 1 := IntWalk.i64_in _ (by omega)
    have he : -2 * (n + 1) + 1 = -2 * n - 1 := by omega
    have He := Lib.hid he
    clear h0 h1 h2 he
    go_enter Try.func42, Try.ntmps42
    go_wp2
    go_ret
    exact ⟨by rw [← He.out]; rfl, rfl⟩
set_option maxHeartbeats 4000000 in
theorem RwSigned_calls {w : World} {b : Nat} {bs : List Bool} {F : List Nat} (hW : RwAt w b bs F) (n : Int) :
    Calls Try.prog 32 #[.pointer (some ⟨b, 0, none⟩), .int .i64 n] w (RwCall w b (wSigned bs n) F) := by
  have HW := Lib.hid hW
  clear hW
  by_cases hn : n < -4611686018427387904 ∨ 4611686018427387903 < n
  · have hr : wSigned bs n = (bs, 5) := by unfold wSigned; rw [if_pos hn]
    have Hr := Lib.hid hr
    clear hr
    have hd : (decide (n < -4611686018427387904) = true) ∨ (decide (n < -4611686018427387904) = false ∧ decide (4611686018427387903 < n) = true) := by
      rcases hn with hn | hn
      · left; simpa using hn
      · right; exact ⟨by simp; omega, by simpa using hn⟩
    clear hn
    rcases hd with hd | ⟨hd, hd2⟩
    all_goals
      go_enter Try.func32, Try.ntmps32
      go_wp2
      go_ret
      exact RwCall.same HW.out (Fr.refl _ _) Hr.out
  have hd1 : decide (n < -4611686018427387904) = false := by simp; omega
  have hd2 : decide (4611686018427387903 < n) = false := by simp; omega
  have hF := Fold_calls n w (by omega) (by omega)
  have hA0 : wSigned bs n = wCode bs ((fold n).toNat + 1) := by unfold wSigned; rw [if_neg hn]
  have hf0 := fold_nonneg n
  have hf2 : fold n ≤ 9223372036854775807 := by unfold fold; split <;> omega
  obtain ⟨k, hk⟩ : ∃ k : Nat, fold n = k := ⟨(fold n).toNat, by omega⟩
  rw [hk] at hF hA0 hf2
  have hm : k + 1 < 18446744073709551616 := by omega
  have hlg : (k + 1).log2 < 64 := (Nat.log2_lt (by omega)).2 (by simpa using hm)
  have hw1 : IntKind.u64.wrap (k : Int) = k := IntWalk.u64_in _ (by omega)
  have hw2 : IntKind.u64.wrap ((k : Int) + 1) = k + 1 := IntWalk.u64_in _ (by omega)
  have hA : wAdd bs (gcode (k + 1)) = wSigned bs n := by rw [hA0, Int.toNat_natCast]; exact wAdd_code
  have hgl := gcode_length (k + 1)
  have hD : Calls Try.prog 41 #[.int .u64 ((k : Int) + 1)] w (RowPost w 4 (gcode (k + 1)).length (bos (gcode (k + 1)))) := Code_calls (m := k + 1) (by omega) hm
  have HA := Lib.hid hA
  have Hgl := Lib.hid (by omega : (gcode (k + 1)).length ≤ 1000)
  have HD := Lib.hid hD
  have HF := Lib.hid hF
  clear hA hD hgl hm hlg hn hF hA0 hf0 hf2 hk
  go_enter Try.func32, Try.ntmps32
  go_wp2_with fail
  refine HF.out.mono ?_
  rintro e w1 ⟨rfl, rfl⟩
  go_wp2_with fail
  refine HD.out.mono ?_
  rintro e w1 ⟨v1, rfl, ho, hf⟩
  have hc := add_calls (l := gcode (k + 1)) (HW.out.fr hf (by simp)) (Reads.of_owns ho) (own_else HW.out.lt ho) Hgl.out
  rw [HA.out] at hc
  have HC := Lib.hid hc
  have Hf := Lib.hid hf
  clear ho hf hc
  go_wp2_with fail
  refine HC.out.mono ?_
  rintro e w2 ⟨rfl, h⟩
  have H := Lib.hid h
  clear h
  go_wp2
  go_ret
  exact RwCall.back Hf.out ⟨rfl, H.out⟩
set_option maxHeartbeats 2000000 in
theorem RwLen_calls {w : World} {b : Nat} {bs : List Bool} {F : List Nat} (hW : RwAt w b bs F) :
    Calls Try.prog 11 #[.pointer (some ⟨b, 0, none⟩)] w fun e w' => e = .returned (.int .i64 bs.length) ∧ w = w' := by
  obtain ⟨hlen, v0, hI, rfl⟩ := hW
  obtain ⟨na, nc, rfl, _, _⟩ := owns_form hI.row
  have b0 := heap_eq_cell hI.blk 0
  clear hI
  go_enter Try.func11, Try.ntmps11
  go_wp2
  go_ret
  exact ⟨rfl, rfl⟩
def rwR (b : Nat) (bs : List Bool) : Res := ⟨fun w F => RwAt w b bs F, fun h hk => h.keep hk, fun h => h.lt⟩
section
variable {W w : World} {Ps : List Res} {b : Nat} {bs bs' : List Bool} {x : Int}
theorem has_newRw (h : Has W w Ps) : Has W (w.alloc (.cells #[.slice none 0 0] 29)) (rwR w.heap.size [] :: Ps) :=
  h.new ((Fr.refl [] w).alloc _) (F := [w.heap.size]) ⟨by simp, .slice none 0 0, ⟨by rw [hp_alloc, if_pos rfl], World.ownsRow_nil _ _ _ _, by simp [Value.ownBlock]⟩, rfl⟩ (by simp)
theorem has_rwBits (h : Has W w (rwR b bs :: Ps)) {v : Nat} (hv : v < 18446744073709551616) (n : Int) (hr : wBits bs v n = (bs', x)) :
    Calls Try.prog 30 #[.pointer (some ⟨b, 0, none⟩), .int .u64 v, .int .i64 n] w fun e w' => e = .returned (.int .i64 x) ∧ Has W w' (rwR b bs' :: Ps) :=
  h.upd (R := fun e => e = .returned (.int .i64 x)) fun F hF => by have := RwBits_calls hF hv n; rw [hr] at this; exact this
theorem has_rwGamma (h : Has W w (rwR b bs :: Ps)) (n : Int) (hn : n ≤ 9223372036854775807) (hr : wGamma bs n = (bs', x)) :
    Calls Try.prog 31 #[.pointer (some ⟨b, 0, none⟩), .int .i64 n] w fun e w' => e = .returned (.int .i64 x) ∧ Has W w' (rwR b bs' :: Ps) :=
  h.upd (R := fun e => e = .returned (.int .i64 x)) fun F hF => by have := RwGamma_calls hF n hn; rw [hr] at this; exact this
theorem has_rwSigned (h : Has W w (rwR b bs :: Ps)) (n : Int) (hr : wSigned bs n = (bs', x)) :
    Calls Try.prog 32 #[.pointer (some ⟨b, 0, none⟩), .int .i64 n] w fun e w' => e = .returned (.int .i64 x) ∧ Has W w' (rwR b bs' :: Ps) :=
  h.upd (R := fun e => e = .returned (.int .i64 x)) fun F hF => by have := RwSigned_calls hF n; rw [hr] at this; exact this
theorem has_rwLen (h : Has W w (rwR b bs :: Ps)) : Calls Try.prog 11 #[.pointer (some ⟨b, 0, none⟩)] w fun e w' => e = .returned (.int .i64 bs.length) ∧ w = w' := by
  obtain ⟨F, h1⟩ := h.head
  exact RwLen_calls h1
end
end Go.Proofs.Ytfcihdicbncoaaa
