/- The reference's reader: Signed, End; as a thing in the heap. -/
import Derived.Test.YtfcihdicbncoaaaCg
namespace Go.Proofs.Ytfcihdicbncoaaa
open Go Go.RowKit Go.Proofs.Rg Go.Proofs.Hp Go.Proofs.Bp
theorem rGamma_zero {bs : List Bool} {p : Nat} (h : (rGamma bs p).1.2 ≠ 0) : (rGamma bs p).1.1 = 0 := by rw [rGamma_err h]
set_option maxHeartbeats 2000000 in
theorem RrSigned_calls {w : World} {b p : Nat} {bs : List Bool} {F : List Nat} (hR : RrAt w b bs p F) :
    Calls Try.prog 25 #[.pointer (some ⟨b, 0, none⟩)] w (RrCall w b bs (rSigned bs p) F) := by
  have hG := RrGamma_calls hR
  have hrg := rGamma_range bs p
  have hre := rGamma_zero (bs := bs) (p := p)
  unfold rSigned
  obtain ⟨r, hr⟩ : ∃ r, r = rGamma bs p := ⟨_, rfl⟩
  rw [← hr] at hG hrg hre ⊢
  obtain ⟨⟨x, y⟩, z⟩ := r
  have HG := Lib.hid hG
  clear hG hr
  simp only at hrg hre
  obtain ⟨hx1, hx2⟩ := hrg
  by_cases hy : y = 0
  · subst hy
    clear hre
    by_cases h2 : x % 2 = 1
    · have hu : unfold2 x = -(x / 2) - 1 := by unfold unfold2; rw [if_pos h2]
      have Hu := Lib.hid hu
      have hd : (x % 2 == 0) = false := by simp; omega
      clear hu h2
      go_enter Try.func25, Try.ntmps25
      go_wp2_with fail
      refine HG.out.mono ?_
      rintro e w1 ⟨rfl, h⟩
      have H := Lib.hid h
      clear h
      go_wp2
      go_ret2
      refine ⟨?_, H.out⟩
      rw [Hu.out]; rfl
    · have hu : unfold2 x = x / 2 := by unfold unfold2; rw [if_neg h2]
      have Hu := Lib.hid hu
      have hd : (x % 2 == 0) = true := by simp; omega
      clear hu h2
      go_enter Try.func25, Try.ntmps25
      go_wp2_with fail
      refine HG.out.mono ?_
      rintro e w1 ⟨rfl, h⟩
      have H := Lib.hid h
      clear h
      go_wp2
      go_ret2
      refine ⟨?_, H.out⟩
      rw [Hu.out]; rfl
  · obtain rfl := hre hy
    have hb : (y != 0) = true := by simpa using hy
    clear hre hy
    go_enter Try.func25, Try.ntmps25
    go_wp2_with fail
    refine HG.out.mono ?_
    rintro e w1 ⟨rfl, h⟩
    have H := Lib.hid h
    clear h
    go_wp2
    go_ret2
    exact ⟨rfl, H.out⟩
set_option maxHeartbeats 4000000 in
theorem RrEnd_calls {w : World} {b p : Nat} {bs : List Bool} {F : List Nat} (hR : RrAt w b bs p F) :
    Calls Try.prog 28 #[.pointer (some ⟨b, 0, none⟩)] w fun e w' => e = .returned (.bool (rEnd bs p)) ∧ Drew w w' := by
  have hl := RrLeft_calls hR
  have HR := Lib.hid hR
  obtain ⟨h1, h2, v, hI, rfl⟩ := hR
  obtain ⟨na, nc, rfl, hna, _⟩ := owns_form hI.row
  have b0 := heap_eq_cell hI.blk 0
  have b1 := heap_eq_cell hI.blk 1
  have HI := Lib.hid hI
  have Hna := Lib.hid hna
  have HL := Lib.hid hl
  clear hI hna hl
  by_cases h8 : 7 < bs.length - p
  · have hr : rEnd bs p = false := by unfold rEnd; rw [decide_eq_false (by omega)]; rfl
    have Hr := Lib.hid hr
    have hd : decide ((7 : Int) < ((bs.length - p : Nat) : Int)) = true := by simp; omega
    clear hr h8
    go_enter Try.func28, Try.ntmps28
    go_wp2_with fail
    refine HL.out.mono ?_
    rintro e w1 ⟨rfl, n1, rfl⟩
    go_wp2
    go_ret
    exact ⟨by rw [Hr.out]; rfl, n1, rfl⟩
  have hr : rEnd bs p = (bs.drop p).all fun b => !b := by unfold rEnd; rw [decide_eq_true (by omega)]; rfl
  have Hr := Lib.hid hr
  have hd : decide ((7 : Int) < ((bs.length - p : Nat) : Int)) = false := by simp; omega
  clear hr h8
  go_enter Try.func28, Try.ntmps28
  go_wp2_with fail
  refine HL.out.mono ?_
  rintro e w1 ⟨rfl, n1, rfl⟩
  go_wp2
  go_loopw [3] (fun x wl => ∃ (k : Nat), x = .int .i64 k ∧ p ≤ k ∧ k ≤ bs.length ∧ (∀ j, p ≤ j → j < k → bs[j]? = some false) ∧ Drew w wl) (fun x _ => bs.length - (intOf x).toNat)
  case atStart => exact ⟨p, rfl, by omega, by omega, fun j h1 h2 => by omega, n1, rfl⟩
  case round =>
    obtain ⟨k, rfl, hpk, hk, hz, n2, rfl⟩ := hrel
    have Hz := Lib.hid hz
    clear hz
    by_cases hlt : k < bs.length
    · obtain ⟨g1, rfl⟩ := Hna.out (by omega)
      obtain ⟨bt, hbt⟩ : ∃ x, bs[k]? = some x := ⟨_, List.getElem?_eq_getElem hlt⟩
      have e1 := owns_cell HI.out.row rfl (j := k) (u := .bool bt) (by rw [bos, List.getElem?_map, hbt]; rfl)
      have Hbt := Lib.hid hbt
      clear hbt
      cases bt
      · go_wp2
        go_roundw
        case rel =>
          refine ⟨k + 1, by go_num, by omega, by omega, fun j h1 h2 => ?_, n2, rfl⟩
          by_cases h : j = k
          · subst h; exact Hbt.out
          · exact Hz.out j h1 (by omega)
        case measure => simp [intOf]; omega
      · have hr2 : rEnd bs p = false := by
          rw [Hr.out, List.all_eq_false]
          exact ⟨true, by
            have : (bs.drop p)[k - p]? = some true := by rw [List.getElem?_drop, show p + (k - p) = k by omega]; exact Hbt.out
            exact List.mem_of_getElem? this, by simp⟩
        have Hr2 := Lib.hid hr2
        clear hr2
        go_wp2
        go_ret
        exact ⟨by rw [Hr2.out]; rfl, n2, rfl⟩
    · obtain rfl : k = bs.length := by omega
      have hr2 : rEnd bs p = true := by
        rw [Hr.out, List.all_eq_true]
        intro x hx
        obtain ⟨j, hj⟩ := List.getElem?_of_mem hx
        rw [List.getElem?_drop] at hj
        have h3 := (List.getElem?_eq_some_iff.1 hj).1
        rw [Hz.out (p + j) (by omega) (by omega)] at hj
        simp at hj
        simp [← hj]
      have Hr2 := Lib.hid hr2
      clear hr2
      go_wp2
      go_ret
      exact ⟨by rw [Hr2.out]; rfl, n2, rfl⟩
def rrR (b : Nat) (bs : List Bool) (p : Nat) : Res := ⟨fun w F => RrAt w b bs p F, fun h hk => h.keep hk, fun h => h.lt⟩
section
variable {W w : World} {Ps : List Res} {b p q : Nat} {bs : List Bool} {L : List Nat} {x y : Int}
theorem has_newRr {v : Value} (h : Has W w Ps) (hv : Reads w v L.length 1 (u8s L)) (hL : L.length ≤ 65536) (h256 : ∀ x ∈ L, x < 256) :
    Calls Try.prog 21 #[v] w fun e w' => ∃ b, e = .returned (.tuple #[.pointer (some ⟨b, 0, none⟩), .int .i64 0]) ∧ Has W w' (rrR b (unpack L) 0 :: Ps) :=
  (RNewReader_calls hv hL h256).mono fun e w' ⟨b, F, he, hR, hf, hF⟩ => ⟨b, he, h.new hf hR hF⟩
theorem has_rrBits (h : Has W w (rrR b bs p :: Ps)) (n : Int) {v : Nat} (hr : rBits bs p n = ((v, y), q)) :
    Calls Try.prog 22 #[.pointer (some ⟨b, 0, none⟩), .int .i64 n] w fun e w' => e = .returned (.tuple #[.int .u64 v, .int .i64 y]) ∧ Has W w' (rrR b bs q :: Ps) :=
  h.upd (R := fun e => e = .returned (.tuple #[.int .u64 v, .int .i64 y])) fun F hF => by have := RrBits_calls hF n; rw [hr] at this; exact this.mono fun e w' ⟨he, h1, h2⟩ => ⟨he, F, h1, h2, fun x hx => .inl hx⟩
theorem has_rrGamma (h : Has W w (rrR b bs p :: Ps)) (hr : rGamma bs p = ((x, y), q)) :
    Calls Try.prog 23 #[.pointer (some ⟨b, 0, none⟩)] w fun e w' => e = .returned (.tuple #[.int .i64 x, .int .i64 y]) ∧ Has W w' (rrR b bs q :: Ps) :=
  h.upd (R := fun e => e = .returned (.tuple #[.int .i64 x, .int .i64 y])) fun F hF => by have := RrGamma_calls hF; rw [hr] at this; exact this.mono fun e w' ⟨he, h1, h2⟩ => ⟨he, F, h1, h2, fun x hx => .inl hx⟩
theorem has_rrSigned (h : Has W w (rrR b bs p :: Ps)) (hr : rSigned bs p = ((x, y), q)) :
    Calls Try.prog 25 #[.pointer (some ⟨b, 0, none⟩)] w fun e w' => e = .returned (.tuple #[.int .i64 x, .int .i64 y]) ∧ Has W w' (rrR b bs q :: Ps) :=
  h.upd (R := fun e => e = .returned (.tuple #[.int .i64 x, .int .i64 y])) fun F hF => by have := RrSigned_calls hF; rw [hr] at this; exact this.mono fun e w' ⟨he, h1, h2⟩ => ⟨he, F, h1, h2, fun x hx => .inl hx⟩
theorem has_rrLeft (h : Has W w (rrR b bs p :: Ps)) : Calls Try.prog 26 #[.pointer (some ⟨b, 0, none⟩)] w fun e w' => e = .returned (.int .i64 ((bs.length - p : Nat))) ∧ Drew w w' := by
  obtain ⟨F, h1⟩ := h.head
  exact RrLeft_calls h1
theorem has_rrEnd (h : Has W w (rrR b bs p :: Ps)) : Calls Try.prog 28 #[.pointer (some ⟨b, 0, none⟩)] w fun e w' => e = .returned (.bool (rEnd bs p)) ∧ Drew w w' := by
  obtain ⟨F, h1⟩ := h.head
  exact RrEnd_calls h1
end
end Go.Proofs.Ytfcihdicbncoaaa
