/- BitioOneCode: what the law's function returns. Bytes that came in, opened. -/
import Derived.Test.YtfcihdicbncoaaaBl
import Derived.Test.YtfcihdicbncoaaaLw
namespace Go.Proofs.Ytfcihdicbncoaaa
open Go Go.ChangeShapes Go.WideShapes Go.RowKit Go.Proofs.Rg Go.Proofs.Hp Go.Proofs.Bp Go.Proofs.Lw
theorem rGamma_err {bs : List Bool} {p : Nat} (h : (rGamma bs p).1.2 ≠ 0) : rGamma bs p = ((0, (rGamma bs p).1.2), p) := by
  unfold rGamma at h ⊢
  split at h <;> rename_i h1
  · rw [if_pos h1]
  · rw [if_neg h1]
    split at h <;> rename_i h2
    · rw [if_pos h2]
    · rw [if_neg h2]
      split at h <;> rename_i h3
      · rw [if_pos h3]
      · exact absurd rfl h
theorem rGamma_ok {bs : List Bool} {p : Nat} (h : (rGamma bs p).1.2 = 0) :
    ∃ m : Nat, 1 ≤ m ∧ m ≤ 9223372036854775808 ∧ rGamma bs p = (((m : Int) - 1, 0), p + (2 * m.log2 + 1)) ∧ p + (2 * m.log2 + 1) ≤ bs.length ∧ (bs.drop p).take (2 * m.log2 + 1) = gcode m := by
  unfold rGamma at h ⊢
  split at h <;> rename_i h1
  · cases h
  split at h <;> rename_i h2
  · cases h
  split at h <;> rename_i h3
  · cases h
  rw [if_neg h1, if_neg h2, if_neg h3]
  have hzl : zeros (bs.drop p) < (bs.drop p).length := by rw [List.length_drop]; omega
  have hze := zeros_end hzl
  have hzg : ∀ j, j < zeros (bs.drop p) → (bs.drop p)[j]? = some false := fun j hj => zeros_get hj
  generalize zeros (bs.drop p) = z at *
  obtain ⟨l, hl⟩ : ∃ l, l = (bs.drop (p + z)).take (z + 1) := ⟨_, rfl⟩
  have hll : l.length = z + 1 := by rw [hl, List.length_take, List.length_drop]; omega
  have hl0 : l[0]? = some true := by
    rw [List.getElem?_drop] at hze
    rw [hl, List.getElem?_take, if_pos (by omega), List.getElem?_drop]; exact hze
  rw [← hl] at h3 ⊢
  have hlo := num_pos hl0
  have hhi := num_lt l
  have hdn := digits_num l
  rw [hll] at hlo hhi hdn
  rw [Nat.add_sub_cancel] at hlo
  have hp1 : 1 ≤ 2 ^ z := Nat.one_le_two_pow
  have hlog : (num l).log2 = z := by
    have a1 := (Nat.le_log2 (n := num l) (by omega)).2 hlo
    have a2 := (Nat.log2_lt (n := num l) (by omega)).2 hhi
    omega
  refine ⟨num l, by omega, by omega, by rw [hlog], by rw [hlog]; omega, ?_⟩
  unfold gcode
  rw [hlog, hdn, show 2 * z + 1 = z + (z + 1) by omega, List.take_add, List.drop_drop, ← hl]
  congr 1
  apply List.ext_getElem?
  intro j
  rw [List.getElem?_take, List.getElem?_replicate]
  split
  · exact hzg j (by omega)
  · rfl
theorem flat_u8s (L : List Nat) : (L.map (fun (k : Nat) => [Value.int .u8 k])).flatten = u8s L := by
  induction L with
  | nil => rfl
  | cons x L ih => rw [List.map_cons, List.flatten_cons, ih]; rfl
theorem open_u8s {H : Type} {enc : TypeId × Value → H} {W : World} {base : Nat} {v : Value} {d : DataW H} {ps : List MemPlace} (hval : Value.okWide Try.prog W .any base 24 v)
    (h : DataW.Trod enc Try.prog W 0 (fun _ => true) true 24 v d ps) :
    ∃ (a : Option Addr) (c : Nat) (L : List Nat), v = .slice a L.length c ∧ Reads W (.slice a L.length c) L.length 1 (u8s L) ∧ ∀ x ∈ L, x < 256 := by
  obtain ⟨a, n, c, rfl⟩ := okWide_slice Try.underlying24 hval
  obtain ⟨fuel, hf⟩ := h
  obtain ⟨_, _, xs, hxl, hxs, _, hcell⟩ := open_rows Try.underlying24 (sz := 1) (by kernel_rfl) (by omega) hf
  obtain ⟨L, hL, hLx⟩ : ∃ L : List Nat, xs = L.map (fun (k : Nat) => [Value.int .u8 k]) ∧ ∀ x ∈ L, x < 256 := by
    have key : ∀ ys : List (List Value), (∀ y ∈ ys, y ∈ xs) → ∃ L : List Nat, ys = L.map (fun (k : Nat) => [Value.int .u8 k]) ∧ ∀ x ∈ L, x < 256 := by
      intro ys
      induction ys with
      | nil => intro _; exact ⟨[], rfl, by simp⟩
      | cons y ys ih =>
        intro hy
        obtain ⟨L, rfl, hL⟩ := ih fun z hz => hy z (by simp [hz])
        obtain ⟨_, fuel, q, hq⟩ := hxs y (hy y (by simp))
        obtain ⟨z, hz, _, hwf⟩ := DataW.trod_int Try.underlying5 hq
        have hb : 0 ≤ z ∧ z ≤ 255 := by simpa [Lit.wf, IntKind.min, IntKind.max, IntKind.signed, IntKind.bits] using hwf
        refine ⟨z.toNat :: L, ?_, ?_⟩
        · rw [hz]
          show [Value.int .u8 z] :: _ = [Value.int .u8 ((z.toNat : Nat) : Int)] :: _
          rw [Int.toNat_of_nonneg hb.1]
        · intro x hx
          rw [List.mem_cons] at hx
          rcases hx with rfl | hx
          · omega
          · exact hL x hx
    exact key xs fun _ h => h
  subst hL
  obtain rfl : L.length = n := by simpa using hxl
  have hfl := flat_u8s L
  rw [hfl] at hcell
  exact ⟨a, c, L, rfl, ⟨by simp [u8s], a, c, rfl, hcell⟩, hLx⟩
theorem wBits_one {xs : List Bool} {b : Bool} (h : xs.length < 524288) : wBits xs b.toNat 1 = (xs ++ [b], 0) := by
  unfold wBits
  rw [if_neg (by omega), if_neg (by cases b <;> decide), if_neg (by show ¬ 524288 < xs.length + 1; omega)]
  cases b <;> rfl
theorem rBits_one {bs : List Bool} {p : Nat} {b : Bool} (h : bs[p]? = some b) : rBits bs p 1 = ((b.toNat, 0), p + 1) := by
  have hl := (List.getElem?_eq_some_iff.1 h).1
  unfold rBits
  rw [if_neg (by omega), if_neg (by show ¬ bs.length < p + 1; omega)]
  have : (bs.drop p).take (1 : Int).toNat = [b] := by
    show (bs.drop p).take (0 + 1) = _
    rw [List.take_add_one, List.getElem?_drop, Nat.add_zero, h]; rfl
  rw [this]
  cases b <;> rfl
set_option maxHeartbeats 4000000 in
set_option maxRecDepth 100000 in
theorem OneCode_calls {W : World} {v : Value} {L : List Nat} (hv : Reads W v L.length 1 (u8s L)) (h256 : ∀ x ∈ L, x < 256) :
    Calls Try.prog 5 #[v] W fun e w' => e = .returned (.bool true) ∧ Fr [] W w' := by
  have hvk := hv
  obtain ⟨_, a, c, rfl, _⟩ := hv
  have Hv := Lib.hid hvk
  have H256 := Lib.hid h256
  clear hvk h256
  by_cases hl : 200 < L.length
  · have hd : decide ((200 : Int) < ↑L.length) = true := by simp; omega
    clear hl
    go_enter Try.func5, Try.ntmps5
    go_wp2_with fail
    refine (awake_calls (Has.nil (Fr.refl [] W))).mono ?_
    rintro e w1 ⟨rfl, h⟩
    have Hf := Lib.hid h.fr
    clear h
    go_wp2
    go_ret
    exact ⟨rfl, Hf.out⟩
  have hd : decide ((200 : Int) < ↑L.length) = false := by simp; omega
  have hl2 : L.length ≤ 200 := by omega
  clear hl
  go_enter Try.func5, Try.ntmps5
  go_wp2_with fail
  refine (has_newRd (Has.nil (Fr.refl [] W)) Hv.out (by omega) H256.out).mono ?_
  rintro e w1 ⟨r, rfl, h⟩
  have H1 := Lib.hid h
  clear h
  go_wp2_with fail
  refine (has_newRd H1.out (Hv.out.fr H1.out.fr) (by omega) H256.out).mono ?_
  rintro e w2 ⟨s, rfl, h⟩
  have H2 := Lib.hid h.swap
  clear h
  have hul := unpack_length L
  obtain ⟨bs, hbs⟩ : ∃ bs, bs = unpack L := ⟨_, rfl⟩
  by_cases hg : (rGamma (unpack L) 0).1.2 = 0
  · obtain ⟨m, hm1, hm2, hr, hq, hcode⟩ := rGamma_ok hg
    have hG := has_rGamma H2.out hr
    have hlm : m.log2 < 64 := (Nat.log2_lt (by omega)).2 (by show m < 2 ^ 64; omega)
    have hwg : wGamma [] ((m : Int) - 1) = (gcode m, 0) := by
      rw [wGamma_nil (by omega) (by omega)]; rw [show ((m : Int) - 1).toNat + 1 = m by omega]
    have hgl := gcode_length m
    rw [List.drop_zero] at hcode
    rw [Nat.zero_add] at hG hq
    rw [hul] at hq
    obtain ⟨N, hN⟩ : ∃ N, N = 2 * m.log2 + 1 := ⟨_, rfl⟩
    rw [← hN] at hG hq hcode hgl
    have hN2 : N ≤ 127 := by omega
    have HG := Lib.hid hG
    have Hwg := Lib.hid hwg
    have Hcode := Lib.hid hcode
    have Hgl := Lib.hid hgl
    have Hul := Lib.hid hul
    clear hG hwg hcode hgl hul hr hg hN hlm hbs
    go_wp2_with fail
    refine HG.out.mono ?_
    rintro e w3 ⟨rfl, h⟩
    have h4 := has_newWr (has_newWr h)
    rw [hp_alloc_size] at h4
    have H4 := Lib.hid h4.swap
    clear h h4
    go_wp2_with fail
    refine (has_wGamma H4.out ((m : Int) - 1) (by omega) Hwg.out).mono ?_
    rintro e w4 ⟨rfl, h⟩
    have H5 := Lib.hid h
    clear h
    have hlen := fun (w' : World) (h : Drew w4 w') => has_wLenCall (H5.out.drew h)
    rw [Hgl.out] at hlen
    have HLen := Lib.hid hlen
    clear hlen
    go_wp2_with fail
    refine (HLen.out _ (Drew.refl _)).mono ?_
    rintro e w5 ⟨rfl, rfl⟩
    go_wp2_with fail
    refine (has_rLeft H5.out.third).mono ?_
    rintro e w5 ⟨rfl, hd5⟩
    have H6 := Lib.hid (H5.out.drew hd5)
    have hlen5 := HLen.out w5 hd5
    have HLen5 := Lib.hid hlen5
    clear hd5 hlen5
    have hNl : N ≤ 8 * L.length := hq
    go_wp2_with fail
    refine HLen5.out.mono ?_
    rintro e w6 ⟨rfl, rfl⟩
    go_wp2_with fail
    go_loopw [71] (fun x wl => ∃ k : Nat, x = .int .i64 k ∧ k ≤ N ∧ Has W wl [rd s L k, wrR (w3.heap.size + 1) ((unpack L).take k), wrR w3.heap.size (gcode m), rd r L N]) (fun x _ => N - (intOf x).toNat)
    case atStart => exact ⟨0, rfl, by omega, H6.out.fourth.perm (List.Perm.cons _ (List.Perm.swap _ _ _))⟩
    case round =>
      obtain ⟨k, rfl, hk, hH⟩ := hrel
      have HH := Lib.hid hH
      clear hH
      by_cases hlt : k < N
      · obtain ⟨bt, hbt⟩ : ∃ bt, (unpack L)[k]? = some bt := ⟨_, List.getElem?_eq_getElem (by rw [Hul.out]; omega)⟩
        have hrb := rBits_one hbt
        have htk : (unpack L).take (k + 1) = (unpack L).take k ++ [bt] := by rw [List.take_add_one, hbt]; rfl
        have hwb := wBits_one (xs := (unpack L).take k) (b := bt) (by rw [List.length_take]; omega)
        rw [← htk] at hwb
        have Hrb := Lib.hid hrb
        have Hwb := Lib.hid hwb
        clear hbt hrb hwb htk
        go_wp2_with fail
        refine (has_rBits HH.out 1 Hrb.out).mono ?_
        rintro e w7 ⟨rfl, h⟩
        have H7 := Lib.hid h.swap
        clear h
        go_wp2_with fail
        refine (has_wBits H7.out (by cases bt <;> decide) 1 Hwb.out).mono ?_
        rintro e w8 ⟨rfl, h⟩
        have H8 := Lib.hid h.swap
        clear h
        go_wp2
        go_roundw
        case rel => exact ⟨k + 1, by go_num, by omega, H8.out⟩
        case measure => simp [intOf]; omega
      · obtain rfl : k = N := by omega
        go_wp2_with fail
        refine (has_wBytes HH.out.third).mono ?_
        rintro e w7 ⟨v1, rfl, h⟩
        have H7 := Lib.hid h
        clear h
        go_wp2_with fail
        refine (has_wBytes H7.out.fourth).mono ?_
        rintro e w8 ⟨v2, rfl, h⟩
        have hr2 := Reads.of_owns h.row
        have hr1 := Reads.of_owns h.third.row
        rw [Hcode.out] at hr2
        have H8 := Lib.hid h
        have Hr1 := Lib.hid hr1
        have Hr2 := Lib.hid hr2
        have hpl := pack_length (gcode m)
        rw [Hgl.out] at hpl
        have hpl2 : (pack (gcode m)).length ≤ 1048576 := by omega
        clear h hr1 hr2 hpl
        go_wp2_with fail
        refine (SameB_calls Hr1.out Hr2.out hpl2).mono ?_
        rintro e w9 ⟨rfl, hd9⟩
        rw [decide_eq_true (rfl : pack (gcode m) = pack (gcode m))]
        have H9 := Lib.hid (H8.out.drew hd9)
        clear hd9
        go_wp2_with fail
        refine (awake_calls H9.out).mono ?_
        rintro e w10 ⟨rfl, h⟩
        have H10 := Lib.hid h.fr
        clear h
        go_wp2
        go_ret
        exact ⟨rfl, H10.out⟩
  · have hG := has_rGamma H2.out (rGamma_err hg)
    obtain ⟨y, hy⟩ : ∃ y, y = (rGamma (unpack L) 0).1.2 := ⟨_, rfl⟩
    rw [← hy] at hG hg
    have HG := Lib.hid hG
    have hb : (y != 0) = true := by simpa using hg
    clear hG hy hg hul hbs
    go_wp2_with fail
    refine HG.out.mono ?_
    rintro e w3 ⟨rfl, h⟩
    have H3 := Lib.hid h
    clear h
    go_wp2_with fail
    refine (has_rLeft H3.out).mono ?_
    rintro e w4 ⟨rfl, hd⟩
    have H4 := Lib.hid (H3.out.drew hd)
    clear hd
    go_wp2_with fail
    refine (awake_calls H4.out).mono ?_
    rintro e w5 ⟨rfl, h⟩
    have H5 := Lib.hid h.fr
    clear h
    go_wp2
    go_ret
    exact ⟨rfl, H5.out⟩
end Go.Proofs.Ytfcihdicbncoaaa
