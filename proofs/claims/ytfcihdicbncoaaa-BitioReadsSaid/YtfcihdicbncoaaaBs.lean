/- SameBytes; writers and readers as things in the heap; awake of layer 2. -/
import Derived.Test.YtfcihdicbncoaaaBg
import Derived.Test.YtfcihdicbncoaaaSp
namespace Go.Proofs.Ytfcihdicbncoaaa
open Go Go.RowKit Go.Proofs.Rg Go.Proofs.Hp Go.Proofs.Bp
set_option maxHeartbeats 2000000 in
theorem SameB_calls {w : World} {v1 v2 : Value} {L1 L2 : List Nat} (h1 : Reads w v1 L1.length 1 (u8s L1)) (h2 : Reads w v2 L2.length 1 (u8s L2)) (hl : L1.length ≤ 1048576) :
    Calls Try.prog 12 #[v1, v2] w fun e w' => e = .returned (.bool (decide (L1 = L2))) ∧ Drew w w' := by
  obtain ⟨_, a1, c1, rfl, ha1⟩ := h1
  obtain ⟨_, a2, c2, rfl, ha2⟩ := h2
  have Ha1 := Lib.hid ha1
  have Ha2 := Lib.hid ha2
  clear ha1 ha2
  by_cases he : L1.length = L2.length
  · have hc : ((L1.length : Int) != (L2.length : Int)) = false := by simp; omega
    have He := Lib.hid he
    clear he
    go_enter Try.func12, Try.ntmps12
    go_wp2
    go_loopw [5] (fun x wr => ∃ (k : Nat), x = .int .i64 k ∧ k ≤ L1.length ∧ (∀ j, j < k → L1[j]? = L2[j]?) ∧ Drew w wr) (fun x _ => L1.length - (intOf x).toNat)
    case atStart => exact ⟨0, rfl, by omega, by omega, Drew.refl _⟩
    case round =>
      obtain ⟨k, rfl, hk, hn, m, rfl⟩ := hrel
      have Hn := Lib.hid hn
      clear hn
      by_cases hlt : k < L1.length
      · have hlt2 : k < L2.length := by have := He.out; omega
        obtain ⟨g1, off1, rfl, hg1, hc1⟩ := Ha1.out (by omega)
        obtain ⟨g2, off2, rfl, hg2, hc2⟩ := Ha2.out (by omega)
        obtain ⟨x, hx⟩ : ∃ x, L1[k]? = some x := ⟨_, List.getElem?_eq_getElem hlt⟩
        obtain ⟨y, hy⟩ : ∃ y, L2[k]? = some y := ⟨_, List.getElem?_eq_getElem hlt2⟩
        have e1 := hc1 k (.int .u8 x) (by rw [u8s, List.getElem?_map, hx]; rfl)
        have e2 := hc2 k (.int .u8 y) (by rw [u8s, List.getElem?_map, hy]; rfl)
        have Hx := Lib.hid hx
        have Hy := Lib.hid hy
        clear hc1 hc2 hx hy
        by_cases hxy : x = y
        · subst hxy
          go_wp2
          (refine wp_region_text (by kernel_rfl) (by kernel_rfl) ?_)
          go_wp2
          refine Strict.intro rfl ?_
          go_wp2
          go_roundw
          case rel =>
            refine ⟨k + 1, by go_num, by omega, fun j hj => ?_, ⟨m + 1, rfl⟩⟩
            by_cases h : j = k
            · rw [h, Hx.out, Hy.out]
            · exact Hn.out j (by omega)
          case measure => simp [intOf]; omega
        · have hb : ((x : Int) != (y : Int)) = true := by simp; omega
          have hne : L1 ≠ L2 := fun e => by
            have h1 := Hx.out
            rw [e, Hy.out] at h1
            exact hxy (Option.some.inj h1).symm
          have Hne := Lib.hid hne
          clear hne hxy
          go_wp2
          (refine wp_region_text (by kernel_rfl) (by kernel_rfl) ?_)
          go_wp2
          refine Strict.intro rfl ?_
          go_wp2
          go_ret
          exact ⟨by rw [decide_eq_false Hne.out]; rfl, ⟨m + 1, rfl⟩⟩
      · obtain rfl : k = L1.length := by omega
        have heq : L1 = L2 := List.ext_getElem? fun j => by
          by_cases h : j < L1.length
          · exact Hn.out j h
          · rw [List.getElem?_eq_none (by omega), List.getElem?_eq_none (by have := He.out; omega)]
        have Heq := Lib.hid heq
        clear heq
        go_wp2
        go_ret
        exact ⟨by rw [decide_eq_true Heq.out]; rfl, m, rfl⟩
  · have hc : ((L1.length : Int) != (L2.length : Int)) = true := by simp; omega
    have hne : L1 ≠ L2 := fun e => he (by rw [e])
    have Hne := Lib.hid hne
    clear he hne
    go_enter Try.func12, Try.ntmps12
    go_wp2
    go_ret
    exact ⟨by rw [decide_eq_false Hne.out]; rfl, Drew.refl _⟩
/-! ### Things in the heap -/
def wrR (b : Nat) (bs : List Bool) : Res := ⟨fun w F => WAt w b bs F, fun h hk => h.keep hk, fun h => h.lt⟩
def rd (b : Nat) (L : List Nat) (p : Nat) : Res := ⟨fun w F => RdAt w b L p F, fun h hk => h.keep hk, fun h => h.lt⟩
section
variable {W w : World} {Ps : List Res} {b p : Nat} {bs bs' : List Bool} {L : List Nat} {x y : Int} {q : Nat}
theorem has_newWr (h : Has W w Ps) : Has W (w.alloc (.cells #[.slice none 0 0, .int .i64 0] 26)) (wrR w.heap.size [] :: Ps) :=
  h.new ((Fr.refl [] w).alloc _) (F := [w.heap.size]) ⟨by simp, .slice none 0 0, ⟨by rw [hp_alloc, if_pos rfl]; rfl, World.ownsRow_nil _ _ _ _, by simp [Value.ownBlock]⟩, rfl⟩ (by simp)
theorem has_wLen (h : Has W w (wrR b bs :: Ps)) : bs.length ≤ 524288 := by obtain ⟨F, h1⟩ := h.head; exact h1.1
theorem has_wBits (h : Has W w (wrR b bs :: Ps)) {v : Nat} (hv : v < 18446744073709551616) (n : Int) (hr : wBits bs v n = (bs', x)) :
    Calls Try.prog 20 #[.pointer (some ⟨b, 0, none⟩), .int .u64 v, .int .i64 n] w fun e w' => e = .returned (.int .i64 x) ∧ Has W w' (wrR b bs' :: Ps) :=
  h.upd (R := fun e => e = .returned (.int .i64 x)) fun F hF => by have := Bits_calls hF hv n; rw [hr] at this; exact this
theorem has_wGamma (h : Has W w (wrR b bs :: Ps)) (n : Int) (hn : n ≤ 9223372036854775807) (hr : wGamma bs n = (bs', x)) :
    Calls Try.prog 15 #[.pointer (some ⟨b, 0, none⟩), .int .i64 n] w fun e w' => e = .returned (.int .i64 x) ∧ Has W w' (wrR b bs' :: Ps) :=
  h.upd (R := fun e => e = .returned (.int .i64 x)) fun F hF => by have := Gamma_calls hF n hn; rw [hr] at this; exact this
theorem has_wSigned (h : Has W w (wrR b bs :: Ps)) (n : Int) (hr : wSigned bs n = (bs', x)) :
    Calls Try.prog 29 #[.pointer (some ⟨b, 0, none⟩), .int .i64 n] w fun e w' => e = .returned (.int .i64 x) ∧ Has W w' (wrR b bs' :: Ps) :=
  h.upd (R := fun e => e = .returned (.int .i64 x)) fun F hF => by have := Signed_calls hF n; rw [hr] at this; exact this
theorem has_wLenCall (h : Has W w (wrR b bs :: Ps)) : Calls Try.prog 10 #[.pointer (some ⟨b, 0, none⟩)] w fun e w' => e = .returned (.int .i64 bs.length) ∧ w = w' := by
  obtain ⟨F, h1⟩ := h.head
  exact Len_calls h1
theorem has_wBytes (h : Has W w (wrR b bs :: Ps)) : Calls Try.prog 13 #[.pointer (some ⟨b, 0, none⟩)] w fun e w' => ∃ v, e = .returned v ∧ Has W w' (row 5 1 v (pack bs).length (u8s (pack bs)) :: wrR b bs :: Ps) := by
  obtain ⟨F, h1⟩ := h.head
  exact (Bytes_calls h1).mono fun e w' ⟨v, he, ho, hf⟩ => ⟨v, he, h.newRow hf ho⟩
theorem has_newRd {v : Value} (h : Has W w Ps) (hv : Reads w v L.length 1 (u8s L)) (hL : L.length ≤ 65536) (h256 : ∀ x ∈ L, x < 256) :
    Calls Try.prog 16 #[v] w fun e w' => ∃ b, e = .returned (.tuple #[.pointer (some ⟨b, 0, none⟩), .int .i64 0]) ∧ Has W w' (rd b L 0 :: Ps) :=
  (NewReader_calls hv hL h256).mono fun e w' ⟨b, F, he, hR, hf, hF⟩ => ⟨b, he, h.new hf hR hF⟩
theorem has_rBits (h : Has W w (rd b L p :: Ps)) (n : Int) {v : Nat} (hr : rBits (unpack L) p n = ((v, y), q)) :
    Calls Try.prog 19 #[.pointer (some ⟨b, 0, none⟩), .int .i64 n] w fun e w' => e = .returned (.tuple #[.int .u64 v, .int .i64 y]) ∧ Has W w' (rd b L q :: Ps) :=
  h.upd (R := fun e => e = .returned (.tuple #[.int .u64 v, .int .i64 y])) fun F hF => by have := RBits_calls hF n; rw [hr] at this; exact this.mono fun e w' ⟨he, h1, h2⟩ => ⟨he, F, h1, h2, fun x hx => .inl hx⟩
theorem has_rGamma (h : Has W w (rd b L p :: Ps)) (hr : rGamma (unpack L) p = ((x, y), q)) :
    Calls Try.prog 17 #[.pointer (some ⟨b, 0, none⟩)] w fun e w' => e = .returned (.tuple #[.int .i64 x, .int .i64 y]) ∧ Has W w' (rd b L q :: Ps) :=
  h.upd (R := fun e => e = .returned (.tuple #[.int .i64 x, .int .i64 y])) fun F hF => by have := RGamma_calls hF; rw [hr] at this; exact this.mono fun e w' ⟨he, h1, h2⟩ => ⟨he, F, h1, h2, fun x hx => .inl hx⟩
theorem has_rSigned (h : Has W w (rd b L p :: Ps)) (hr : rSigned (unpack L) p = ((x, y), q)) :
    Calls Try.prog 24 #[.pointer (some ⟨b, 0, none⟩)] w fun e w' => e = .returned (.tuple #[.int .i64 x, .int .i64 y]) ∧ Has W w' (rd b L q :: Ps) :=
  h.upd (R := fun e => e = .returned (.tuple #[.int .i64 x, .int .i64 y])) fun F hF => by have := RSigned_calls hF; rw [hr] at this; exact this.mono fun e w' ⟨he, h1, h2⟩ => ⟨he, F, h1, h2, fun x hx => .inl hx⟩
theorem has_rLeft (h : Has W w (rd b L p :: Ps)) : Calls Try.prog 18 #[.pointer (some ⟨b, 0, none⟩)] w fun e w' => e = .returned (.int .i64 ((8 * L.length - p : Nat))) ∧ Drew w w' := by
  obtain ⟨F, h1⟩ := h.head
  exact Left_calls h1
theorem has_rEnd (h : Has W w (rd b L p :: Ps)) : Calls Try.prog 27 #[.pointer (some ⟨b, 0, none⟩)] w fun e w' => e = .returned (.bool (rEnd (unpack L) p)) ∧ Drew w w' := by
  obtain ⟨F, h1⟩ := h.head
  exact End_calls h1
end
set_option maxHeartbeats 8000000 in
set_option maxRecDepth 100000 in
theorem awake_calls {W w : World} {Ps : List Res} (h : Has W w Ps) : Calls Try.prog 8 #[] w fun e w' => e = .returned (.bool true) ∧ Has W w' Ps := by
  have H0 := Lib.hid (has_newWr h)
  clear h
  go_enter Try.func8, Try.ntmps8
  go_wp2_with fail
  refine (has_wBits H0.out (v := 5) (by omega) 4 (bs' := [false, true, false, true]) (x := 0) (by decide)).mono ?_
  rintro e w1 ⟨rfl, h⟩
  have H1 := Lib.hid h
  clear h
  go_wp2_with fail
  refine (has_wGamma H1.out 4 (by omega) (bs' := [false, true, false, true, false, false, true, false, true]) (x := 0) (by decide)).mono ?_
  rintro e w2 ⟨rfl, h⟩
  have H2 := Lib.hid h
  clear h
  go_wp2_with fail
  refine (has_wSigned H2.out (-1) (bs' := [false, true, false, true, false, false, true, false, true, false, true, false]) (x := 0) (by decide)).mono ?_
  rintro e w3 ⟨rfl, h⟩
  have H3 := Lib.hid h
  clear h
  go_wp2_with fail
  refine (has_wLenCall H3.out).mono ?_
  rintro e w4 ⟨rfl, rfl⟩
  go_wp2_with fail
  refine (has_wBytes H3.out).mono ?_
  rintro e w4 ⟨v, rfl, h⟩
  have H4 := Lib.hid h
  clear h
  go_wp2_with fail
  have hp : pack [false, true, false, true, false, false, true, false, true, false, true, false] = [82, 160] := by decide
  have H5 := Lib.hid (H4.out.newBlk (.cells #[.int .u8 82, .int .u8 160] 5))
  have hr1 := Reads.of_owns (H5.out.swap.row)
  rw [hp] at hr1
  have hr2 : Reads (w4.alloc (.cells #[.int .u8 82, .int .u8 160] 5)) (.slice (some ⟨w4.heap.size, 0, none⟩) 2 2) [82, 160].length 1 (u8s [82, 160]) :=
    reads_blk (cs := [.int .u8 82, .int .u8 160]) H5.out.blk rfl
  refine (SameB_calls (L1 := [82, 160]) (L2 := [82, 160]) hr1 hr2 (by decide)).mono ?_
  clear hp hr1 hr2
  rintro e w5 ⟨rfl, hd⟩
  have H6 := Lib.hid (H5.out.drop.drop.drew hd)
  clear hd
  go_wp2_with fail
  have H7 := Lib.hid (H6.out.newBlk (.cells #[.int .u8 40] 5))
  refine (has_newRd H7.out (L := [40]) (reads_blk (cs := [.int .u8 40]) H7.out.blk rfl) (by decide) (by decide)).mono ?_
  rintro e w6 ⟨r, rfl, h⟩
  have H8 := Lib.hid h.swap.drop
  clear h
  go_wp2_with fail
  have H9 := Lib.hid (H8.out.newBlk (.cells #[.int .u8 1] 5))
  refine (has_newRd H9.out (L := [1]) (reads_blk (cs := [.int .u8 1]) H9.out.blk rfl) (by decide) (by decide)).mono ?_
  rintro e w7 ⟨s, rfl, h⟩
  have H10 := Lib.hid h.swap.drop.swap
  clear h
  go_wp2_with fail
  refine (has_rGamma H10.out (x := 4) (y := 0) (q := 5) (by decide)).mono ?_
  rintro e w8 ⟨rfl, h⟩
  have H11 := Lib.hid h.swap
  clear h
  go_wp2_with fail
  refine (has_rBits H11.out 9 (v := 0) (y := 4) (q := 0) (by decide)).mono ?_
  rintro e w9 ⟨rfl, h⟩
  have H12 := Lib.hid h
  clear h
  go_wp2_with fail
  refine (has_rBits H12.out 8 (v := 1) (y := 0) (q := 8) (by decide)).mono ?_
  rintro e w10 ⟨rfl, h⟩
  have H13 := Lib.hid h.swap
  clear h
  go_wp2_with fail
  refine (has_rLeft H13.out).mono ?_
  rintro e w11 ⟨rfl, hd⟩
  have H14 := Lib.hid (H13.out.drew hd)
  clear hd
  go_wp2_with fail
  refine (has_rEnd H14.out).mono ?_
  rintro e w12 ⟨rfl, hd⟩
  have he : rEnd (unpack [40]) 5 = true := by decide
  rw [he]
  have H15 := Lib.hid (H14.out.drew hd).drop.drop
  clear hd he
  go_wp2_with fail
  refine (has_wBits H15.out (v := 4) (by omega) 2 (bs' := [false, true, false, true, false, false, true, false, true, false, true, false]) (x := 5) (by decide)).mono ?_
  rintro e w13 ⟨rfl, h⟩
  have H16 := Lib.hid h
  clear h
  go_wp2_with fail
  refine (has_wGamma H16.out (-1) (by omega) (bs' := [false, true, false, true, false, false, true, false, true, false, true, false]) (x := 5) (by decide)).mono ?_
  rintro e w14 ⟨rfl, h⟩
  have H17 := Lib.hid h.drop
  clear h
  go_wp2
  go_ret
  exact ⟨rfl, H17.out⟩
end Go.Proofs.Ytfcihdicbncoaaa
