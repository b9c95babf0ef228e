/- BitioReads: what the law's function returns. -/
import Derived.Test.YtfcihdicbncoaaaCh
namespace Go.Proofs.Ytfcihdicbncoaaa
open Go Go.RowKit Go.Proofs.Rg Go.Proofs.Hp Go.Proofs.Bp
set_option maxHeartbeats 16000000 in
set_option maxRecDepth 100000 in
theorem Reads_calls {W : World} {dv v : Value} {L : List Nat} {l : List Cl} (hdv : Reads W dv L.length 1 (u8s L)) (h256 : ∀ x ∈ L, x < 256) (hv : Reads W v l.length 4 (l.map clCells).flatten) :
    Calls Try.prog 6 #[dv, v] W fun e w' => e = .returned (.bool true) ∧ Fr [] W w' := by
  obtain ⟨_, a, c, rfl, hav⟩ := hv
  have hdk := hdv
  obtain ⟨_, da, dc, rfl, _⟩ := hdv
  have Hav := Lib.hid hav
  have Hdv := Lib.hid hdk
  have H256 := Lib.hid h256
  clear hav hdk h256
  by_cases hbig : 2000 < L.length ∨ 400 < l.length
  · have hd : decide ((2000 : Int) < ↑L.length) = true ∨ decide ((2000 : Int) < ↑L.length) = false ∧ decide ((400 : Int) < ↑l.length) = true := by
      by_cases h : 2000 < L.length
      · left; simp; omega
      · right; constructor <;> simp <;> omega
    clear hbig
    rcases hd with hd | ⟨hd, hd2⟩
    all_goals
      go_enter Try.func6, Try.ntmps6
      go_wp2_with fail
      refine (awake_calls (Has.nil (Fr.refl [] W))).mono ?_
      rintro e w1 ⟨rfl, h⟩
      have Hf := Lib.hid h.fr
      clear h
      go_wp2
      go_ret
      exact ⟨rfl, Hf.out⟩
  have hd : decide ((2000 : Int) < ↑L.length) = false := by simp; omega
  have hd2 : decide ((400 : Int) < ↑l.length) = false := by simp; omega
  have hl2 : l.length ≤ 400 := by omega
  have hL2 : L.length ≤ 2000 := by omega
  clear hbig
  go_enter Try.func6, Try.ntmps6
  go_wp2_with fail
  refine (has_newRd (Has.nil (Fr.refl [] W)) Hdv.out (by omega) H256.out).mono ?_
  rintro e w1 ⟨r, rfl, h⟩
  have H1 := Lib.hid h
  clear h
  go_wp2_with fail
  refine (has_newRr H1.out (Hdv.out.fr H1.out.fr) (by omega) H256.out).mono ?_
  rintro e w2 ⟨r2, rfl, h⟩
  have H2 := Lib.hid h.swap
  clear h
  go_wp2_with fail
  go_loopw [54] (fun x wl => ∃ (k q : Nat), x = .int .i64 k ∧ k ≤ l.length ∧ Has W wl [rd r L q, rrR r2 (unpack L) q]) (fun x _ => l.length - (intOf x).toNat)
  case atStart => exact ⟨0, 0, rfl, by omega, H2.out⟩
  case round =>
    obtain ⟨k, q, rfl, hk, hH⟩ := hrel
    have HH := Lib.hid hH
    clear hH
    by_cases hlt : k < l.length
    · obtain ⟨g, off, rfl, hg, hc⟩ := Hav.out (by omega)
      obtain ⟨⟨kd, cn, ck, cv⟩, hx⟩ : ∃ x, l[k]? = some x := ⟨_, List.getElem?_eq_getElem hlt⟩
      obtain ⟨f0, f1, f2, f3⟩ := cls_get hx
      simp only at f0 f1 f2 f3
      rw [Nat.mul_comm] at f0 f1 f2 f3
      have hgw : ∀ wx, Fr [] W wx → wx.cell? ⟨g, off + k * 4, none⟩ = some (.int .i64 kd) ∧ wx.cell? ⟨g, off + k * 4 + 1, none⟩ = some (.int .i64 cn) := fun wx hf =>
        ⟨(hf.cell (p := ⟨g, off + k * 4, none⟩) hg (by simp)).trans (hc _ _ f0), (hf.cell (p := ⟨g, off + k * 4 + 1, none⟩) hg (by simp)).trans (by rw [Nat.add_assoc]; exact hc _ _ f1)⟩
      have HG := Lib.hid hgw
      obtain ⟨e0, e1⟩ := hgw wr HH.out.fr
      clear hx hc f0 f1 f2 f3 hgw
      by_cases h0 : kd = 0
      · subst h0
        rcases hr : rBits (unpack L) q cn with ⟨⟨vv, y⟩, q'⟩
        have hc1 := has_rBits HH.out cn hr
        have HC1 := Lib.hid hc1
        have Hr := Lib.hid hr
        clear hc1 hr
        go_wp2_with fail
        refine HC1.out.mono ?_
        rintro e w3 ⟨rfl, h⟩
        obtain ⟨d0, d1⟩ := HG.out w3 h.fr
        have h3 := h.swap
        have hr := Hr.out
        have hc2 := has_rrBits h3 cn hr
        have HC2 := Lib.hid hc2
        have HFR := Lib.hid h.fr
        clear h h3 hr hc2 HC1 e0 e1
        go_wp2_with fail
        refine HC2.out.mono ?_
        rintro e w4 ⟨rfl, h⟩
        have H4 := Lib.hid h.swap
        clear h d0 d1
        go_wp2_with fail
        refine (has_rLeft H4.out).mono ?_
        rintro e w5 ⟨rfl, hd5⟩
        have H5 := Lib.hid (H4.out.drew hd5)
        clear hd5
        go_wp2_with fail
        have hL5 := has_rrLeft H5.out.swap
        rw [unpack_length] at hL5
        refine hL5.mono ?_
        clear hL5
        rintro e w6 ⟨rfl, hd6⟩
        have H6 := Lib.hid (H5.out.drew hd6)
        clear hd6
        go_wp2_with fail
        refine (has_rEnd H6.out).mono ?_
        rintro e w7 ⟨rfl, hd7⟩
        have H7 := Lib.hid (H6.out.drew hd7)
        clear hd7
        go_wp2_with fail
        refine (has_rrEnd H7.out.swap).mono ?_
        rintro e w8 ⟨rfl, hd8⟩
        have H8 := Lib.hid (H7.out.drew hd8)
        clear hd8
        go_wp2
        go_roundw
        case rel => exact ⟨k + 1, q', by go_num, by omega, H8.out⟩
        case measure => simp [intOf]; omega
      by_cases h1 : kd = 1
      · subst h1
        rcases hr : rGamma (unpack L) q with ⟨⟨vv, y⟩, q'⟩
        have hc1 := has_rGamma HH.out hr
        have HC1 := Lib.hid hc1
        have Hr := Lib.hid hr
        clear hc1 hr
        go_wp2_with fail
        refine HC1.out.mono ?_
        rintro e w3 ⟨rfl, h⟩
        obtain ⟨d0, d1⟩ := HG.out w3 h.fr
        have h3 := h.swap
        have hr := Hr.out
        have hc2 := has_rrGamma h3 hr
        have HC2 := Lib.hid hc2
        have HFR := Lib.hid h.fr
        clear h h3 hr hc2 HC1 e0 e1
        go_wp2_with fail
        refine HC2.out.mono ?_
        rintro e w4 ⟨rfl, h⟩
        have H4 := Lib.hid h.swap
        clear h d0 d1
        go_wp2_with fail
        refine (has_rLeft H4.out).mono ?_
        rintro e w5 ⟨rfl, hd5⟩
        have H5 := Lib.hid (H4.out.drew hd5)
        clear hd5
        go_wp2_with fail
        have hL5 := has_rrLeft H5.out.swap
        rw [unpack_length] at hL5
        refine hL5.mono ?_
        clear hL5
        rintro e w6 ⟨rfl, hd6⟩
        have H6 := Lib.hid (H5.out.drew hd6)
        clear hd6
        go_wp2_with fail
        refine (has_rEnd H6.out).mono ?_
        rintro e w7 ⟨rfl, hd7⟩
        have H7 := Lib.hid (H6.out.drew hd7)
        clear hd7
        go_wp2_with fail
        refine (has_rrEnd H7.out.swap).mono ?_
        rintro e w8 ⟨rfl, hd8⟩
        have H8 := Lib.hid (H7.out.drew hd8)
        clear hd8
        go_wp2
        go_roundw
        case rel => exact ⟨k + 1, q', by go_num, by omega, H8.out⟩
        case measure => simp [intOf]; omega
      by_cases h2 : kd = 2
      · subst h2
        rcases hr : rSigned (unpack L) q with ⟨⟨vv, y⟩, q'⟩
        have hc1 := has_rSigned HH.out hr
        have HC1 := Lib.hid hc1
        have Hr := Lib.hid hr
        clear hc1 hr
        go_wp2_with fail
        refine HC1.out.mono ?_
        rintro e w3 ⟨rfl, h⟩
        obtain ⟨d0, d1⟩ := HG.out w3 h.fr
        have h3 := h.swap
        have hr := Hr.out
        have hc2 := has_rrSigned h3 hr
        have HC2 := Lib.hid hc2
        have HFR := Lib.hid h.fr
        clear h h3 hr hc2 HC1 e0 e1
        go_wp2_with fail
        refine HC2.out.mono ?_
        rintro e w4 ⟨rfl, h⟩
        have H4 := Lib.hid h.swap
        clear h d0 d1
        go_wp2_with fail
        refine (has_rLeft H4.out).mono ?_
        rintro e w5 ⟨rfl, hd5⟩
        have H5 := Lib.hid (H4.out.drew hd5)
        clear hd5
        go_wp2_with fail
        have hL5 := has_rrLeft H5.out.swap
        rw [unpack_length] at hL5
        refine hL5.mono ?_
        clear hL5
        rintro e w6 ⟨rfl, hd6⟩
        have H6 := Lib.hid (H5.out.drew hd6)
        clear hd6
        go_wp2_with fail
        refine (has_rEnd H6.out).mono ?_
        rintro e w7 ⟨rfl, hd7⟩
        have H7 := Lib.hid (H6.out.drew hd7)
        clear hd7
        go_wp2_with fail
        refine (has_rrEnd H7.out.swap).mono ?_
        rintro e w8 ⟨rfl, hd8⟩
        have H8 := Lib.hid (H7.out.drew hd8)
        clear hd8
        go_wp2
        go_roundw
        case rel => exact ⟨k + 1, q', by go_num, by omega, H8.out⟩
        case measure => simp [intOf]; omega
      · have hn0 : (kd == 0) = false := by simpa using h0
        have hn1 : (kd == 1) = false := by simpa using h1
        have hn2 : (kd == 2) = false := by simpa using h2
        clear h0 h1 h2
        go_wp2_with fail
        refine (has_rLeft HH.out).mono ?_
        rintro e w5 ⟨rfl, hd5⟩
        have H5 := Lib.hid (HH.out.drew hd5)
        clear hd5
        go_wp2_with fail
        have hL5 := has_rrLeft H5.out.swap
        rw [unpack_length] at hL5
        refine hL5.mono ?_
        clear hL5
        rintro e w6 ⟨rfl, hd6⟩
        have H6 := Lib.hid (H5.out.drew hd6)
        clear hd6
        go_wp2_with fail
        refine (has_rEnd H6.out).mono ?_
        rintro e w7 ⟨rfl, hd7⟩
        have H7 := Lib.hid (H6.out.drew hd7)
        clear hd7
        go_wp2_with fail
        refine (has_rrEnd H7.out.swap).mono ?_
        rintro e w8 ⟨rfl, hd8⟩
        have H8 := Lib.hid (H7.out.drew hd8)
        clear hd8
        go_wp2
        go_roundw
        case rel => exact ⟨k + 1, q, by go_num, by omega, H8.out⟩
        case measure => simp [intOf]; omega
    · obtain rfl : k = l.length := by omega
      go_wp2_with fail
      refine (awake_calls HH.out).mono ?_
      rintro e w5 ⟨rfl, h⟩
      have H5 := Lib.hid h.fr
      clear h
      go_wp2
      go_ret
      exact ⟨rfl, H5.out⟩
end Go.Proofs.Ytfcihdicbncoaaa
