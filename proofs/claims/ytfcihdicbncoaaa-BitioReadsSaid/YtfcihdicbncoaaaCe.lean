/- write of the law; BitioWrites: what the law's function returns. -/
import Derived.Test.YtfcihdicbncoaaaCd
namespace Go.Proofs.Ytfcihdicbncoaaa
open Go Go.RowKit Go.Proofs.Rg Go.Proofs.Hp Go.Proofs.Bp
set_option maxHeartbeats 8000000 in
set_option maxRecDepth 100000 in
theorem write_calls {W w : World} {Ps : List Res} {b b' : Nat} {bs : List Bool} (hH : Has W w (wrR b bs :: rwR b' bs :: Ps)) {kd cn ck : Int} {cv : Nat} (hok : -9223372036854775808 ≤ ck ∧ ck ≤ 9223372036854775807 ∧ cv < 18446744073709551616) :
    Calls Try.prog 9 #[.pointer (some ⟨b, 0, none⟩), .pointer (some ⟨b', 0, none⟩), .agg #[.int .i64 kd, .int .i64 cn, .int .i64 ck, .int .u64 cv]] w fun e w' => e = .returned (.bool true) ∧ ∃ bs', Has W w' (wrR b bs' :: rwR b' bs' :: Ps) := by
  have H0 := Lib.hid ((hH.newBlk (.cells #[.int .i64 kd, .int .i64 cn, .int .i64 ck, .int .u64 cv] 35)).swap)
  have Hok := Lib.hid hok
  clear hH hok
  by_cases h0 : kd = 0
  · subst h0
    rcases hr : wBits bs cv cn with ⟨bs', x⟩
    have hc1 := has_wBits (H0.out.step (Fr.refl [] _).drew) Hok.out.2.2 cn hr
    have HC1 := Lib.hid hc1
    have Hr := Lib.hid hr
    clear hc1 hr
    go_enter Try.func9, Try.ntmps9
    go_wp2
    refine wp_region_segs [([0, 1, 2, 3, 4, 6, 7, 8, 9, 10, 5], [8, 10]), ([11, 12, 13], [])] (by kernel_rfl) (by kernel_rfl) ?_
    (simp only [wpSegs, pick, Array.getD_eq_getD_getElem?, List.getElem?_toArray, List.getElem?_cons_succ, List.getElem?_cons_zero, Option.getD_some])
    go_wp2_with fail
    refine HC1.out.mono ?_
    rintro e w1 ⟨rfl, h⟩
    have hk2 := h.swap.blk
    have k1 := heap_eq_cell hk2 1
    have k2 := heap_eq_cell hk2 2
    have k3 := heap_eq_cell hk2 3
    have h3 := h.third
    have hr := Hr.out
    have hc2 := has_rwBits h3 Hok.out.2.2 cn hr
    have HC2 := Lib.hid hc2
    clear h hk2 h3 hr hc2 HC1
    go_wp2
    refine Mid.intro ⟨⟨again_cell (T := 33) rfl rfl rfl Try.underlying33 rfl k3 rfl, again_cell (T := 3) rfl rfl rfl Try.underlying3 rfl k1 rfl, trivial⟩, ?_⟩
    go_wp2_with fail
    refine HC2.out.mono ?_
    rintro e w2 ⟨rfl, h⟩
    have H2 := Lib.hid (h.swap.third.drop)
    clear h
    go_wp2
    refine Mid.intro ⟨trivial, Strict.intro rfl ?_⟩
    go_wp2
    go_ret
    exact ⟨rfl, bs', H2.out⟩
  by_cases h1 : kd = 1
  · subst h1
    rcases hr : wGamma bs ck with ⟨bs', x⟩
    have hc1 := has_wGamma (H0.out.step (Fr.refl [] _).drew) ck Hok.out.2.1 hr
    have HC1 := Lib.hid hc1
    have Hr := Lib.hid hr
    clear hc1 hr
    go_enter Try.func9, Try.ntmps9
    go_wp2
    refine wp_region_segs [([0, 1, 2, 4, 5, 6, 3], [6]), ([7, 8, 9], [])] (by kernel_rfl) (by kernel_rfl) ?_
    (simp only [wpSegs, pick, Array.getD_eq_getD_getElem?, List.getElem?_toArray, List.getElem?_cons_succ, List.getElem?_cons_zero, Option.getD_some])
    go_wp2_with fail
    refine HC1.out.mono ?_
    rintro e w1 ⟨rfl, h⟩
    have hk2 := h.swap.blk
    have k1 := heap_eq_cell hk2 1
    have k2 := heap_eq_cell hk2 2
    have k3 := heap_eq_cell hk2 3
    have h3 := h.third
    have hr := Hr.out
    have hc2 := has_rwGamma h3 ck Hok.out.2.1 hr
    have HC2 := Lib.hid hc2
    clear h hk2 h3 hr hc2 HC1
    go_wp2
    refine Mid.intro ⟨⟨again_cell (T := 3) rfl rfl rfl Try.underlying3 rfl k2 rfl, trivial⟩, ?_⟩
    go_wp2_with fail
    refine HC2.out.mono ?_
    rintro e w2 ⟨rfl, h⟩
    have H2 := Lib.hid (h.swap.third.drop)
    clear h
    go_wp2
    refine Mid.intro ⟨trivial, Strict.intro rfl ?_⟩
    go_wp2
    go_ret
    exact ⟨rfl, bs', H2.out⟩
  by_cases h2 : kd = 2
  · subst h2
    rcases hr : wSigned bs ck with ⟨bs', x⟩
    have hc1 := has_wSigned (H0.out.step (Fr.refl [] _).drew) ck hr
    have HC1 := Lib.hid hc1
    have Hr := Lib.hid hr
    clear hc1 hr
    go_enter Try.func9, Try.ntmps9
    go_wp2
    refine wp_region_segs [([0, 1, 2, 4, 5, 6, 3], [6]), ([7, 8, 9], [])] (by kernel_rfl) (by kernel_rfl) ?_
    (simp only [wpSegs, pick, Array.getD_eq_getD_getElem?, List.getElem?_toArray, List.getElem?_cons_succ, List.getElem?_cons_zero, Option.getD_some])
    go_wp2_with fail
    refine HC1.out.mono ?_
    rintro e w1 ⟨rfl, h⟩
    have hk2 := h.swap.blk
    have k1 := heap_eq_cell hk2 1
    have k2 := heap_eq_cell hk2 2
    have k3 := heap_eq_cell hk2 3
    have h3 := h.third
    have hr := Hr.out
    have hc2 := has_rwSigned h3 ck hr
    have HC2 := Lib.hid hc2
    clear h hk2 h3 hr hc2 HC1
    go_wp2
    refine Mid.intro ⟨⟨again_cell (T := 3) rfl rfl rfl Try.underlying3 rfl k2 rfl, trivial⟩, ?_⟩
    go_wp2_with fail
    refine HC2.out.mono ?_
    rintro e w2 ⟨rfl, h⟩
    have H2 := Lib.hid (h.swap.third.drop)
    clear h
    go_wp2
    refine Mid.intro ⟨trivial, Strict.intro rfl ?_⟩
    go_wp2
    go_ret
    exact ⟨rfl, bs', H2.out⟩
  · have hn0 : (kd == 0) = false := by simpa using h0
    have hn1 : (kd == 1) = false := by simpa using h1
    have hn2 : (kd == 2) = false := by simpa using h2
    clear h0 h1 h2
    go_enter Try.func9, Try.ntmps9
    go_wp2
    go_ret
    exact ⟨rfl, bs, H0.out.swap.drop⟩
set_option maxHeartbeats 8000000 in
set_option maxRecDepth 100000 in
theorem Writes_calls {W : World} {v : Value} {l : List Cl} (hv : Reads W v l.length 4 (l.map clCells).flatten) (hok : ∀ x ∈ l, x.ok) :
    Calls Try.prog 3 #[v] W fun e w' => e = .returned (.bool true) ∧ Fr [] W w' := by
  obtain ⟨_, a, c, rfl, hav⟩ := hv
  have Hav := Lib.hid hav
  have Hok := Lib.hid hok
  clear hav hok
  by_cases hl : 400 < l.length
  · have hd : decide ((400 : Int) < ↑l.length) = true := by simp; omega
    clear hl
    go_enter Try.func3, Try.ntmps3
    go_wp2_with fail
    refine (awake_calls (Has.nil (Fr.refl [] W))).mono ?_
    rintro e w1 ⟨rfl, h⟩
    have Hf := Lib.hid h.fr
    clear h
    go_wp2
    go_ret
    exact ⟨rfl, Hf.out⟩
  have hd : decide ((400 : Int) < ↑l.length) = false := by simp; omega
  have hl2 : l.length ≤ 400 := by omega
  have h0 := has_newRw (has_newWr (Has.nil (Fr.refl [] W)))
  rw [hp_alloc_size] at h0
  have H0 := Lib.hid h0.swap
  clear hl h0
  go_enter Try.func3, Try.ntmps3
  go_wp2_with fail
  go_loopw [12] (fun x wl => ∃ (k : Nat) (bs : List Bool), x = .int .i64 k ∧ k ≤ l.length ∧ Has W wl [wrR W.heap.size bs, rwR (W.heap.size + 1) bs]) (fun x _ => l.length - (intOf x).toNat)
  case atStart => exact ⟨0, [], rfl, by omega, H0.out⟩
  case round =>
    obtain ⟨k, bs, rfl, hk, hH⟩ := hrel
    have HH := Lib.hid hH
    clear hH
    by_cases hlt : k < l.length
    · obtain ⟨g, off, rfl, hg, hc⟩ := Hav.out (by omega)
      obtain ⟨⟨kd, cn, ck, cv⟩, hx⟩ : ∃ x, l[k]? = some x := ⟨_, List.getElem?_eq_getElem hlt⟩
      obtain ⟨f0, f1, f2, f3⟩ := cls_get hx
      simp only at f0 f1 f2 f3
      rw [Nat.mul_comm] at f0 f1 f2 f3
      have hgw : ∀ j, wr.cell? ⟨g, off + j, none⟩ = W.cell? ⟨g, off + j, none⟩ := fun j => HH.out.fr.cell (p := ⟨g, off + j, none⟩) hg (by simp)
      have e0 := (hgw _).trans (hc _ _ f0)
      have e1 := (hgw _).trans (hc _ _ f1)
      have e2 := (hgw _).trans (hc _ _ f2)
      have e3 := (hgw _).trans (hc _ _ f3)
      simp only [← Nat.add_assoc] at e1 e2 e3
      have hgr : g < wr.heap.size := by have := HH.out.fr.size; omega
      have hwr := write_calls HH.out (kd := kd) (cn := cn) (Hok.out _ (List.mem_of_getElem? hx))
      have HW := Lib.hid hwr
      clear hx hc f0 f1 f2 f3 hgw hwr
      go_wp2_with fail
      refine HW.out.mono ?_
      rintro e w2 ⟨rfl, bs', h⟩
      have H2 := Lib.hid h
      clear h
      go_wp2_with fail
      refine (has_wLenCall H2.out).mono ?_
      rintro e w3 ⟨rfl, rfl⟩
      go_wp2_with fail
      refine (has_rwLen H2.out.swap).mono ?_
      rintro e w3 ⟨rfl, rfl⟩
      go_wp2
      go_roundw
      case rel => exact ⟨k + 1, bs', by go_num, by omega, H2.out⟩
      case measure => simp [intOf]; omega
    · obtain rfl : k = l.length := by omega
      go_wp2_with fail
      refine (has_wBytes HH.out).mono ?_
      rintro e w2 ⟨v1, rfl, h⟩
      have H2 := Lib.hid h
      obtain ⟨F2, hF2⟩ := h.third.head
      have hb := RwBytes_calls hF2
      have HB := Lib.hid hb
      clear h hF2 hb
      go_wp2_with fail
      refine HB.out.mono ?_
      rintro e w3 ⟨v2, rfl, ho, hf⟩
      have H3 := Lib.hid (H2.out.newRow hf ho)
      have hpl := pack_length bs
      have hbl := has_wLen H3.out.third
      have hpl2 : (pack bs).length ≤ 1048576 := by omega
      clear ho hf hpl hbl
      go_wp2_with fail
      refine (SameB_calls (Reads.of_owns H3.out.swap.row) (Reads.of_owns H3.out.row) hpl2).mono ?_
      rintro e w4 ⟨rfl, hd4⟩
      rw [decide_eq_true (rfl : pack bs = pack bs)]
      have H4 := Lib.hid (H3.out.drew hd4)
      clear hd4
      go_wp2_with fail
      refine (awake_calls H4.out).mono ?_
      rintro e w5 ⟨rfl, h⟩
      have H5 := Lib.hid h.fr
      clear h
      go_wp2
      go_ret
      exact ⟨rfl, H5.out⟩
end Go.Proofs.Ytfcihdicbncoaaa
