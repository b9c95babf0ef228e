/- The empty nodes have empty quadrants, and are added once: the law's walk. -/
import Derived.Test.YtgcompnpjpmanaaQp
import Derived.Test.YtgcompnpjpmanaaOq
namespace Go.Proofs.Ytgcompnpjpmanaa
open Go Go.RowKit Go.Proofs.Rg Go.Proofs.Mp Go.Proofs.Hp Go.Proofs.Qs
theorem step_get {l : List (Int × K4)} {i : Nat} {k : Int × K4} (h : l[i]? = some k) :
    (l.map stepCells).flatten[5 * i]? = some (.int .i64 k.1) ∧ (l.map stepCells).flatten[5 * i + 1]? = some (.int .i64 k.2.a) ∧ (l.map stepCells).flatten[5 * i + 2]? = some (.int .i64 k.2.b) ∧
      (l.map stepCells).flatten[5 * i + 3]? = some (.int .i64 k.2.c) ∧ (l.map stepCells).flatten[5 * i + 4]? = some (.int .i64 k.2.d) := by
  induction l generalizing i with
  | nil => simp at h
  | cons x l ih =>
    cases i with
    | zero => simp at h; subst h; simp [stepCells]
    | succ i =>
      simp at h
      have := ih h
      rw [show 5 * (i + 1) = 5 * i + 5 by omega]
      simpa [stepCells] using this
theorem run_field_nodes (w : World) (s : Int) (a : Option Addr) (n c : Nat) : (Instr.field 24 (.agg #[.int .i64 s, .slice a n c]) 1).run Try.prog w = .ok (.slice a n c) w := by
  simp [Instr.field, Sem.run_bind, run_underlying, Try.underlying24, part, go_sem, asAgg, isAgg, Try.underlying22]
set_option maxHeartbeats 8000000 in
set_option maxRecDepth 100000 in
theorem QuadEmpty_calls {W : World} {lv : Int} {l : List (Int × K4)} {v : Value} (hlv : 0 ≤ lv ∧ lv ≤ 65535) (hv : Reads W v l.length 5 (l.map stepCells).flatten) :
    Calls Try.prog 7 #[.int .u16 lv, v] W fun e w' => e = .returned (.bool true) ∧ Fr [] W w' := by
  obtain ⟨_, a, c, rfl, hav⟩ := hv
  have Hav := Lib.hid hav
  clear hav
  by_cases hl : 60 < l.length
  · have hd : decide ((60 : Int) < ↑l.length) = true := by simp; omega
    have Hlv := Lib.hid hlv
    clear hl hlv
    go_enter Try.func7, Try.ntmps7
    go_wp2_with fail
    refine (New_own 3 W _ (by decide) (by decide) (Fr.refl _ _)).mono ?_
    rintro e w1 ⟨b, rfl, h1⟩
    have H1 := Lib.hid h1
    clear h1
    go_wp2_with fail
    refine (awake_calls _).mono ?_
    rintro e w2 ⟨rfl, hf⟩
    have Hf := Lib.hid (H1.out.fr.trans0 hf)
    clear hf
    go_wp2
    go_ret
    exact ⟨rfl, Hf.out⟩
  have hd : decide ((60 : Int) < ↑l.length) = false := by simp; omega
  have Hl := Lib.hid hl
  have Hlv := Lib.hid hlv
  clear hl hlv
  go_enter Try.func7, Try.ntmps7
  go_wp2_with fail
  refine (New_own 3 W _ (by decide) (by decide) (Fr.refl _ _)).mono ?_
  rintro e w1 ⟨b, rfl, h1⟩
  have H1 := Lib.hid h1
  clear h1
  go_wp2
  go_loopw [44] (fun x wr => ∃ (k : Nat) (ns : List K4), x = .int .i64 k ∧ k ≤ l.length ∧ Own W wr b 3 ns ∧ ns.length ≤ k) (fun x _ => l.length - (intOf x).toNat)
  case atStart => exact ⟨0, [], rfl, by omega, H1.out, by simp⟩
  case round =>
    obtain ⟨k, ns, rfl, hk, ho, hn⟩ := hrel
    have Ho := Lib.hid ho
    have Hn := Lib.hid hn
    clear ho hn
    by_cases hlt : k < l.length
    · have hkl : k < 60 := by have := Hl.out; omega
      obtain ⟨g, off, rfl, hg, hc⟩ := Hav.out (by omega)
      obtain ⟨x, hx⟩ : ∃ x, l[k]? = some x := ⟨_, List.getElem?_eq_getElem hlt⟩
      obtain ⟨f0, f1, f2, f3, f4⟩ := step_get hx
      rw [Nat.mul_comm] at f0 f1 f2 f3 f4
      have hgw : ∀ j, wr.cell? ⟨g, off + j, none⟩ = W.cell? ⟨g, off + j, none⟩ := fun j => Ho.out.fr.cell (p := ⟨g, off + j, none⟩) hg (by simp)
      have e1 := (hgw _).trans (hc _ _ f1)
      have e2 := (hgw _).trans (hc _ _ f2)
      have e3 := (hgw _).trans (hc _ _ f3)
      have e4 := (hgw _).trans (hc _ _ f4)
      simp only [← Nat.add_assoc] at e1 e2 e3 e4
      have hgr : g < wr.heap.size := by have := Ho.out.fr.size; omega
      clear hx hc f0 f1 f2 f3 f4 hgw
      go_wp2
      (refine wp_region_text (by kernel_rfl) (by kernel_rfl) ?_)
      go_wp2_with fail
      refine (Join_own (Ho.out.step ((Fr.refl [] wr).drew)) x.2.a x.2.b x.2.c x.2.d).mono ?_
      rintro e w2 ⟨rfl, h2⟩
      have hlen := join_len 3 ns ⟨x.2.a, x.2.b, x.2.c, x.2.d⟩
      generalize (join 3 ns ⟨x.2.a, x.2.b, x.2.c, x.2.d⟩).1.1 = r at *
      generalize (join 3 ns ⟨x.2.a, x.2.b, x.2.c, x.2.d⟩).1.2 = q at *
      have H2 := Lib.hid h2
      have Hlen := Lib.hid hlen
      clear h2 hlen
      go_wp2
      refine Strict.intro rfl ?_
      go_wp2
      go_roundw
      case rel => exact ⟨k + 1, _, by go_num, by omega, H2.out, by have := Hlen.out; have := Hn.out; omega⟩
      case measure => simp [intOf]; omega
    · obtain rfl : k = l.length := by omega
      obtain ⟨L, hL, hL3⟩ : ∃ L : Nat, (wrap64 lv).tmod 300 = L ∧ L < 300 := by
        have h := Hlv.out
        rw [IntWalk.wrap64_in _ ⟨by omega, by omega⟩]
        exact ⟨(lv % 300).toNat, by rw [Int.tmod_eq_emod_of_nonneg h.1]; omega, by omega⟩
      have HL := Lib.hid hL
      clear hL
      have hlen : ns.length ≤ 60 := by have := Hl.out; have := Hn.out; omega
      by_cases hbig : 256 < L
      · go_wp2_with fail
        rw [HL.out]
        refine (Empty_at Ho.out (L : Int) (empty_high (by omega))).mono ?_
        rintro e w2 ⟨rfl, h2⟩
        have H2 := Lib.hid h2
        clear h2
        go_wp2_with fail
        refine (awake_calls _).mono ?_
        rintro e w3 ⟨rfl, hf⟩
        have Hf := Lib.hid (H2.out.fr.trans0 hf)
        clear hf
        go_wp2
        go_ret
        exact ⟨rfl, Hf.out⟩
      · go_wp2_with fail
        rw [HL.out]
        obtain ⟨A, ns', he, hg', hch⟩ := empty_first Ho.out.good (L := L) (by omega) (by omega)
        have hagain := Chain_empty hg' (by omega) hch
        have hlev := Chain_level hg' hch
        refine (Empty_at Ho.out (L : Int) he).mono ?_
        rintro e w2 ⟨rfl, h2⟩
        have H2 := Lib.hid h2
        have Hg' := Lib.hid hg'
        have Hch := Lib.hid hch
        have Hagain := Lib.hid hagain
        have Hlev := Lib.hid hlev
        clear h2 he hg' hch hagain hlev
        go_wp2_with fail
        refine (Level_at H2.out A Hlev.out).mono ?_
        rintro e w3 ⟨rfl, h3, _⟩
        have H3 := Lib.hid h3
        clear h3
        go_wp2_with fail
        refine (Data_own H3.out).mono ?_
        rintro e w4 ⟨da, dc, rfl, _, h4, _⟩
        have hfld := run_field_nodes w4
        have H4 := Lib.hid h4
        clear h4
        go_wp2_with fail
        refine (Empty_at H4.out (L : Int) Hagain.out).mono ?_
        rintro e w5 ⟨rfl, h5⟩
        have H5 := Lib.hid h5
        clear h5
        go_wp2_with fail
        refine (Data_own H5.out).mono ?_
        rintro e w6 ⟨da6, dc6, rfl, _, h6, _⟩
        have hfld6 := run_field_nodes w6
        have H6 := Lib.hid h6
        clear h6
        cases L with
        | zero =>
          have hA : A = 0 := Hch.out
          subst hA
          go_wp2_with fail
          refine (awake_calls _).mono ?_
          rintro e w7 ⟨rfl, hf⟩
          have Hf := Lib.hid (H6.out.fr.trans0 hf)
          clear hf
          go_wp2
          go_ret
          exact ⟨rfl, Hf.out⟩
        | succ M =>
          obtain ⟨C, i, hC, hi, hA⟩ := Hch.out
          have hbelow := Chain_empty Hg'.out (by omega) hC
          have hkid := kids_node (s := 3) (idx_get hi)
          rw [← hA] at hkid
          have Hbelow := Lib.hid hbelow
          have Hkid := Lib.hid hkid
          clear hC hi hA hbelow hkid
          go_wp2_with fail
          refine (Empty_at H6.out (M : Int) Hbelow.out).mono ?_
          rintro e w7 ⟨rfl, h7⟩
          have H7 := Lib.hid h7
          clear h7
          go_wp2_with fail
          refine (Kids_at H7.out A Hkid.out).mono ?_
          rintro e w8 ⟨rfl, h8, _⟩
          have H8 := Lib.hid h8
          clear h8
          simp only [four]
          go_wp2_with fail
          refine (awake_calls _).mono ?_
          rintro e w9 ⟨rfl, hf⟩
          have Hf := Lib.hid ((H8.out.fr.alloc _).trans0 hf)
          clear hf
          go_wp2
          go_ret
          exact ⟨rfl, Hf.out⟩
end Go.Proofs.Ytgcompnpjpmanaa
