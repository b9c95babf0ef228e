/- The reference of big integers: Int, Same. -/
import Derived.Test.YtbacamboknmppaaDoorKi
namespace Go.Proofs.YtbacamboknmppaaDoor
open Go Go.RowKit Go.Proofs.Rg Go.Proofs.Hp Go.Proofs.Bn
set_option linter.unusedVariables false
set_option linter.unusedSimpArgs false
theorem rint_neg {x : Nat} (h : 1 ≤ x) (h2 : x ≤ 9223372036854775808) : Ending.returned (.tuple #[.int .i64 (wrap64 (wrap64 (-(wrap64 (IntKind.u64.wrap ((x : Int) - 1)))) - 1)), .bool true]) = .returned (.tuple #[.int .i64 (-(x : Nat)), .bool true]) := by
  have e : wrap64 (wrap64 (-(wrap64 (IntKind.u64.wrap ((x : Int) - 1)))) - 1) = -(x : Int) := by
    rw [wrap_u64]; simp only [wrap64]; omega
  rw [e]
set_option maxHeartbeats 8000000 in
set_option maxRecDepth 100000 in
theorem RInt_calls {w : World} {neg : Bool} {ds : List Nat} {v : Value} (hv : Reads w v ds.length 1 (u32s ds)) (hD : Dig 4294967296 ds) (hl : ds.length ≤ 10000) :
    Calls Tryd.prog 14 #[.agg #[.bool neg, v]] w fun e w' => e = .returned (.tuple #[.int .i64 (intS neg ds).1, .bool (intS neg ds).2]) ∧ Fr [] w w' := by
  have hra := fun w1 (hf : Fr [] w w1) => RRight_calls (neg := neg) (hv.fr hf) (by omega)
  have hby := fun w1 (hf : Fr [] w w1) => bytes_calls (neg := neg) (hv.fr hf) hD (by omega)
  obtain ⟨_, a, c, rfl, hav⟩ := hv
  obtain ⟨r, hS⟩ : ∃ r, r = intS neg ds := ⟨_, rfl⟩
  rw [← hS]
  unfold intS at hS
  obtain ⟨n, hn⟩ : ∃ n, ds.length = n := ⟨_, rfl⟩
  have Hn := Lib.hid hn
  clear hav
  cases hR1 : RightB neg ds with
  | false =>
    rw [hR1] at hS hra
    simp only [true_or, if_true] at hS
    rw [hn] at hra ⊢
    have Hra := Lib.hid hra
    have Hr := Lib.hid hS
    clear hra hR1 hby hn hl hS
    go_enter Tryd.func14, Tryd.ntmps14
    go_wp2_with fail
    refine (Hra.out _ (by (repeat (first | exact Fr.refl _ _ | assumption | apply Fr.drewN | apply Fr.drew | apply Fr.alloc | refine Fr.setCell ?_ (Or.inr (by simp; try omega)) _)))).mono ?_
    rintro e w1 ⟨rfl, hf⟩
    have ha_ := (hf.block (w.heap.size) (by first | (simp; done) | (simp; omega)) (by simp)).trans (show _ = some (.cells #[.bool neg, .slice a n c] 24 (0, 0)) by (repeat (first | rw [if_pos (by omega)] | rw [if_neg (by omega)] | rw [hp_drew] | rw [hp_drewN] | rw [hp_alloc_size] | rw [hp_setCell_size] | rw [hp_alloc] | rw [hp_setCell] | rw [Option.map_some] | rw [upd_cells] | rw [List.set_cons_zero] | rw [List.set_cons_succ] | rfl)))
    have a0 := heap_eq_cell ha_ 0
    have a1 := heap_eq_cell ha_ 1
    have al := lt_of_block ha_
    have Ha := Lib.hid ha_
    clear ha_
    have Hf := Lib.hid (Fr.trans0 (by (repeat (first | exact Fr.refl _ _ | assumption | apply Fr.drewN | apply Fr.drew | apply Fr.alloc | refine Fr.setCell ?_ (Or.inr (by simp; try omega)) _)) : Fr [] w _) hf)
    clear hf
    go_wp2
    go_ret2
    exact ⟨by rw [Hr.out]; rfl, Hf.out⟩
  | true =>
    obtain ⟨cA, lA, nA⟩ := right_canon hR1
    rw [hR1] at hS hra
    simp only [Bool.true_eq_false, false_or] at hS
    by_cases h2 : 2 < ds.length
    · rw [if_pos h2] at hS
      have hd : decide ((2 : Int) < n) = true := by rw [decide_eq_true_eq]; omega
      rw [hn] at hra ⊢
      have Hra := Lib.hid hra
      have Hr := Lib.hid hS
      clear hra hR1 hby hn hl hS h2 nA
      go_enter Tryd.func14, Tryd.ntmps14
      go_wp2_with fail
      refine (Hra.out _ (by (repeat (first | exact Fr.refl _ _ | assumption | apply Fr.drewN | apply Fr.drew | apply Fr.alloc | refine Fr.setCell ?_ (Or.inr (by simp; try omega)) _)))).mono ?_
      rintro e w1 ⟨rfl, hf⟩
      have ha_ := (hf.block (w.heap.size) (by first | (simp; done) | (simp; omega)) (by simp)).trans (show _ = some (.cells #[.bool neg, .slice a n c] 24 (0, 0)) by (repeat (first | rw [if_pos (by omega)] | rw [if_neg (by omega)] | rw [hp_drew] | rw [hp_drewN] | rw [hp_alloc_size] | rw [hp_setCell_size] | rw [hp_alloc] | rw [hp_setCell] | rw [Option.map_some] | rw [upd_cells] | rw [List.set_cons_zero] | rw [List.set_cons_succ] | rfl)))
      have a0 := heap_eq_cell ha_ 0
      have a1 := heap_eq_cell ha_ 1
      have al := lt_of_block ha_
      have Ha := Lib.hid ha_
      clear ha_
      have Hf := Lib.hid (Fr.trans0 (by (repeat (first | exact Fr.refl _ _ | assumption | apply Fr.drewN | apply Fr.drew | apply Fr.alloc | refine Fr.setCell ?_ (Or.inr (by simp; try omega)) _)) : Fr [] w _) hf)
      clear hf
      go_wp2
      go_ret2
      exact ⟨by rw [Hr.out]; rfl, Hf.out⟩
    · rw [if_neg h2] at hS
      have hd : decide ((2 : Int) < n) = false := by rw [decide_eq_false_iff_not]; omega
      obtain ⟨V, hV⟩ : ∃ V, val 4294967296 ds = V := ⟨_, rfl⟩
      have hVb : V < 18446744073709551616 := by
        rw [← hV]
        exact Nat.lt_of_lt_of_le (val_lt hD) (Nat.pow_le_pow_right (show 0 < 4294967296 by omega) (show ds.length ≤ 2 by omega))
      have hVp : neg = true → 1 ≤ V := fun h => by
        have hne : ds ≠ [] := fun e => by have := nA e; rw [this] at h; cases h
        have := canon_pos (B := 4294967296) (by omega) cA hne
        omega
      obtain ⟨X, hX⟩ : ∃ X, dg 256 V = X := ⟨_, rfl⟩
      have hXV : val 256 X = V := by rw [← hX]; exact val_dg (by omega) V
      have hXD : Dig 256 X := by rw [← hX]; exact dg_dig (by omega) V
      have hXl : X.length ≤ 8 := by rw [← hX, dg_length_le (by omega)]; omega
      rw [hV] at hS hby
      rw [hX] at hby
      rw [hn] at hra hby ⊢
      have Hra := Lib.hid hra
      have Hby := Lib.hid hby
      have HXV := Lib.hid hXV
      have HXD := Lib.hid hXD
      have HS := Lib.hid hS
      have HVp := Lib.hid hVp
      have HVb := Lib.hid hVb
      obtain ⟨m, hm⟩ : ∃ m, X.length = m := ⟨_, rfl⟩
      have Hm := Lib.hid hm
      rw [hm] at hXl
      clear hra hR1 hby hn hl hS h2 nA hV hX hXV hXD hVp hVb cA lA hm
      go_enter Tryd.func14, Tryd.ntmps14
      go_wp2_with fail
      refine (Hra.out _ (by (repeat (first | exact Fr.refl _ _ | assumption | apply Fr.drewN | apply Fr.drew | apply Fr.alloc | refine Fr.setCell ?_ (Or.inr (by simp; try omega)) _)))).mono ?_
      rintro e w1 ⟨rfl, hf⟩
      have ha_ := (hf.block (w.heap.size) (by first | (simp; done) | (simp; omega)) (by simp)).trans (show _ = some (.cells #[.bool neg, .slice a n c] 24 (0, 0)) by (repeat (first | rw [if_pos (by omega)] | rw [if_neg (by omega)] | rw [hp_drew] | rw [hp_drewN] | rw [hp_alloc_size] | rw [hp_setCell_size] | rw [hp_alloc] | rw [hp_setCell] | rw [Option.map_some] | rw [upd_cells] | rw [List.set_cons_zero] | rw [List.set_cons_succ] | rfl)))
      have a0 := heap_eq_cell ha_ 0
      have a1 := heap_eq_cell ha_ 1
      have al := lt_of_block ha_
      have Ha := Lib.hid ha_
      clear ha_
      have Hf := Lib.hid (Fr.trans0 (by (repeat (first | exact Fr.refl _ _ | assumption | apply Fr.drewN | apply Fr.drew | apply Fr.alloc | refine Fr.setCell ?_ (Or.inr (by simp; try omega)) _)) : Fr [] w _) hf)
      clear hf
      go_wp2_with fail
      refine (Hby.out _ Hf.out).mono ?_
      rintro e w2 ⟨xa, xc, hlo, rfl, hr, hf⟩
      rw [Hm.out] at hr ⊢
      (try clear a0)
      (try clear a1)
      (try clear al)
      have ha_ := (hf.block _ (lt_of_block Ha.out) (by simp)).trans Ha.out
      clear Ha
      have a0 := heap_eq_cell ha_ 0
      have a1 := heap_eq_cell ha_ 1
      have al := lt_of_block ha_
      have Ha := Lib.hid ha_
      clear ha_
      have Hf := Lib.hid (Hf.out.trans0 hf)
      obtain ⟨_, xa2, xc2, he, hxa⟩ := hr
      cases he
      have Hxa := Lib.hid hxa
      clear hf hlo hxa
      go_wp2_with fail
      go_loopw [4, 6] (fun x4 x6 wl => ∃ (u k : Nat) (z : Int), x4 = .int .u64 u ∧ x6 = .int .i64 z ∧ z = (k : Int) - 1 ∧ k ≤ m ∧ u = val 256 (X.drop k) ∧ wl = w2) (fun _ x6 _ => (intOf x6 + 1).toNat)
      case atStart => exact ⟨0, m, _, rfl, rfl, rfl, by omega, by rw [List.drop_of_length_le (by have := Hm.out; omega)]; rfl, rfl⟩
      case round =>
        obtain ⟨u, k, z, rfl, rfl, hz, hk, hu, rfl⟩ := hrel
        have Hu := Lib.hid hu
        clear hu
        cases k with
        | zero =>
          obtain rfl : z = -1 := by omega
          have hu := Hu.out
          rw [List.drop_zero, HXV.out] at hu
          subst hu
          clear hz
          have hS := HS.out
          cases neg
          · simp only [Bool.false_eq_true, if_false] at hS
            by_cases h : u < 9223372036854775808
            · rw [if_pos h] at hS
              have Hr := Lib.hid hS
              have hdu : decide ((9223372036854775807 : Int) < u) = false := by rw [decide_eq_false_iff_not]; omega
              have Eu : wrap64 (u : Int) = u := by simp only [wrap64]; omega
              clear hS h HS
              go_wp2
              go_ret2
              exact ⟨by rw [Hr.out]; first | rfl | (show Ending.returned (.tuple #[.int .i64 (wrap64 (u : Int)), .bool true]) = _; rw [Eu]), Hf.out⟩
            · rw [if_neg h] at hS
              have Hr := Lib.hid hS
              have hdu : decide ((9223372036854775807 : Int) < u) = true := by rw [decide_eq_true_eq]; omega
              clear hS h HS
              go_wp2
              go_ret2
              exact ⟨by rw [Hr.out]; rfl, Hf.out⟩
          · simp only [if_true] at hS
            by_cases h : u ≤ 9223372036854775808
            · rw [if_pos h] at hS
              have Hr := Lib.hid hS
              have Hh := Lib.hid h
              have hdu : decide ((9223372036854775808 : Int) < u) = false := by rw [decide_eq_false_iff_not]; omega
              clear hS h HS
              go_wp2
              go_ret2
              exact ⟨by rw [Hr.out]; exact rint_neg (HVp.out (by first | rfl | trivial)) Hh.out, Hf.out⟩
            · rw [if_neg h] at hS
              have Hr := Lib.hid hS
              have hdu : decide ((9223372036854775808 : Int) < u) = true := by rw [decide_eq_true_eq]; omega
              clear hS h HS
              go_wp2
              go_ret2
              exact ⟨by rw [Hr.out]; rfl, Hf.out⟩
        | succ k =>
          obtain rfl : z = (k : Int) := by omega
          obtain ⟨g, off, rfl, hg, hc⟩ := Hxa.out (by omega)
          have e1 := hc k _ (i64s_get (by have := Hm.out; omega))
          have hx : X.getD k 0 < 256 := HXD.out.getD (by omega) k
          have hq := val_drop 256 X k
          rw [← Hu.out] at hq
          have hub : X.getD k 0 + 256 * u < 18446744073709551616 := by
            rw [← hq]
            have h1 := val_lt (HXD.out.drop k)
            have h2 : 256 ^ (X.drop k).length ≤ 256 ^ 8 := Nat.pow_le_pow_right (by omega) (by rw [List.length_drop]; have := Hm.out; omega)
            omega
          have Hq := Lib.hid hq
          clear hz hc hq
          generalize X.getD k 0 = x at *
          have Ex : IntKind.u64.wrap (x : Int) = x := IntWalk.u64_in _ (by omega)
          go_wp2
          go_roundw
          case rel => exact ⟨x + 256 * u, k, (k : Int) - 1, by go_num, by go_num, rfl, by omega, Hq.out.symm, trivial⟩
          case measure => simp [intOf]
end Go.Proofs.YtbacamboknmppaaDoor
