/- The reference of big integers: Bit. -/
import Derived.Test.YtbacamboknmppaaDoorKp
import Derived.Test.YtbacamboknmppaaDoorJm
namespace Go.Proofs.YtbacamboknmppaaDoor
open Go Go.RowKit Go.Proofs.Rg Go.Proofs.Hp Go.Proofs.Bn
set_option linter.unusedVariables false
set_option linter.unusedSimpArgs false
theorem mkN_low {neg : Bool} {W : Nat} (h : W < 4294967296 ^ 64) : (mkN neg W).2.1.getD 0 0 % 2 = W % 2 := by
  unfold mkN
  by_cases h0 : W = 0
  · rw [if_pos h0, h0]; rfl
  · rw [if_neg h0, if_pos h]
    show (dg 4294967296 W).getD 0 0 % 2 = W % 2
    rw [dg_succ (by omega) h0, List.getD_cons_zero]
    omega
theorem ceil_bit {V m : Nat} (h : 1 ≤ V) : downN true V m % 2 = 1 - (V - 1) / 2 ^ m % 2 := by
  unfold downN
  have hp := Nat.pow_pos (n := m) (show 0 < 2 by omega)
  have h1 := Nat.mod_add_div V (2 ^ m)
  have h2 := Nat.mod_lt V hp
  generalize 2 ^ m = P at *
  by_cases hr : V % P = 0
  · obtain ⟨q, hq⟩ : ∃ q, V / P = q + 1 := by
      refine ⟨V / P - 1, ?_⟩
      rcases Nat.eq_zero_or_pos (V / P) with h3 | h3
      · rw [h3, hr] at h1; simp at h1; omega
      · omega
    have e : (V - 1) / P = q := by
      rw [hr, hq, Nat.mul_succ] at h1
      rw [show V - 1 = (P - 1) + P * q by omega, Nat.add_mul_div_left _ _ hp, Nat.div_eq_of_lt (by omega)]
      omega
    rw [e, hq, decide_eq_false (by simpa using hr)]
    simp
    omega
  · have e : (V - 1) / P = V / P := by
      rw [show V - 1 = (V % P - 1) + P * (V / P) by omega, Nat.add_mul_div_left _ _ hp, Nat.div_eq_of_lt (by omega)]
      omega
    rw [e, decide_eq_true hr]
    simp
    omega
theorem down_two {neg : Bool} {V m a b : Nat} (hb : b = a + 1) (h : V / 2 ^ m < 2 ^ a) : downN neg V m < 2 ^ b := by
  subst hb
  rw [Nat.pow_succ]
  unfold downN
  have : 1 ≤ 2 ^ a := Nat.pow_pos (by omega)
  generalize 2 ^ a = Z at *
  split <;> omega
theorem bitS_eq {neg : Bool} {ds : List Nat} {m : Nat} (hR : RightB neg ds = true) (hD : Dig 4294967296 ds) : bitS neg ds m = if neg then 1 - (val 4294967296 ds - 1) / 2 ^ m % 2 else val 4294967296 ds / 2 ^ m % 2 := by
  obtain ⟨cA, lA, nA⟩ := right_canon hR
  obtain ⟨V, hV⟩ : ∃ V, val 4294967296 ds = V := ⟨_, rfl⟩
  have e48 : 4294967296 ^ 64 = 2 ^ 2048 := pow_bits' (n := 64) (m := 2048) (by omega)
  have hVb : V < 2 ^ 2048 := by
    rw [← hV, ← e48]
    exact Nat.lt_of_lt_of_le (val_lt hD) (Nat.pow_le_pow_right (by omega) lA)
  have hVp : neg = true → 1 ≤ V := fun h => by
    rw [← hV]
    have hne : ds ≠ [] := fun e => by have := nA e; rw [this] at h; cases h
    exact canon_pos (by omega) cA hne
  have hV0 : ds.length = 0 → V = 0 ∧ neg = false := fun h => by
    have h2 := List.eq_nil_of_length_eq_zero h
    exact ⟨by rw [← hV, h2]; rfl, nA h2⟩
  unfold bitS
  rw [hR, hV, if_neg (by simp)]
  by_cases h48 : (2048 : Int) ≤ m
  · rw [if_pos h48]
    have h2 : V < 2 ^ m := Nat.lt_of_lt_of_le hVb (two_mono (n := 2048) (m := m) (by omega))
    rw [Nat.div_eq_of_lt h2, Nat.div_eq_of_lt (by omega)]
    try (cases neg <;> rfl)
  · rw [if_neg h48]
    unfold shiftS
    rw [hR, if_neg (by simp), hV]
    by_cases h0 : ds.length = 0
    · rw [if_pos h0, (hV0 h0).1, (hV0 h0).2]; simp
    · rw [if_neg h0]
      by_cases hm : m = 0
      · subst hm
        rw [if_neg (by omega), if_neg (by omega), show (-((0 : Nat) : Int)).toNat = 0 from rfl, Nat.pow_zero, Nat.mul_one, mkN_low (by rw [e48]; exact hVb), Nat.div_one, Nat.div_one]
        cases neg
        · rfl
        · have := hVp rfl
          simp; omega
      · rw [if_pos (by omega), if_neg (by omega), show (-(-(m : Int))).toNat = m by omega]
        have hle : V / 2 ^ m < 2 ^ 2047 := div_lt_two (a := 2047) (b := m) (Nat.lt_of_lt_of_le hVb (two_mono (n := 2048) (m := 2047 + m) (by omega)))
        have hdl : downN neg V m < 4294967296 ^ 64 := by
          rw [e48]
          exact down_two (a := 2047) (b := 2048) rfl hle
        rw [mkN_low hdl]
        cases neg
        · unfold downN; simp
        · rw [ceil_bit (hVp rfl)]; rfl
set_option maxHeartbeats 4000000 in
set_option maxRecDepth 100000 in
theorem RBit_calls {w : World} {neg : Bool} {ds : List Nat} {k : Int} {a : Option Addr} {c : Nat} (hv : Reads w (.slice a ds.length c) ds.length 1 (u32s ds)) (hD : Dig 4294967296 ds) (hl : ds.length ≤ 10000) (hk2 : k < 9223372036854775808) :
    Calls Tryd.prog 27 #[.agg #[.bool neg, .slice a ds.length c], .int .i64 k] w fun e w' => e = .returned (.int .i64 (bitS neg ds k : Nat)) ∧ Fr [] w w' := by
  have hra := fun w1 (hf : Fr [] w w1) => RRight_calls (neg := neg) (hv.fr hf) (by omega)
  have hby := fun w1 (hf : Fr [] w w1) => bytes_calls (neg := neg) (hv.fr hf) hD (by omega)
  obtain ⟨r, hS⟩ : ∃ r, r = bitS neg ds k := ⟨_, rfl⟩
  rw [← hS]
  cases hR1 : RightB neg ds with
  | false =>
    rw [hR1] at hra
    have hr : r = 0 := by rw [hS]; unfold bitS; rw [if_pos (.inl hR1)]
    subst hr
    have Hra := Lib.hid hra
    clear hra hR1 hby hv hS
    go_enter Tryd.func27, Tryd.ntmps27
    go_wp2_with fail
    refine (Hra.out _ (by (repeat (first | exact Fr.refl _ _ | assumption | apply Fr.drewN | apply Fr.drew | apply Fr.alloc | refine Fr.setCell ?_ (Or.inr (by simp; try omega)) _)))).mono ?_
    rintro e w1 ⟨rfl, hf⟩
    have ha_ := (hf.block (w.heap.size) (by first | (simp; done) | (simp; omega)) (by simp)).trans (show _ = some (.cells #[.bool neg, .slice a ds.length c] 24 (0, 0)) by (repeat (first | rw [if_pos (by omega)] | rw [if_neg (by omega)] | rw [hp_drew] | rw [hp_drewN] | rw [hp_alloc_size] | rw [hp_setCell_size] | rw [hp_alloc] | rw [hp_setCell] | rw [Option.map_some] | rw [upd_cells] | rw [List.set_cons_zero] | rw [List.set_cons_succ] | rfl)))
    have a0 := heap_eq_cell ha_ 0
    have a1 := heap_eq_cell ha_ 1
    have al := lt_of_block ha_
    have Ha := Lib.hid ha_
    clear ha_
    have Hf := Lib.hid (Fr.trans0 (by (repeat (first | exact Fr.refl _ _ | assumption | apply Fr.drewN | apply Fr.drew | apply Fr.alloc | refine Fr.setCell ?_ (Or.inr (by simp; try omega)) _)) : Fr [] w _) hf)
    clear hf
    go_wp2
    go_ret
    exact ⟨rfl, Hf.out⟩
  | true =>
    rw [hR1] at hra
    have Hra := Lib.hid hra
    clear hra
    by_cases hk0 : k < 0
    · have hr : r = 0 := by rw [hS]; unfold bitS; rw [if_pos (.inr hk0)]
      subst hr
      have hd : decide (k < 0) = true := by simpa using hk0
      clear hR1 hby hv hS
      go_enter Tryd.func27, Tryd.ntmps27
      go_wp2_with fail
      refine (Hra.out _ (by (repeat (first | exact Fr.refl _ _ | assumption | apply Fr.drewN | apply Fr.drew | apply Fr.alloc | refine Fr.setCell ?_ (Or.inr (by simp; try omega)) _)))).mono ?_
      rintro e w1 ⟨rfl, hf⟩
      have ha_ := (hf.block (w.heap.size) (by first | (simp; done) | (simp; omega)) (by simp)).trans (show _ = some (.cells #[.bool neg, .slice a ds.length c] 24 (0, 0)) by (repeat (first | rw [if_pos (by omega)] | rw [if_neg (by omega)] | rw [hp_drew] | rw [hp_drewN] | rw [hp_alloc_size] | rw [hp_setCell_size] | rw [hp_alloc] | rw [hp_setCell] | rw [Option.map_some] | rw [upd_cells] | rw [List.set_cons_zero] | rw [List.set_cons_succ] | rfl)))
      have a0 := heap_eq_cell ha_ 0
      have a1 := heap_eq_cell ha_ 1
      have al := lt_of_block ha_
      have Ha := Lib.hid ha_
      clear ha_
      have Hf := Lib.hid (Fr.trans0 (by (repeat (first | exact Fr.refl _ _ | assumption | apply Fr.drewN | apply Fr.drew | apply Fr.alloc | refine Fr.setCell ?_ (Or.inr (by simp; try omega)) _)) : Fr [] w _) hf)
      clear hf
      go_wp2
      go_ret
      exact ⟨rfl, Hf.out⟩
    · obtain ⟨m, rfl⟩ : ∃ m : Nat, k = m := ⟨k.toNat, by omega⟩
      rw [bitS_eq hR1 hD] at hS
      obtain ⟨cA, lA, nA⟩ := right_canon hR1
      obtain ⟨V, hV⟩ : ∃ V, val 4294967296 ds = V := ⟨_, rfl⟩
      have hVN : V < 256 ^ 256 := by
        rw [← hV, show 256 ^ 256 = 4294967296 ^ 64 from pow256 64]
        exact Nat.lt_of_lt_of_le (val_lt hD) (Nat.pow_le_pow_right (by omega) lA)
      have hVp : neg = true → 1 ≤ V := fun h => by
        rw [← hV]
        have hne : ds ≠ [] := fun e => by have := nA e; rw [this] at h; cases h
        exact canon_pos (by omega) cA hne
      obtain ⟨X, hX⟩ : ∃ X, dg 256 V = X := ⟨_, rfl⟩
      have hXV : val 256 X = V := by rw [← hX]; exact val_dg (by omega) V
      have hXD : Dig 256 X := by rw [← hX]; exact dg_dig (by omega) V
      have hXl : X.length ≤ 256 := by rw [← hX, dg_length_le (by omega)]; exact hVN
      have hXp : 1 ≤ V → 1 ≤ X.length := fun h => List.length_pos_iff.2 (fun e => by rw [e] at hXV; simp [val] at hXV; omega)
      rw [hV] at hS hby
      rw [hX] at hby
      have hd : decide ((m : Int) < 0) = false := by simp
      have HS := Lib.hid hS
      have Hby := Lib.hid hby
      have HXV := Lib.hid hXV
      have HXD := Lib.hid hXD
      have Hm := Lib.hid hk2
      have HVN := Lib.hid hVN
      cases neg
      · have hS := HS.out
        simp only [Bool.false_eq_true, if_false] at hS
        have Hr := Lib.hid hS
        clear hS hby hXV hXD hX hV hVN hVp hXp hR1 cA nA hv hD hk2 hk0 HS
        go_enter Tryd.func27, Tryd.ntmps27
        go_wp2_with fail
        refine (Hra.out _ (by (repeat (first | exact Fr.refl _ _ | assumption | apply Fr.drewN | apply Fr.drew | apply Fr.alloc | refine Fr.setCell ?_ (Or.inr (by simp; try omega)) _)))).mono ?_
        rintro e w1 ⟨rfl, hf⟩
        have ha_ := (hf.block (w.heap.size) (by first | (simp; done) | (simp; omega)) (by simp)).trans (show _ = some (.cells #[.bool false, .slice a ds.length c] 24 (0, 0)) by (repeat (first | rw [if_pos (by omega)] | rw [if_neg (by omega)] | rw [hp_drew] | rw [hp_drewN] | rw [hp_alloc_size] | rw [hp_setCell_size] | rw [hp_alloc] | rw [hp_setCell] | rw [Option.map_some] | rw [upd_cells] | rw [List.set_cons_zero] | rw [List.set_cons_succ] | rfl)))
        have a0 := heap_eq_cell ha_ 0
        have a1 := heap_eq_cell ha_ 1
        have al := lt_of_block ha_
        have Ha := Lib.hid ha_
        clear ha_
        have Hf := Lib.hid (Fr.trans0 (by (repeat (first | exact Fr.refl _ _ | assumption | apply Fr.drewN | apply Fr.drew | apply Fr.alloc | refine Fr.setCell ?_ (Or.inr (by simp; try omega)) _)) : Fr [] w _) hf)
        clear hf
        go_wp2_with fail
        refine (Hby.out _ Hf.out).mono ?_
        rintro e w3 ⟨xa, xc, hlo, rfl, hr, hf⟩
        have Hf := Lib.hid (Hf.out.trans0 hf)
        have Hb := Lib.hid (HXV.out ▸ bit_calls hr HXD.out (by omega) m (by have := Hm.out; omega))
        clear hlo hr hf a0 a1 al
        go_wp2_with fail
        refine Hb.out.mono ?_
        rintro e w4 ⟨rfl, rfl⟩
        have Hrc := Lib.hid (show (r : Int) = (V : Int) / 2 ^ m % 2 by rw [Hr.out]; simp)
        go_wp2
        go_ret
        exact ⟨by rw [Hrc.out]; rfl, Hf.out⟩
      · have hS := HS.out
        simp only [if_true] at hS
        have Hr := Lib.hid hS
        have HV1 := Lib.hid (hVp rfl)
        have HX1 := Lib.hid (hXp (hVp rfl))
        clear hS hby hXV hXD hX hV hVN hVp hXp hR1 cA nA hv hD hk2 hk0 HS
        go_enter Tryd.func27, Tryd.ntmps27
        go_wp2_with fail
        refine (Hra.out _ (by (repeat (first | exact Fr.refl _ _ | assumption | apply Fr.drewN | apply Fr.drew | apply Fr.alloc | refine Fr.setCell ?_ (Or.inr (by simp; try omega)) _)))).mono ?_
        rintro e w1 ⟨rfl, hf⟩
        have ha_ := (hf.block (w.heap.size) (by first | (simp; done) | (simp; omega)) (by simp)).trans (show _ = some (.cells #[.bool true, .slice a ds.length c] 24 (0, 0)) by (repeat (first | rw [if_pos (by omega)] | rw [if_neg (by omega)] | rw [hp_drew] | rw [hp_drewN] | rw [hp_alloc_size] | rw [hp_setCell_size] | rw [hp_alloc] | rw [hp_setCell] | rw [Option.map_some] | rw [upd_cells] | rw [List.set_cons_zero] | rw [List.set_cons_succ] | rfl)))
        have a0 := heap_eq_cell ha_ 0
        have a1 := heap_eq_cell ha_ 1
        have al := lt_of_block ha_
        have Ha := Lib.hid ha_
        clear ha_
        have Hf := Lib.hid (Fr.trans0 (by (repeat (first | exact Fr.refl _ _ | assumption | apply Fr.drewN | apply Fr.drew | apply Fr.alloc | refine Fr.setCell ?_ (Or.inr (by simp; try omega)) _)) : Fr [] w _) hf)
        clear hf
        go_wp2_with fail
        refine (Hby.out _ Hf.out).mono ?_
        rintro e w3 ⟨xa, xc, hlo, rfl, hr, hf⟩
        have Hf := Lib.hid (Hf.out.trans0 hf)
        have Hx := Lib.hid hr
        clear hlo hr hf a0 a1 al
        go_wp2_with fail
        refine (rminus_calls (Hx.out.fr (by (repeat (first | exact Fr.refl _ _ | assumption | apply Fr.drewN | apply Fr.drew | apply Fr.alloc | refine Fr.setCell ?_ (Or.inr (by simp; try omega)) _)))) (reads_blk (cs := i64s [1]) (by (repeat (first | rw [if_pos (by omega)] | rw [if_neg (by omega)] | rw [hp_drew] | rw [hp_drewN] | rw [hp_alloc_size] | rw [hp_setCell_size] | rw [hp_alloc] | rw [hp_setCell] | rw [Option.map_some] | rw [upd_cells] | rw [List.set_cons_zero] | rw [List.set_cons_succ] | rfl))) rfl) HXD.out (db := [1]) (fun x hx => by simp at hx; omega) HX1.out (by rw [HXV.out]; exact HV1.out) (by omega)).mono ?_
        rintro e w4 ⟨la, lc, hlo, rfl, hr, hf0⟩
        rw [HXV.out, show val 256 [1] = 1 by rfl] at hr hlo ⊢
        have hf : Fr [] w3 w4 := Fr.trans0 (by (repeat (first | exact Fr.refl _ _ | assumption | apply Fr.drewN | apply Fr.drew | apply Fr.alloc | refine Fr.setCell ?_ (Or.inr (by simp; try omega)) _))) hf0
        have Hf := Lib.hid (Hf.out.trans0 hf)
        obtain ⟨D, hDe⟩ : ∃ D, dg 256 (V - 1) = D := ⟨_, rfl⟩
        have hDl : D.length ≤ 256 := by rw [← hDe, dg_length_le (by omega)]; have := HVN.out; omega
        have hDD : Dig 256 D := by rw [← hDe]; exact dg_dig (by omega) _
        have hDV : val 256 D = V - 1 := by rw [← hDe]; exact val_dg (by omega) _
        rw [hDe] at hr ⊢
        have Hb := Lib.hid (hDV ▸ bit_calls hr hDD (by omega) m (by have := Hm.out; omega))
        clear hlo hr hf hf0 hDe hDl hDD hDV
        go_wp2_with fail
        refine Hb.out.mono ?_
        rintro e w5 ⟨rfl, rfl⟩
        have hr := Hr.out
        have hb2 : (V - 1) / 2 ^ m % 2 < 2 := Nat.mod_lt _ (by omega)
        generalize (V - 1) / 2 ^ m % 2 = b at *
        have Hr2 := Lib.hid (show (r : Int) = 1 - (b : Int) by omega)
        clear hr
        go_wp2
        go_ret
        exact ⟨by rw [Hr2.out]; rfl, Hf.out⟩
end Go.Proofs.YtbacamboknmppaaDoor
