/- The reference of big integers: Text. -/
import Derived.Test.YtbacamboknmppaaDoorKn
import Derived.Test.YtbacamboknmppaaDoorJo
namespace Go.Proofs.YtbacamboknmppaaDoor
open Go Go.RowKit Go.Proofs.Rg Go.Proofs.Hp Go.Proofs.Bn
set_option linter.unusedVariables false
set_option linter.unusedSimpArgs false
def strU (l : List Nat) : ByteArray := ⟨(l.map UInt8.ofNat).toArray⟩
def sbytes : Value → Nat
  | .string s => s.size
  | _ => 0
theorem strU_size (l : List Nat) : (strU l).size = l.length := by
  show ((l.map UInt8.ofNat).toArray).size = _
  simp
theorem strU_append (l m : List Nat) : strU l ++ strU m = strU (l ++ m) := by
  apply ByteArray.ext
  rw [ByteArray.data_append]
  simp [strU]
theorem tenth {d : Nat} (h : d < 10) : (⟨#[48, 49, 50, 51, 52, 53, 54, 55, 56, 57]⟩ : ByteArray).extract d (d + 1) = strU [48 + d] := by
  have hd : d = 0 ∨ d = 1 ∨ d = 2 ∨ d = 3 ∨ d = 4 ∨ d = 5 ∨ d = 6 ∨ d = 7 ∨ d = 8 ∨ d = 9 := by omega
  rcases hd with rfl | rfl | rfl | rfl | rfl | rfl | rfl | rfl | rfl | rfl <;> decide
theorem strB_U (l : List Nat) : strB l = strU l := by
  unfold strB strU strOfNums
  congr 2
  rw [List.map_map]
  congr 1
set_option maxHeartbeats 8000000 in
set_option maxRecDepth 100000 in
theorem RText_calls {w : World} {neg : Bool} {ds : List Nat} {a : Option Addr} {c : Nat} (hv : Reads w (.slice a ds.length c) ds.length 1 (u32s ds)) (hD : Dig 4294967296 ds) (hl : ds.length ≤ 10000) :
    Calls Tryd.prog 31 #[.agg #[.bool neg, .slice a ds.length c]] w fun e w' => e = .returned (.string (strB (textB neg ds))) ∧ Fr [] w w' := by
  have hra := fun w1 (hf : Fr [] w w1) => RRight_calls (neg := neg) (hv.fr hf) (by omega)
  have hby := fun w1 (hf : Fr [] w w1) => bytes_calls (neg := neg) (hv.fr hf) hD (by omega)
  obtain ⟨r, hS⟩ : ∃ r, r = textB neg ds := ⟨_, rfl⟩
  rw [← hS, strB_U]
  unfold textB at hS
  cases hR1 : RightB neg ds with
  | false =>
    rw [hR1] at hS hra
    simp only [if_true] at hS
    subst hS
    have Hra := Lib.hid hra
    clear hra hR1 hby hv
    go_enter Tryd.func31, Tryd.ntmps31
    go_wp2_with fail
    refine (Hra.out _ (by (repeat (first | exact Fr.refl _ _ | assumption | apply Fr.drewN | apply Fr.drew | apply Fr.alloc | refine Fr.setCell ?_ (Or.inr (by simp; try omega)) _)))).mono ?_
    rintro e w1 ⟨rfl, hf⟩
    have Hf := Lib.hid (Fr.trans0 (by (repeat (first | exact Fr.refl _ _ | assumption | apply Fr.drewN | apply Fr.drew | apply Fr.alloc | refine Fr.setCell ?_ (Or.inr (by simp; try omega)) _)) : Fr [] w _) hf)
    clear hf
    go_wp2
    go_ret
    exact ⟨rfl, Hf.out⟩
  | true =>
    obtain ⟨cA, lA, nA⟩ := right_canon hR1
    rw [hR1] at hS hra
    simp only [Bool.true_eq_false, if_false] at hS
    obtain ⟨V, hV⟩ : ∃ V, val 4294967296 ds = V := ⟨_, rfl⟩
    have hVN : V < 256 ^ 256 := by
      rw [← hV, show 256 ^ 256 = 4294967296 ^ 64 from pow256 64]
      exact Nat.lt_of_lt_of_le (val_lt hD) (Nat.pow_le_pow_right (by omega) lA)
    have hV0 : ds.length = 0 ↔ V = 0 := by
      constructor
      · intro h
        rw [← hV, List.eq_nil_of_length_eq_zero h]; rfl
      · intro h
        rcases Nat.eq_zero_or_pos ds.length with h2 | h2
        · exact h2
        · have := canon_pos (B := 4294967296) (by omega) cA (List.length_pos_iff.1 h2)
          omega
    rw [hV] at hS hby
    have Hra := Lib.hid hra
    have Hby := Lib.hid hby
    have HVN := Lib.hid hVN
    have HS := Lib.hid hS
    have HV0 := Lib.hid hV0
    have HdV : Hid ((dg 10 V).length ≤ 1000) := Lib.hid (by
      rw [dg_length_le (by omega)]
      refine Nat.lt_of_lt_of_le hVN ?_
      exact pow_ten (b := 3) (k := 1000) (by omega) (by omega))
    clear hra hR1 hby hv hVN hS hV cA nA hV0
    go_enter Tryd.func31, Tryd.ntmps31
    go_wp2_with fail
    refine (Hra.out _ (by (repeat (first | exact Fr.refl _ _ | assumption | apply Fr.drewN | apply Fr.drew | apply Fr.alloc | refine Fr.setCell ?_ (Or.inr (by simp; try omega)) _)))).mono ?_
    rintro e w1 ⟨rfl, hf⟩
    have ha_ := (hf.block (w.heap.size) (by first | (simp; done) | (simp; omega)) (by simp)).trans (show _ = some (.cells #[.bool neg, .slice a ds.length c] 24 (0, 0)) by (repeat (first | rw [if_pos (by omega)] | rw [if_neg (by omega)] | rw [hp_drew] | rw [hp_drewN] | rw [hp_alloc_size] | rw [hp_setCell_size] | rw [hp_alloc] | rw [hp_setCell] | rw [Option.map_some] | rw [upd_cells] | rw [List.set_cons_zero] | rw [List.set_cons_succ] | rfl)))
    have a0 := heap_eq_cell ha_ 0
    have a1 := heap_eq_cell ha_ 1
    have al := lt_of_block ha_
    have Ha := Lib.hid ha_
    clear ha_
    have Hf := Lib.hid (Fr.trans0 (by (repeat (first | exact Fr.refl _ _ | assumption | apply Fr.drewN | apply Fr.drew | apply Fr.alloc | refine Fr.setCell ?_ (Or.inr (by simp; try omega)) _)) : Fr [] w _) hf)
    clear hf
    go_wp2_with fail
    refine (Hby.out _ Hf.out).mono ?_
    rintro e w2 ⟨xa, xc, hlo, rfl, hr, hf⟩
    (try clear a0)
    (try clear a1)
    (try clear al)
    have ha_ := (hf.block _ (lt_of_block Ha.out) (by simp)).trans Ha.out
    clear Ha
    have a0 := heap_eq_cell ha_ 0
    have a1 := heap_eq_cell ha_ 1
    have al := lt_of_block ha_
    have Ha := Lib.hid ha_
    clear ha_
    have Hf := Lib.hid (Hf.out.trans0 hf)
    have Hr := Lib.hid hr
    clear hlo hr hf a0 a1 al
    go_wp2_with fail
    go_loopw [3, 4] (fun x3 x4 wl => ∃ (L : List Nat) (M : Nat) (xa : Option Addr) (xc : Nat), x4 = .string (strU (chs L).reverse) ∧ x3 = .slice xa (dg 256 M).length xc ∧ Reads wl (.slice xa (dg 256 M).length xc) (dg 256 M).length 1 (i64s (dg 256 M)) ∧ (dg 256 M).length ≤ 256 ∧ L ++ dg 10 M = dg 10 V ∧ Fr [] w2 wl) (fun _ x4 _ => (dg 10 V).length - sbytes x4)
    case atStart => exact ⟨[], V, xa, xc, rfl, rfl, Hr.out, by rw [dg_length_le (by omega)]; exact HVN.out, rfl, Fr.refl _ _⟩
    case round =>
      obtain ⟨L, M, ya, yc, rfl, rfl, hr, hl2, hall, hf⟩ := hrel
      have Hr := Lib.hid hr
      have Hall := Lib.hid hall
      have Hf2 := Lib.hid hf
      obtain ⟨X, hX⟩ : ∃ X, dg 256 M = X := ⟨_, rfl⟩
      have hXV : val 256 X = M := by rw [← hX]; exact val_dg (by omega) M
      have hXD : Dig 256 X := by rw [← hX]; exact dg_dig (by omega) M
      rw [hX] at Hr hl2 ⊢
      by_cases hM : M = 0
      · have hX0 : X = [] := by rw [← hX, hM, dg_zero]
        have hL : L = dg 10 V := by have h := Hall.out; rwa [hM, dg_zero, List.append_nil] at h
        have Hfw := Lib.hid (Hf.out.trans0 Hf2.out)
        have hA := (hf.block _ (lt_of_block Ha.out) (by simp)).trans Ha.out
        have a0 := heap_eq_cell hA 0
        have al := lt_of_block hA
        subst hX0
        clear hM hXV hXD hX hr hall hf hl2 hA
        by_cases hV : V = 0
        · have hL0 : L = [] := by rw [hL, hV, dg_zero]
          have hr1 : r = [48] := by rw [HS.out, if_pos (HV0.out.2 hV)]
          have e1 : strU (chs L).reverse = ⟨#[]⟩ := by rw [hL0]; rfl
          have e2 : strU r = ⟨#[48]⟩ := by rw [hr1]; rfl
          have E2 := Lib.hid e2
          rw [e1]
          clear e1 e2 hr1 hL0 hL hV
          go_wp2
          go_ret
          exact ⟨by rw [E2.out]; rfl, Hfw.out⟩
        · have hr1 : r = (chs L ++ if neg = true then [45] else []).reverse := by rw [HS.out, if_neg (fun h => hV (HV0.out.1 h)), ← hL]
          have hLne : (chs L).reverse ≠ [] := by
            intro h
            have h2 := congrArg List.length h
            simp [chs] at h2
            rw [h2] at hL
            exact hV ((dg_eq_nil (by omega)).1 hL.symm)
          obtain ⟨q, Q, hq⟩ : ∃ q Q, (chs L).reverse = q :: Q := by
            cases h : (chs L).reverse with
            | nil => exact absurd h hLne
            | cons q Q => exact ⟨q, Q, rfl⟩
          have e1 : strU (chs L).reverse = ⟨(UInt8.ofNat q :: Q.map UInt8.ofNat).toArray⟩ := by rw [hq]; rfl
          have hQl : Q.length ≤ 1000 := by
            have h := congrArg List.length hq
            simp [chs] at h
            have := HdV.out
            rw [hL] at h
            omega
          have er : (chs L ++ if neg = true then [45] else []).reverse = (if neg = true then [45] else []) ++ (q :: Q) := by
            rw [List.reverse_append, hq]
            cases neg <;> rfl
          have hr2 : strU r = strU ((if neg = true then [45] else []) ++ (q :: Q)) := by rw [hr1, er]
          have Hr2 := Lib.hid hr2
          rw [e1]
          obtain ⟨P, hP⟩ : ∃ P, Q.map UInt8.ofNat = P := ⟨_, rfl⟩
          have hPl : P.length = Q.length := by rw [← hP]; simp
          have HP := Lib.hid hP
          rw [hP]
          clear e1 hr1 hL hV hLne hq er hr2 hP
          have hsf : ¬ (9223372036854775807 < 1 + (P.length + 1)) := by omega
          cases neg
          · have e3 : strU r = ⟨(UInt8.ofNat q :: P).toArray⟩ := by rw [Hr2.out, ← HP.out]; rfl
            have E3 := Lib.hid e3
            clear e3 hsf
            go_wp2
            go_ret
            exact ⟨by rw [E3.out]; rfl, Hfw.out⟩
          · have e3 : strU r = ⟨#[45]⟩ ++ ⟨(UInt8.ofNat q :: P).toArray⟩ := by
              rw [Hr2.out, ← HP.out, if_pos rfl, ← strU_append]; rfl
            have E3 := Lib.hid e3
            clear e3
            go_wp2
            go_ret
            exact ⟨by rw [E3.out]; rfl, Hfw.out⟩
      · have hXp : 0 < X.length := List.length_pos_iff.2 (fun e => by rw [e] at hXV; simp [val] at hXV; omega)
        have hd : decide ((0 : Int) < X.length) = true := by rw [decide_eq_true_eq]; omega
        have Hpt := Lib.hid (hXV ▸ parts_calls Hr.out hXD (by omega) (n := 1000000000) (by omega) (by omega))
        obtain ⟨M2, hM2⟩ : ∃ M2, M / 1000000000 = M2 := ⟨_, rfl⟩
        obtain ⟨r0, hr0⟩ : ∃ r0, M % 1000000000 = r0 := ⟨_, rfl⟩
        unfold PartsPost at Hpt
        rw [hM2, hr0] at Hpt
        have hr9 : r0 < 1000000000 := by omega
        have HM := Lib.hid (show r0 + 1000000000 * M2 = M by omega)
        have HMp := Lib.hid hM
        have hl3 : (dg 256 M2).length ≤ 256 := by
          rw [dg_length_le (by omega)]
          have h1 := val_lt hXD
          have h2 : 256 ^ X.length ≤ 256 ^ 256 := Nat.pow_le_pow_right (by omega) hl2
          have : M2 ≤ M := by rw [← hM2]; exact Nat.div_le_self _ _
          omega
        have Hl3 := Lib.hid hl3
        clear hM2 hr0 hM hXV hXD hX hr hall hf hl3
        go_wp2_with fail
        refine Hpt.out.mono ?_
        rintro e w3 ⟨T, ta, tc, hT, hlo, rfl, hr3, hf3⟩
        subst hT
        have Hr3 := Lib.hid hr3
        have Hf3 := Lib.hid (Hf2.out.trans0 hf3)
        obtain ⟨m2, hm2⟩ : ∃ m2, (dg 256 M2).length = m2 := ⟨_, rfl⟩
        rw [hm2] at Hr3 ⊢
        have Hm2 := Lib.hid hm2
        clear hlo hr3 hf3 hm2
        go_wp2_with fail
        go_loop [4, 6, 7] (fun x4 x6 x7 => ∃ (L2 : List Nat) (r i : Nat), x4 = .string (strU (chs L2).reverse) ∧ x6 = .int .u64 r ∧ x7 = .int .i64 i ∧ i ≤ 9 ∧ r < 10 ^ (9 - i) ∧ L2 ++ dg 10 (r + 10 ^ (9 - i) * M2) = dg 10 V ∧ L2.length = L.length + i) (fun _ _ x7 => 9 - (intOf x7).toNat)
        case atStart => exact ⟨L, r0, 0, rfl, rfl, rfl, by omega, hr9, by rw [Nat.sub_zero, show 10 ^ 9 = 1000000000 from rfl, HM.out]; exact Hall.out, rfl⟩
        case round =>
          obtain ⟨L2, r, i, rfl, rfl, rfl, hi, hr9', hall2, hl2'⟩ := hrel
          have Hr9 := Lib.hid hr9'
          have Hall2 := Lib.hid hall2
          have Hl2 := Lib.hid hl2'
          have hrB : r < 1000000000 := Nat.lt_of_lt_of_le hr9' (Nat.pow_le_pow_right (show 0 < 10 by omega) (show 9 - i ≤ 9 by omega))
          clear hr9' hall2 hl2' hr9
          have hL2b : L2.length ≤ 1000 := by
            have h := congrArg List.length Hall2.out
            rw [List.length_append] at h
            have := HdV.out
            omega
          by_cases hi9 : i < 9
          · rcases Nat.eq_zero_or_pos m2 with hm0 | hmp
            · rcases Nat.eq_zero_or_pos r with hr0 | hrp
              · have hM0 : M2 = 0 := by have h := Hm2.out; rw [hm0] at h; exact (dg_eq_nil (by omega)).1 (List.eq_nil_of_length_eq_zero h)
                have hfin : L2 ++ dg 10 M2 = dg 10 V := by have h := Hall2.out; rw [hM0, hr0, Nat.mul_zero, Nat.zero_add] at h; rw [hM0]; exact h
                have hip : 0 < i := by
                  rcases Nat.eq_zero_or_pos i with h | h
                  · subst h
                    have h2 := Hall2.out
                    have h3 := Hl2.out
                    rw [hM0, hr0, Nat.mul_zero, Nat.zero_add, dg_zero, List.append_nil] at h2
                    have h4 := Hall.out
                    rw [← h2] at h4
                    have h5 := congrArg List.length h4
                    rw [List.length_append] at h5
                    have h6 : dg 10 M ≠ [] := by rw [Ne, dg_eq_nil (by omega)]; exact HMp.out
                    have := List.length_pos_iff.2 h6
                    omega
                  · exact h
                have hdm : decide ((0 : Int) < m2) = false := by rw [decide_eq_false_iff_not]; omega
                have hdm2 : decide (0 < m2) = false := by rw [decide_eq_false_iff_not]; omega
                have hdr : decide (0 < r) = false := by rw [decide_eq_false_iff_not]; omega
                clear hm0 hr0
                have hlen2 : L.length < L2.length := by have := Hl2.out; omega
                have hlen3 : L2.length ≤ (dg 10 V).length := by rw [← hfin, List.length_append]; omega
                have Hfin := Lib.hid hfin
                have Hlen2 := Lib.hid hlen2
                have Hlen3 := Lib.hid hlen3
                clear hfin hlen2 hlen3 hip
                go_wp2_with fail
                go_roundw
                case rel => exact ⟨L2, M2, ta, tc, rfl, by rw [Hm2.out], by rw [Hm2.out]; exact Hr3.out, Hl3.out, Hfin.out, Hf3.out⟩
                case measure =>
                  have h2 := Hlen2.out
                  have h3 := Hlen3.out
                  show (dg 10 V).length - (strU (chs L2).reverse).size < (dg 10 V).length - (strU (chs L).reverse).size
                  rw [strU_size, strU_size]
                  simp [chs]
                  omega
              · have hdm : decide ((0 : Int) < m2) = false := by rw [decide_eq_false_iff_not]; omega
                have hdm2 : decide (0 < m2) = false := by rw [decide_eq_false_iff_not]; omega
                have hdr : decide (0 < r) = true := by simpa using hrp
                clear hm0
                have hds := dec_step (r := r) (M := M2) (k := 8 - i) (.inl hrp)
                rw [show 8 - i + 1 = 9 - i by omega] at hds
                have hall2 := Hall2.out
                rw [hds] at hall2
                obtain ⟨d, hd⟩ : ∃ d, r % 10 = d := ⟨_, rfl⟩
                have Er : ((r : Int) % 10) = d := by omega
                have hd10 : d < 10 := by omega
                rw [hd] at hall2
                have hall3 : (L2 ++ [d]) ++ dg 10 (r / 10 + 10 ^ (9 - (i + 1)) * M2) = dg 10 V := by rw [List.append_assoc, show 9 - (i + 1) = 8 - i by omega]; exact hall2
                have hr2 : r / 10 < 10 ^ (9 - (i + 1)) := by
                  have h := Hr9.out
                  rw [show 9 - i = (9 - (i + 1)) + 1 by omega, Nat.pow_succ] at h
                  rw [Nat.div_lt_iff_lt_mul (by omega)]
                  exact h
                have Hall3 := Lib.hid hall3
                have Hr2 := Lib.hid hr2
                have Ex := tenth hd10
                have Hsnoc := Lib.hid (show strU [48 + d] ++ strU (chs L2).reverse = strU (chs (L2 ++ [d])).reverse by rw [strU_append]; simp [chs])
                have Esz : (strU [48 + d]).size + (strU (chs L2).reverse).size = 1 + L2.length := by rw [strU_size, strU_size]; simp [chs]
                have Esz1 : (strU [48 + d]).size = 1 := by rw [strU_size]; rfl
                have Esz2 : (strU (chs L2).reverse).size = L2.length := by rw [strU_size]; simp [chs]
                have hsf : ¬ (9223372036854775807 < 1 + L2.length) := by omega
                clear hds hall2 hall3 hr2 hd
                go_wp2_with fail
                go_round
                case rel => exact ⟨L2 ++ [d], r / 10, i + 1, by rw [Hsnoc.out], by go_num, by go_num, by omega, Hr2.out, Hall3.out, by rw [List.length_append, List.length_singleton]; have := Hl2.out; omega⟩
                case measure => simp [intOf]; omega
            · have hdm : decide ((0 : Int) < m2) = true := by rw [decide_eq_true_eq]; omega
              have hdm2 : decide (0 < m2) = true := by simpa using hmp
              have hMp2 : 0 < M2 := by
                rcases Nat.eq_zero_or_pos M2 with h | h
                · have h2 := Hm2.out
                  rw [h, dg_zero] at h2
                  simp at h2
                  omega
                · exact h
              have HMp2 := Lib.hid hMp2
              clear hMp2
              have hds := dec_step (r := r) (M := M2) (k := 8 - i) (.inr HMp2.out)
              rw [show 8 - i + 1 = 9 - i by omega] at hds
              have hall2 := Hall2.out
              rw [hds] at hall2
              obtain ⟨d, hd⟩ : ∃ d, r % 10 = d := ⟨_, rfl⟩
              have Er : ((r : Int) % 10) = d := by omega
              have hd10 : d < 10 := by omega
              rw [hd] at hall2
              have hall3 : (L2 ++ [d]) ++ dg 10 (r / 10 + 10 ^ (9 - (i + 1)) * M2) = dg 10 V := by rw [List.append_assoc, show 9 - (i + 1) = 8 - i by omega]; exact hall2
              have hr2 : r / 10 < 10 ^ (9 - (i + 1)) := by
                have h := Hr9.out
                rw [show 9 - i = (9 - (i + 1)) + 1 by omega, Nat.pow_succ] at h
                rw [Nat.div_lt_iff_lt_mul (by omega)]
                exact h
              have Hall3 := Lib.hid hall3
              have Hr2 := Lib.hid hr2
              have Ex := tenth hd10
              have Hsnoc := Lib.hid (show strU [48 + d] ++ strU (chs L2).reverse = strU (chs (L2 ++ [d])).reverse by rw [strU_append]; simp [chs])
              have Esz : (strU [48 + d]).size + (strU (chs L2).reverse).size = 1 + L2.length := by rw [strU_size, strU_size]; simp [chs]
              have Esz1 : (strU [48 + d]).size = 1 := by rw [strU_size]; rfl
              have Esz2 : (strU (chs L2).reverse).size = L2.length := by rw [strU_size]; simp [chs]
              have hsf : ¬ (9223372036854775807 < 1 + L2.length) := by omega
              clear hds hall2 hall3 hr2 hd
              go_wp2_with fail
              go_round
              case rel => exact ⟨L2 ++ [d], r / 10, i + 1, by rw [Hsnoc.out], by go_num, by go_num, by omega, Hr2.out, Hall3.out, by rw [List.length_append, List.length_singleton]; have := Hl2.out; omega⟩
              case measure => simp [intOf]; omega
          · obtain rfl : i = 9 := by omega
            have hr0 : r = 0 := by have h := Hr9.out; omega
            have hfin : L2 ++ dg 10 M2 = dg 10 V := by have h := Hall2.out; rw [hr0, Nat.zero_add, Nat.sub_self, Nat.pow_zero, Nat.one_mul] at h; exact h
            have hip : 0 < 9 := by omega
            clear hi9 hr0
            have hlen2 : L.length < L2.length := by have := Hl2.out; omega
            have hlen3 : L2.length ≤ (dg 10 V).length := by rw [← hfin, List.length_append]; omega
            have Hfin := Lib.hid hfin
            have Hlen2 := Lib.hid hlen2
            have Hlen3 := Lib.hid hlen3
            clear hfin hlen2 hlen3 hip
            go_wp2_with fail
            go_roundw
            case rel => exact ⟨L2, M2, ta, tc, rfl, by rw [Hm2.out], by rw [Hm2.out]; exact Hr3.out, Hl3.out, Hfin.out, Hf3.out⟩
            case measure =>
              have h2 := Hlen2.out
              have h3 := Hlen3.out
              show (dg 10 V).length - (strU (chs L2).reverse).size < (dg 10 V).length - (strU (chs L).reverse).size
              rw [strU_size, strU_size]
              simp [chs]
              omega
end Go.Proofs.YtbacamboknmppaaDoor
