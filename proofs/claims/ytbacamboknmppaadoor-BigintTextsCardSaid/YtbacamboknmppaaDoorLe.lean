/- Big integers: the laws of bits and texts. No program in sight. -/
import Derived.Test.YtbacamboknmppaaDoorLd
namespace Go.Proofs.YtbacamboknmppaaDoor
open Go Go.RowKit Go.Proofs.Rg Go.Proofs.Hp Go.Proofs.Bn
set_option linter.unusedVariables false
set_option linter.unusedSimpArgs false
theorem downN_le {neg : Bool} {V m : Nat} (hV : 0 < V) (hm : m ≠ 0) : downN neg V m ≤ V := by
  unfold downN
  have h2 : 2 ≤ 2 ^ m := by
    calc 2 = 2 ^ 1 := rfl
      _ ≤ 2 ^ m := Nat.pow_le_pow_right (by omega) (by omega)
  have h3 : V / 2 ^ m ≤ V / 2 := Nat.div_le_div_left h2 (by omega)
  split <;> omega
theorem val_head (l : List Nat) : val 4294967296 l % 2 = l.getD 0 0 % 2 := by
  cases l with
  | nil => rfl
  | cons d l => show (d + 4294967296 * val 4294967296 l) % 2 = d % 2; omega
theorem div_two {s1 : Bool} {s2 : List Nat} (hR : RightB s1 s2 = true) (hD : Dig 4294967296 s2) : (divS s1 s2 2).1.2.2 = 0 ∧ (divS s1 s2 2).2 = ((val 4294967296 s2 % 2 : Nat) : Int) := by
  have hlt := val_right_lt hR hD
  unfold divS
  rw [hR, if_neg (by decide), if_neg (by decide)]
  refine ⟨mkN_err ?_, ?_⟩
  · refine Nat.lt_of_le_of_lt ?_ hlt
    show val 4294967296 s2 / 2 + _ ≤ _
    unfold divUp
    show val 4294967296 s2 / 2 + (if ((s1 != decide ((2 : Int) < 0)) && decide (val 4294967296 s2 % 2 ≠ 0)) = true then 1 else 0) ≤ _
    split
    · rename_i h; simp at h; omega
    · omega
  · show (let r := if divUp s1 (val 4294967296 s2) 2 then (2 : Int).natAbs - val 4294967296 s2 % (2 : Int).natAbs else val 4294967296 s2 % (2 : Int).natAbs; if (2 : Int) < 0 then -(r : Int) else (r : Int)) = _
    simp only
    rw [if_neg (by decide)]
    unfold divUp
    show ((if ((s1 != decide ((2 : Int) < 0)) && decide (val 4294967296 s2 % 2 ≠ 0)) = true then 2 - val 4294967296 s2 % 2 else val 4294967296 s2 % 2 : Nat) : Int) = _
    split
    · rename_i h; simp at h; omega
    · rfl
theorem bit_shift {neg : Bool} {ds : List Nat} {k : Int} (hD : Dig 4294967296 ds) (hR : RightB neg ds = true) (hk : 0 ≤ k) :
    (shiftS neg ds (-k)).2.2 = 0 ∧ (divS (shiftS neg ds (-k)).1 (shiftS neg ds (-k)).2.1 2).1.2.2 = 0 ∧ (divS (shiftS neg ds (-k)).1 (shiftS neg ds (-k)).2.1 2).2 = ((bitS neg ds k : Nat) : Int) := by
  by_cases h0 : ds.length = 0
  · obtain rfl := List.eq_nil_of_length_eq_zero h0
    obtain rfl := (right_canon hR).2.2 rfl
    have e : shiftS false [] (-k) = (false, [], 0) := by
      unfold shiftS
      rw [hR, if_neg (by decide), if_pos (show ([] : List Nat).length = 0 from rfl)]
    unfold bitS
    rw [e, hR]
    refine ⟨rfl, by decide, ?_⟩
    rw [if_neg (by simp; omega)]
    split <;> decide
  · have hV := right_pos hR h0
    have hlt := val_right_lt hR hD
    obtain ⟨D, hDD, hS⟩ : ∃ D, D < 4294967296 ^ 64 ∧ shiftS neg ds (-k) = mkN neg D ∧ (2048 ≤ k → D = if neg then 1 else 0) := by
      unfold shiftS
      rw [hR, if_neg (by decide), if_neg h0]
      by_cases hk0 : k = 0
      · subst hk0
        rw [if_neg (by omega), if_neg (by omega)]
        exact ⟨_, by simpa using hlt, rfl, by omega⟩
      · rw [if_pos (by omega), Int.neg_neg]
        obtain ⟨m, hm⟩ : ∃ m, (if -k < -4096 then 4096 else k.toNat) = m := ⟨_, rfl⟩
        rw [hm]
        have hm0 : m ≠ 0 := by rw [← hm]; split <;> omega
        refine ⟨_, Nat.lt_of_le_of_lt (downN_le hV hm0) hlt, rfl, fun h => ?_⟩
        have hm2 : 2048 ≤ m := by rw [← hm]; split <;> omega
        have hlt2 : val 4294967296 ds < 2 ^ m := Nat.lt_of_lt_of_le hlt (by
          exact pow_two_le (n := 64) (m := m) (by omega))
        unfold downN
        rw [Nat.div_eq_of_lt hlt2, Nat.mod_eq_of_lt hlt2]
        cases neg
        · simp
        · simp; omega
    obtain ⟨hS, hbig⟩ := hS
    obtain ⟨⟨s1, s2, s3⟩, hs⟩ : ∃ s, mkN neg D = s := ⟨_, rfl⟩
    have h3 := mkN_err (neg := neg) hDD
    rw [hs] at h3 hS
    simp only at h3
    subst h3
    obtain ⟨h4, h5, _, _⟩ := mkN_ok hs
    have hsd : Dig 4294967296 s2 := by have := mkN_dig (neg := neg) (V := D); rw [hs] at this; exact this
    have h6 := div_two h5 hsd
    unfold bitS
    rw [hS, hR]
    simp only
    refine ⟨trivial, h6.1, ?_⟩
    rw [h6.2, if_neg (by simp; omega)]
    by_cases h7 : 2048 ≤ k
    · rw [if_pos h7, h4, hbig h7]
      cases neg <;> rfl
    · rw [if_neg h7, val_head]
/-! ### Texts -/
def t8 (l : List Nat) : List UInt8 := l.map UInt8.ofNat
theorem strB_t8 (l : List Nat) : strB l = ⟨(t8 l).toArray⟩ := by
  unfold strB strOfNums t8
  rw [List.map_map]
  congr 2
theorem u8_toNat {n : Nat} (h : n < 256) : (UInt8.ofNat n).toNat = n := by rw [UInt8.toNat_ofNat']; omega
theorem decV_chs : ∀ {L : List Nat}, Dig 10 L → decV (t8 (chs L).reverse) = val 10 L
  | [], _ => rfl
  | d :: L, h => by
    have h1 : t8 (chs (d :: L)).reverse = t8 (chs L).reverse ++ [UInt8.ofNat (48 + d)] := by simp [t8, chs]
    rw [h1, decV_snoc, decV_chs h.tail, u8_toNat (by have := h.head; omega)]
    show _ = d + 10 * val 10 L
    omega
theorem chs_digits {L : List Nat} (h : Dig 10 L) : ∀ b ∈ t8 (chs L).reverse, digB.contains b = true := by
  intro b hb
  simp only [t8, chs, List.mem_map, List.mem_reverse] at hb
  obtain ⟨n, ⟨d, hd, rfl⟩, rfl⟩ := hb
  have := h d hd
  rw [isdig, u8_toNat (by omega)]
  omega
theorem t8_append (a b : List Nat) : t8 (a ++ b) = t8 a ++ t8 b := by simp [t8]
theorem not_bad {c : UInt8} {r bs : List UInt8} (hT : cutT bs = c :: r) (hc : c ≠ 48) (hd : ∀ b ∈ c :: r, digB.contains b = true) : badF bs = false := by
  unfold badF
  rw [hT]
  simp only
  rw [trimS_nil.2 hd]
  simp [hc]
theorem parse_text {neg : Bool} {ds : List Nat} (hD : Dig 4294967296 ds) (hR : RightB neg ds = true) : parseS (t8 (textB neg ds)) = (neg, ds, 0) := by
  unfold textB
  rw [hR, if_neg (by decide)]
  by_cases h0 : ds.length = 0
  · rw [if_pos h0]
    obtain rfl := List.eq_nil_of_length_eq_zero h0
    rw [(right_canon hR).2.2 rfl]
    unfold parseS
    rw [if_neg (by decide)]
    exact mkN_zero _
  · rw [if_neg h0]
    have hV := right_pos hR h0
    have hL := dg_dig (B := 10) (by omega) (val 4294967296 ds)
    have hC := dg_canon (B := 10) (by omega) (val 4294967296 ds)
    have hv := val_dg (B := 10) (by omega) (val 4294967296 ds)
    have hne : dg 10 (val 4294967296 ds) ≠ [] := fun e => by have := (dg_eq_nil (B := 10) (by omega)).1 e; omega
    have hm := mkN_right hR hD
    generalize dg 10 (val 4294967296 ds) = L at hL hC hv hne
    rw [← hv] at hm
    obtain ⟨c, r, hcr, hc⟩ : ∃ c r, t8 (chs L).reverse = c :: r ∧ c.toNat ≠ 48 := by
      have h2 := List.dropLast_concat_getLast hne
      have hl : L.getLast hne ≠ 0 := fun e => hC (by rw [List.getLast?_eq_some_getLast hne, e])
      have hlt := hL _ (List.getLast_mem hne)
      refine ⟨UInt8.ofNat (48 + L.getLast hne), t8 (chs L.dropLast).reverse, ?_, by rw [u8_toNat (by omega)]; omega⟩
      conv => lhs; rw [← h2]
      simp [t8, chs]
    have hdig := chs_digits hL
    have hdec := decV_chs hL
    cases neg
    · have e : t8 (chs L ++ if false = true then [45] else []).reverse = c :: r := by simpa using hcr
      rw [e]
      have hc45 : c ≠ 45 := by
        rintro rfl
        have := (isdig 45).1 (hdig 45 (by rw [hcr]; simp))
        simp at this
      have hN : cutN (c :: r) = false := by
        show [45].isPrefixOf (c :: r) = false
        simp [List.isPrefixOf, Ne.symm hc45]
      have hT : cutT (c :: r) = c :: r := by
        show (if Lib.hasPrefix (c :: r) [45] then _ else _) = _
        rw [show Lib.hasPrefix (c :: r) [45] = false from hN]
        rfl
      unfold parseS
      rw [not_bad hT (fun (e : c = 48) => hc (by rw [e]; rfl)) (by rw [← hcr]; exact hdig), if_neg (by decide), hN, hT, ← hcr, hdec]
      exact hm
    · have e : t8 (chs L ++ if true = true then [45] else []).reverse = 45 :: c :: r := by
        rw [← hcr]
        simp [t8]
      rw [e]
      have hN : cutN (45 :: c :: r) = true := by
        show [45].isPrefixOf (45 :: c :: r) = true
        simp [List.isPrefixOf]
      have hT : cutT (45 :: c :: r) = c :: r := by
        unfold cutT Lib.trimPrefix
        rw [show Lib.hasPrefix (45 :: c :: r) [45] = true from hN]
        rfl
      unfold parseS
      rw [not_bad hT (fun (e : c = 48) => hc (by rw [e]; rfl)) (by rw [← hcr]; exact hdig), if_neg (by decide), hN, hT, ← hcr, hdec]
      exact hm
theorem cut_whole (bs : List UInt8) : bs = (if cutN bs then [45] else []) ++ cutT bs := by
  unfold cutT cutN Lib.trimPrefix
  cases h : Lib.hasPrefix bs [45] with
  | false => rfl
  | true =>
    cases bs with
    | nil => simp [Lib.hasPrefix] at h
    | cons c r =>
      have : c = 45 := by
        have h1 : ([45] : List UInt8).isPrefixOf (c :: r) = true := h
        rw [List.isPrefixOf, Bool.and_eq_true] at h1
        exact (eq_of_beq h1.1).symm
      subst this
      rfl
theorem good_text {bs : List UInt8} (h : badF bs = false) : ∃ c r, cutT bs = c :: r ∧ (∀ b ∈ c :: r, digB.contains b = true) ∧ (c = 48 → r = [] ∧ cutN bs = false) := by
  unfold badF at h
  cases hT : cutT bs with
  | nil => rw [hT] at h; simp at h
  | cons c r =>
    rw [hT] at h
    simp only [Bool.or_eq_false_iff, decide_eq_false_iff_not, Classical.not_not] at h
    refine ⟨c, r, rfl, trimS_nil.1 h.2, ?_⟩
    rintro rfl
    simpa using h.1
theorem text_parse {bs : List UInt8} {x1 : Bool} {x2 : List Nat} (h : parseS bs = (x1, x2, 0)) : t8 (textB x1 x2) = bs := by
  unfold parseS at h
  cases hb : badF bs with
  | true => rw [hb, if_pos rfl] at h; simp at h
  | false =>
    rw [hb, if_neg (by decide)] at h
    obtain ⟨c, r, hT, hdig, hz⟩ := good_text hb
    obtain ⟨h1, h2, h3, _⟩ := mkN_ok h
    have hw := cut_whole bs
    rw [hT] at h1 h3 hw
    have hback : ∀ (T : List UInt8), (∀ b ∈ T, digB.contains b = true) → ∃ L : List Nat, Dig 10 L ∧ t8 (chs L).reverse = T ∧ val 10 L = decV T := by
      intro T hT
      refine ⟨(T.map fun b => b.toNat - 48).reverse, ?_, ?_⟩
      · intro d hd
        simp only [List.mem_reverse, List.mem_map] at hd
        obtain ⟨b, hb, rfl⟩ := hd
        have := (isdig b).1 (hT b hb)
        omega
      · have e : t8 (chs (T.map fun b => b.toNat - 48).reverse).reverse = T := by
          simp only [t8, chs, List.map_reverse, List.reverse_reverse, List.map_map]
          conv => rhs; rw [← List.map_id T]
          refine List.map_congr_left fun b hb => ?_
          have := (isdig b).1 (hT b hb)
          simp only [Function.comp]
          rw [show 48 + (b.toNat - 48) = b.toNat by omega]
          simp
        refine ⟨e, ?_⟩
        rw [← decV_chs, e]
        intro d hd
        simp only [List.mem_reverse, List.mem_map] at hd
        obtain ⟨b, hb, rfl⟩ := hd
        have := (isdig b).1 (hT b hb)
        omega
    by_cases hc : c = 48
    · subst hc
      obtain ⟨rfl, hN⟩ := hz rfl
      rw [hN] at hw h3
      have hd0 : decV [48] = 0 := rfl
      rw [hd0] at h1 h3
      obtain rfl : x1 = false := by simpa using h3
      have := (right_val0 h2).1 h1
      rw [List.eq_nil_of_length_eq_zero this, hw]
      decide
    · obtain ⟨L, hL, hLt, hLv⟩ := hback (c :: r) hdig
      have hC : Canon L := by
        intro e
        have hne : L ≠ [] := fun e' => by rw [e'] at e; cases e
        have h4 := List.dropLast_concat_getLast hne
        rw [List.getLast?_eq_some_getLast hne] at e
        rw [Option.some.inj e] at h4
        rw [← h4] at hLt
        simp [t8, chs] at hLt
        exact hc hLt.1.symm
      have hne : L ≠ [] := fun e => by rw [e] at hLt; simp [t8, chs] at hLt
      have hpos := canon_pos (B := 10) (by omega) hC hne
      rw [← hLv] at h1 h3
      rw [decide_eq_true (show val 10 L ≠ 0 by omega), Bool.and_true] at h3
      unfold textB
      rw [h2, if_neg (by decide), if_neg (fun e => by rw [(right_val0 h2).2 e] at h1; omega), h1, dg_val (by omega) hL hC, hw, ← hLt, h3]
      cases cutN bs <;> simp [t8]
theorem text_wrong {neg : Bool} {ds : List Nat} (hR : RightB neg ds = false) : (parseS (t8 (textB neg ds))).2.2 = 15 := by
  unfold textB
  rw [hR, if_pos rfl]
  decide
end Go.Proofs.YtbacamboknmppaaDoor
