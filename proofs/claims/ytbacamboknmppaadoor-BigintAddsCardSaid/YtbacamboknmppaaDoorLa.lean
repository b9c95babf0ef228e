/- The law package of big integers: short; the fixed examples' numbers. -/
import Derived.Test.YtbacamboknmppaaDoorJp
import Derived.Test.YtbacamboknmppaaDoorKq
namespace Go.Proofs.Bn
theorem dg_of {B : Nat} (hB : 2 ≤ B) {V : Nat} (l : List Nat) (hV : val B l = V) (hD : Dig B l) (hC : Canon l) : dg B V = l := by rw [← hV]; exact dg_val hB hD hC
end Go.Proofs.Bn
namespace Go.Proofs.YtbacamboknmppaaDoor
open Go Go.RowKit Go.Proofs.Rg Go.Proofs.Hp Go.Proofs.Bn
set_option linter.unusedVariables false
set_option linter.unusedSimpArgs false
theorem mkN_of {neg : Bool} {V : Nat} (l : List Nat) (hV : val 4294967296 l = V) (hD : Dig 4294967296 l) (hC : Canon l) (h0 : V ≠ 0) (hl : l.length ≤ 64) : mkN neg V = (neg, l, 0) := by
  unfold mkN
  rw [if_neg h0, if_pos, dg_of (by omega) l hV hD hC]
  rw [← hV]
  exact Nat.lt_of_lt_of_le (val_lt hD) (Nat.pow_le_pow_right (by omega) hl)
theorem dig1 (x : Nat) (h : x < 4294967296) : Dig 4294967296 [x] := fun y hy => by simp at hy; omega
theorem ex_from1 : fromS 1 = (false, [1], 0) := mkN_of [1] rfl (dig1 1 (by omega)) (by simp [Canon]) (by decide) (by decide)
theorem ex_fromm1 : fromS (-1) = (true, [1], 0) := mkN_of [1] rfl (dig1 1 (by omega)) (by simp [Canon]) (by decide) (by decide)
theorem ex_fromm7 : fromS (-7) = (true, [7], 0) := mkN_of [7] rfl (dig1 7 (by omega)) (by simp [Canon]) (by decide) (by decide)
theorem ex_dig001 : Dig 4294967296 [0, 0, 1] := fun y hy => by simp at hy; omega
theorem ex_shift : shiftS false [1] 64 = (false, [0, 0, 1], 0) := by
  unfold shiftS
  rw [if_neg (by decide), if_neg (by decide), if_neg (by decide), if_neg (by decide)]
  exact mkN_of [0, 0, 1] (by decide) ex_dig001 (by simp [Canon]) (by decide) (by decide)
def exText : List UInt8 := [49, 56, 52, 52, 54, 55, 52, 52, 48, 55, 51, 55, 48, 57, 53, 53, 49, 54, 49, 54]
theorem ex_parse : parseS exText = (false, [0, 0, 1], 0) := by
  unfold parseS
  rw [if_neg (by decide)]
  exact mkN_of [0, 0, 1] (by decide) ex_dig001 (by simp [Canon]) (by decide) (by decide)
theorem ex_parse0 : parseS [45, 48] = (false, [], 15) := by
  unfold parseS
  rw [if_pos (by decide)]
theorem ex_add : addS false [0, 0, 1] true [1] = (false, [4294967295, 4294967295], 0) := by
  unfold addS
  rw [if_neg (by decide), if_neg (by decide), if_neg (by decide)]
  exact mkN_of [4294967295, 4294967295] (by decide) (fun y hy => by simp at hy; omega) (by simp [Canon]) (by decide) (by decide)
theorem ex_div : divS true [7] 2 = ((true, [4], 0), 1) := by
  have h1 : mkN (true != decide ((2 : Int) < 0)) (val 4294967296 [7] / (2 : Int).natAbs + if divUp true (val 4294967296 [7]) 2 then 1 else 0) = (true, [4], 0) := by
    rw [show (true != decide ((2 : Int) < 0)) = true by decide, show (val 4294967296 [7] / (2 : Int).natAbs + if divUp true (val 4294967296 [7]) 2 then 1 else 0) = 4 by decide]
    exact mkN_of [4] (by decide) (dig1 4 (by omega)) (by simp [Canon]) (by decide) (by decide)
  unfold divS
  rw [if_neg (by decide), if_neg (by decide), h1]
  rfl
theorem ex_int : intS true [4] = (-4, true) := by decide
theorem ex_mul : mulS false [0, 0, 1] true [] = (false, [], 2) := by
  unfold mulS
  rw [if_pos (by decide)]
theorem ex_text : textB false [0, 0, 1] = [49, 56, 52, 52, 54, 55, 52, 52, 48, 55, 51, 55, 48, 57, 53, 53, 49, 54, 49, 54] := by
  unfold textB
  rw [if_neg (by decide), if_neg (by decide), dg_of (B := 10) (by omega) (V := val 4294967296 [0, 0, 1]) [6, 1, 6, 1, 5, 5, 9, 0, 7, 3, 7, 0, 4, 4, 7, 6, 4, 4, 8, 1] (by decide) (fun y hy => by simp at hy; omega) (by simp [Canon])]
  decide
theorem ex_cmp : cmpS false [0, 0, 1] false [4294967295, 4294967295] = 1 := by decide
theorem ex_bitN (m : Nat) : bitS true [1] (m : Int) = 1 := by
  rw [bitS_eq (neg := true) (ds := [1]) (m := m) (by decide) (dig1 1 (by omega)), if_pos rfl, show val 4294967296 [1] - 1 = 0 from rfl, Nat.zero_div]
theorem ex_bit : bitS true [1] 1000 = 1 := ex_bitN 1000
theorem short_calls {w : World} {neg : Bool} {n c : Nat} {a : Option Addr} :
    Calls Tryd.prog 10 #[.agg #[.bool neg, .slice a n c]] w fun e w' => e = .returned (.bool (decide (n ≤ 100))) ∧ Fr [] w w' := by
  obtain ⟨b, hb⟩ : ∃ b, decide (n ≤ 100) = b := ⟨_, rfl⟩
  have hb2 : decide ((n : Int) ≤ 100) = b := by rw [← hb, decide_eq_decide]; omega
  rw [hb]
  clear hb
  go_enter Tryd.func10, Tryd.ntmps10
  go_wp2
  go_ret
  exact ⟨rfl, by (repeat (first | exact Fr.refl _ _ | assumption | apply Fr.drewN | apply Fr.drew | apply Fr.alloc | refine Fr.setCell ?_ (Or.inr (by simp; try omega)) _))⟩
end Go.Proofs.YtbacamboknmppaaDoor
