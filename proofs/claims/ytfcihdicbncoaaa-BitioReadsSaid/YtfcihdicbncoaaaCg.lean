/- The reference's reader: Left, Bits, Gamma, Signed, End. -/
import Derived.Test.YtfcihdicbncoaaaCf
namespace Go.Proofs.Ytfcihdicbncoaaa
open Go Go.RowKit Go.Proofs.Rg Go.Proofs.Hp Go.Proofs.Bp
theorem RrIn.move {w : World} {b p p' : Nat} {bs : List Bool} {v : Value} (h : RrIn w b bs p v) : RrIn (w.setCell ⟨b, 1, none⟩ (.int .i64 p')) b bs p' v where
  blk := by rw [heap_setCell_here h.blk]; rfl
  row := owns_of_block h.row fun x hx => setCell_else _ _ _ (fun e => h.ne (by rw [hx]; exact congrArg some e))
  ne := h.ne
def RrPost (w : World) (b : Nat) (bs : List Bool) (p : Nat) (F : List Nat) (w' : World) : Prop := RrAt w' b bs p F ∧ Fr F w w'
set_option maxHeartbeats 2000000 in
theorem RrLeft_calls {w : World} {b p : Nat} {bs : List Bool} {F : List Nat} (hR : RrAt w b bs p F) :
    Calls Try.prog 26 #[.pointer (some ⟨b, 0, none⟩)] w fun e w' => e = .returned (.int .i64 ((bs.length - p : Nat))) ∧ Drew w w' := by
  obtain ⟨h1, h2, v, hI, rfl⟩ := hR
  obtain ⟨na, nc, rfl, _, _⟩ := owns_form hI.row
  have b0 := heap_eq_cell hI.blk 0
  have b1 := heap_eq_cell hI.blk 1
  clear hI
  go_enter Try.func26, Try.ntmps26
  go_wp2
  (refine wp_region_text (by kernel_rfl) (by kernel_rfl) ?_)
  go_wp2
  refine Strict.intro rfl ?_
  go_wp2
  go_ret
  exact ⟨congrArg (fun x => Ending.returned (.int .i64 x)) (by omega), (Drew.refl _).drew⟩
theorem step_num {v : Nat} (hv : v < 9223372036854775808) : IntKind.u64.wrap ((v : Int) * 2) = ((2 * v : Nat) : Int) := by
  rw [IntWalk.u64_in _ (by omega)]; omega
set_option maxHeartbeats 8000000 in
set_option maxRecDepth 100000 in
theorem RrBits_calls {w : World} {b p : Nat} {bs : List Bool} {F : List Nat} (hR : RrAt w b bs p F) (n : Int) :
    Calls Try.prog 22 #[.pointer (some ⟨b, 0, none⟩), .int .i64 n] w fun e w' => e = .returned (.tuple #[.int .u64 (rBits bs p n).1.1, .int .i64 (rBits bs p n).1.2]) ∧ RrPost w b bs (rBits bs p n).2 F w' := by
  have HR := Lib.hid hR
  by_cases hn : n < 0 ∨ 64 < n
  · have hr : rBits bs p n = ((0, 2), p) := by unfold rBits; rw [if_pos hn]
    rw [hr]
    clear hR hr
    rcases hn with hn | hn
    · go_enter Try.func22, Try.ntmps22
      go_wp2
      go_ret2
      exact ⟨rfl, HR.out, Fr.refl _ _⟩
    · have hn' : ¬ n < 0 := by omega
      go_enter Try.func22, Try.ntmps22
      go_wp2
      go_ret2
      exact ⟨rfl, HR.out, Fr.refl _ _⟩
  obtain ⟨k, rfl⟩ : ∃ k : Nat, n = k := ⟨n.toNat, by omega⟩
  obtain ⟨h1, h2, v, hI, rfl⟩ := hR
  obtain ⟨na, nc, rfl, hna, _⟩ := owns_form hI.row
  have b0 := heap_eq_cell hI.blk 0
  have b1 := heap_eq_cell hI.blk 1
  have f1 := heap_eq_frozen hI.blk 1
  have hb := lt_of_block hI.blk
  have HI := Lib.hid hI
  have Hna := Lib.hid hna
  have hk : k ≤ 64 := by omega
  clear hI hna
  by_cases hs : bs.length < p + k
  · have hr : rBits bs p k = ((0, 4), p) := by unfold rBits; rw [if_neg hn, if_pos (by omega)]
    rw [hr]
    have hd : decide ((bs.length : Int) - p < (k : Int)) = true := by simp; omega
    clear hr hn
    go_enter Try.func22, Try.ntmps22
    go_wp2
    (refine wp_region_text (by kernel_rfl) (by kernel_rfl) ?_)
    go_wp2
    refine Strict.intro rfl ?_
    go_wp2
    go_ret2
    exact ⟨rfl, HR.out.drew (Drew.refl _).drew, (Fr.refl _ _).drew⟩
  · have hr : rBits bs p k = ((num ((bs.drop p).take k), 0), p + k) := by unfold rBits; rw [if_neg hn, if_neg (by omega), Int.toNat_natCast]
    rw [hr]
    have hd : decide ((bs.length : Int) - p < (k : Int)) = false := by simp; omega
    have hpk : p + k ≤ bs.length := by omega
    clear hr hn hs
    go_enter Try.func22, Try.ntmps22
    go_wp2
    (refine wp_region_text (by kernel_rfl) (by kernel_rfl) ?_)
    go_wp2
    refine Strict.intro rfl ?_
    go_wp2
    clear hd
    go_loopw [6, 7] (fun o x wl => ∃ (j : Nat), x = .int .i64 j ∧ j ≤ k ∧ o = .int .u64 (num ((bs.drop p).take j)) ∧ Drew w wl) (fun _ x _ => k - (intOf x).toNat)
    case atStart => exact ⟨0, rfl, by omega, rfl, (Drew.refl _).drew⟩
    case round =>
      obtain ⟨j, rfl, hj, rfl, m, rfl⟩ := hrel
      by_cases hlt : j < k
      · obtain ⟨g1, rfl⟩ := Hna.out (by omega)
        obtain ⟨bt, hbt⟩ : ∃ x, bs[p + j]? = some x := ⟨_, List.getElem?_eq_getElem (by omega)⟩
        have e1 := owns_cell HI.out.row rfl (j := p + j) (u := .bool bt) (by rw [bos, List.getElem?_map, hbt]; rfl)
        have hs : (bs.drop p).take (j + 1) = (bs.drop p).take j ++ [bt] := by rw [List.take_add_one, List.getElem?_drop, hbt]; rfl
        have hlt2 := num_lt ((bs.drop p).take j)
        have hlen : ((bs.drop p).take j).length = j := by rw [List.length_take, List.length_drop]; omega
        rw [hlen] at hlt2
        have h63 : 2 ^ j ≤ 2 ^ 63 := Nat.pow_le_pow_right (by omega) (by omega)
        have hnum := num_snoc ((bs.drop p).take j) bt
        rw [← hs] at hnum
        generalize num ((bs.drop p).take j) = V at *
        have hV : V < 9223372036854775808 := by omega
        have hst := step_num hV
        have hw2 : IntKind.u64.wrap (2 * (V : Int) + 1) = 2 * (V : Int) + 1 := IntWalk.u64_in _ (by omega)
        have hpj : p + j < bs.length := by omega
        have Hnum := Lib.hid hnum
        clear hbt hs hlt2 hlen hnum h63 hV
        cases bt
        · go_wp2
          (refine wp_region_text (by kernel_rfl) (by kernel_rfl) ?_)
          go_wp2
          refine Strict.intro rfl ?_
          go_wp2
          go_roundw
          case rel => exact ⟨j + 1, by go_num, by omega, by rw [Hnum.out]; rfl, m + 1, rfl⟩
          case measure => simp [intOf]; omega
        · go_wp2
          (refine wp_region_text (by kernel_rfl) (by kernel_rfl) ?_)
          go_wp2
          refine Strict.intro rfl ?_
          go_wp2
          go_roundw
          case rel => exact ⟨j + 1, by go_num, by omega, by rw [Hnum.out]; simp, m + 1, rfl⟩
          case measure => simp [intOf]; omega
      · obtain rfl : j = k := by omega
        go_wp2
        go_ret2
        refine ⟨rfl, ⟨h1, hpk, _, ⟨?_, HI.out.move.row, HI.out.ne⟩, rfl⟩, by (repeat (first | exact Fr.refl _ _ | assumption | apply Fr.drewN | apply Fr.drew | apply Fr.alloc | refine Fr.setCell ?_ (Or.inl (by simp)) _))⟩
        exact (HI.out.move (p' := p + j)).blk
def RrCall (w : World) (b : Nat) (bs : List Bool) (r : (Int × Int) × Nat) (F : List Nat) (e : Ending) (w' : World) : Prop :=
  e = .returned (.tuple #[.int .i64 r.1.1, .int .i64 r.1.2]) ∧ RrPost w b bs r.2 F w'
set_option maxHeartbeats 8000000 in
set_option maxRecDepth 100000 in
theorem RrGamma_calls {w : World} {b p : Nat} {bs : List Bool} {F : List Nat} (hR : RrAt w b bs p F) :
    Calls Try.prog 23 #[.pointer (some ⟨b, 0, none⟩)] w (RrCall w b bs (rGamma bs p) F) := by
  have HR := Lib.hid hR
  obtain ⟨h1, h2, v, hI, rfl⟩ := hR
  obtain ⟨na, nc, rfl, hna, _⟩ := owns_form hI.row
  have b0 := heap_eq_cell hI.blk 0
  have b1 := heap_eq_cell hI.blk 1
  have f1 := heap_eq_frozen hI.blk 1
  have hb := lt_of_block hI.blk
  have HI := Lib.hid hI
  have Hna := Lib.hid hna
  clear hI hna
  go_enter Try.func23, Try.ntmps23
  go_wp2
  go_loopw [5] (fun x wl => ∃ (k : Nat), x = .int .i64 k ∧ k ≤ 63 ∧ p + k ≤ bs.length ∧ (∀ j, j < k → (bs.drop p)[j]? = some false) ∧ Drew w wl) (fun x _ => 64 - (intOf x).toNat)
  case atStart => exact ⟨0, rfl, by omega, by omega, fun j hj => by omega, Drew.refl _⟩
  case round =>
    obtain ⟨k, rfl, hk, hkl, hz, n2, rfl⟩ := hrel
    have Hz := Lib.hid hz
    clear hz
    -- what is left when the zeros end
    have hend : zeros (bs.drop p) = k → rGamma bs p = if bs.length < p + (2 * k + 1) then ((0, 4), p) else if 9223372036854775809 ≤ num ((bs.drop (p + k)).take (k + 1)) then ((0, 3), p)
        else (((num ((bs.drop (p + k)).take (k + 1)) : Int) - 1, 0), p + (2 * k + 1)) := fun h => by unfold rGamma; rw [h, if_neg (by omega)]
    have hnew : ∀ m q, q ≤ bs.length → RrAt ((w.drewN m).setCell ⟨b, 1, none⟩ (.int .i64 (q : Int))) b bs q (b :: (Value.slice na bs.length nc).ownBlock.toList) := fun m q hq => by
      have h := HI.out.move (p' := q)
      exact ⟨h1, hq, _, ⟨h.blk, h.row, HI.out.ne⟩, rfl⟩
    have Hend := Lib.hid hend
    have Hnew := Lib.hid hnew
    clear hend hnew
    have hrb : ∀ w1, RrAt w1 b bs (p + k) (b :: (Value.slice na bs.length nc).ownBlock.toList) → Calls Try.prog 22 #[.pointer (some ⟨b, 0, none⟩), .int .i64 ((k : Int) + 1)] w1 fun e w' =>
        e = .returned (.tuple #[.int .u64 (rBits bs (p + k) ((k : Int) + 1)).1.1, .int .i64 (rBits bs (p + k) ((k : Int) + 1)).1.2]) ∧ RrPost w1 b bs (rBits bs (p + k) ((k : Int) + 1)).2 (b :: (Value.slice na bs.length nc).ownBlock.toList) w' := fun w1 h => RrBits_calls h _
    have Hrb := Lib.hid hrb
    have hrbe : rBits bs (p + k) ((k : Int) + 1) = if bs.length < p + (2 * k + 1) then ((0, 4), p + k) else ((num ((bs.drop (p + k)).take (k + 1)), 0), p + (2 * k + 1)) := by
      unfold rBits
      rw [if_neg (by omega), show ((k : Int) + 1).toNat = k + 1 by omega]
      by_cases h : bs.length < p + (2 * k + 1)
      · rw [if_pos h, if_pos (by omega)]
      · rw [if_neg h, if_neg (by omega), show p + k + (k + 1) = p + (2 * k + 1) by omega]
    have Hrbe := Lib.hid hrbe
    clear hrb hrbe
    by_cases hlt : p + k < bs.length
    · obtain ⟨g1, rfl⟩ := Hna.out (by omega)
      obtain ⟨bt, hbt⟩ : ∃ x, bs[p + k]? = some x := ⟨_, List.getElem?_eq_getElem hlt⟩
      have e1 := owns_cell HI.out.row rfl (j := p + k) (u := .bool bt) (by rw [bos, List.getElem?_map, hbt]; rfl)
      have hget : (bs.drop p)[k]? = some bt := by rw [List.getElem?_drop]; exact hbt
      have Hget := Lib.hid hget
      clear hbt hget
      cases bt
      · have hz1 : ∀ j, j < k + 1 → (bs.drop p)[j]? = some false := fun j hj => by
          by_cases h : j = k
          · subst h; exact Hget.out
          · exact Hz.out j (by omega)
        have Hz1 := Lib.hid hz1
        clear hz1
        by_cases h63 : k = 63
        · subst h63
          have hr : rGamma bs p = ((0, 3), p) := by unfold rGamma; rw [if_pos (zeros_ge Hz1.out)]
          have Hr := Lib.hid hr
          clear hr
          go_wp2
          (refine wp_region_text (by kernel_rfl) (by kernel_rfl) ?_)
          go_wp2
          refine Strict.intro rfl ?_
          go_wp2
          go_ret2
          rw [Hr.out]
          exact ⟨rfl, HR.out.drew ⟨n2 + 1, rfl⟩, by (repeat (first | exact Fr.refl _ _ | assumption | apply Fr.drewN | apply Fr.drew | apply Fr.alloc | refine Fr.setCell ?_ (Or.inl (by simp)) _))⟩
        · have h63' : ((k : Int) + 1 == 64) = false := by simp; omega
          go_wp2
          (refine wp_region_text (by kernel_rfl) (by kernel_rfl) ?_)
          go_wp2
          refine Strict.intro rfl ?_
          go_wp2
          go_roundw
          case rel => exact ⟨k + 1, by go_num, by omega, by omega, Hz1.out, n2 + 1, rfl⟩
          case measure => simp [intOf]; omega
      · have hzk : zeros (bs.drop p) = k := zeros_eq Hz.out (by rw [Hget.out]; simp)
        have Hzk := Lib.hid hzk
        clear hzk
        by_cases hsh : bs.length < p + (2 * k + 1)
        · have hr : rGamma bs p = ((0, 4), p) := by rw [Hend.out Hzk.out, if_pos hsh]
          have Hr := Lib.hid hr
          have hc : Calls Try.prog 22 #[.pointer (some ⟨b, 0, none⟩), .int .i64 ((k : Int) + 1)] ((w.drewN (n2 + 1)).setCell ⟨b, 1, none⟩ (.int .i64 ((p : Int) + k))) _ := Hrb.out _ (Hnew.out (n2 + 1) (p + k) hkl)
          rw [Hrbe.out, if_pos hsh] at hc
          have HC := Lib.hid hc
          clear hr hc
          go_wp2
          (refine wp_region_text (by kernel_rfl) (by kernel_rfl) ?_)
          go_wp2
          refine Strict.intro rfl ?_
          go_wp2_with fail
          refine HC.out.mono ?_
          rintro e w3 ⟨rfl, ⟨_, _, v3, hI3, hF3⟩, hf3⟩
          have c1 := heap_eq_cell hI3.blk 1
          have d1 := heap_eq_frozen hI3.blk 1
          have hl3 := lt_of_block hI3.blk
          have HI3 := Lib.hid hI3
          have HF3 := Lib.hid hF3
          have Hf3 := Lib.hid (((((Fr.refl _ w).drewN (n2 + 1)).setCell (p := ⟨b, 1, none⟩) (.inl (List.mem_cons_self)) (.int .i64 ((p : Int) + k))).trans hf3 fun x hx => .inl hx) : Fr (b :: (Value.slice (some ⟨g1, 0, none⟩) bs.length nc).ownBlock.toList) w w3)
          clear hI3 hF3 hf3
          go_wp2
          go_ret2
          rw [Hr.out]
          exact ⟨rfl, ⟨h1, h2, v3, HI3.out.move, HF3.out⟩, Hf3.out.setCell (.inl (by simp)) _⟩
        · have hlen : ((bs.drop (p + k)).take (k + 1)).length = k + 1 := by rw [List.length_take, List.length_drop]; omega
          have hpos := num_pos (l := (bs.drop (p + k)).take (k + 1)) (by have := Hget.out; rw [List.getElem?_drop] at this; rw [List.getElem?_take, if_pos (by omega), List.getElem?_drop]; exact this)
          have hnl := num_lt ((bs.drop (p + k)).take (k + 1))
          rw [hlen] at hpos hnl
          have hnl2 : 2 ^ (k + 1) ≤ 2 ^ 64 := Nat.pow_le_pow_right (by omega) (by omega)
          have hp1 : 1 ≤ 2 ^ (k + 1 - 1) := Nat.one_le_two_pow
          have hc : Calls Try.prog 22 #[.pointer (some ⟨b, 0, none⟩), .int .i64 ((k : Int) + 1)] ((w.drewN (n2 + 1)).setCell ⟨b, 1, none⟩ (.int .i64 ((p : Int) + k))) _ := Hrb.out _ (Hnew.out (n2 + 1) (p + k) hkl)
          rw [Hrbe.out, if_neg hsh] at hc
          have hrg := Hend.out Hzk.out
          rw [if_neg hsh] at hrg
          obtain ⟨m, hm⟩ : ∃ m, m = num ((bs.drop (p + k)).take (k + 1)) := ⟨_, rfl⟩
          rw [← hm] at hc hpos hnl hrg
          have hm1 : 1 ≤ m ∧ m < 18446744073709551616 := by omega
          have Hm1 := Lib.hid hm1
          have hw1 : IntKind.u64.wrap ((m : Int) - 1) = m - 1 := IntWalk.u64_in _ (by omega)
          have HC := Lib.hid hc
          clear hlen hpos hnl hnl2 hp1 hm hm1 hc
          have Hrg := Lib.hid hrg
          clear hrg
          by_cases hbig : 9223372036854775809 ≤ m
          · have hd : decide ((9223372036854775807 : Int) < (m : Int) - 1) = true := by simp; omega
            have hr : rGamma bs p = ((0, 3), p) := by rw [Hrg.out, if_pos hbig]
            have Hr := Lib.hid hr
            clear hr hbig
            go_wp2
            (refine wp_region_text (by kernel_rfl) (by kernel_rfl) ?_)
            go_wp2
            refine Strict.intro rfl ?_
            go_wp2_with fail
            refine HC.out.mono ?_
            rintro e w3 ⟨rfl, ⟨_, _, v3, hI3, hF3⟩, hf3⟩
            have c1 := heap_eq_cell hI3.blk 1
            have d1 := heap_eq_frozen hI3.blk 1
            have hl3 := lt_of_block hI3.blk
            have HI3 := Lib.hid hI3
            have HF3 := Lib.hid hF3
            have Hf3 := Lib.hid (((((Fr.refl _ w).drewN (n2 + 1)).setCell (p := ⟨b, 1, none⟩) (.inl (List.mem_cons_self)) (.int .i64 ((p : Int) + k))).trans hf3 fun x hx => .inl hx) : Fr (b :: (Value.slice (some ⟨g1, 0, none⟩) bs.length nc).ownBlock.toList) w w3)
            clear hI3 hF3 hf3
            go_wp2
            go_ret2
            rw [Hr.out]
            exact ⟨rfl, ⟨h1, h2, v3, HI3.out.move, HF3.out⟩, Hf3.out.setCell (.inl (by simp)) _⟩
          · have hd : decide ((9223372036854775807 : Int) < (m : Int) - 1) = false := by simp; omega
            have hr : rGamma bs p = (((m : Int) - 1, 0), p + (2 * k + 1)) := by rw [Hrg.out, if_neg hbig]
            have Hr := Lib.hid hr
            have hw2 : IntKind.i64.wrap ((m : Int) - 1) = m - 1 := IntWalk.i64_in _ (by have := Hm1.out; omega)
            clear hr hbig
            go_wp2
            (refine wp_region_text (by kernel_rfl) (by kernel_rfl) ?_)
            go_wp2
            refine Strict.intro rfl ?_
            go_wp2_with fail
            refine HC.out.mono ?_
            rintro e w3 ⟨rfl, hR3, hf3⟩
            have HR3 := Lib.hid hR3
            have Hf3 := Lib.hid (((((Fr.refl _ w).drewN (n2 + 1)).setCell (p := ⟨b, 1, none⟩) (.inl (List.mem_cons_self)) (.int .i64 ((p : Int) + k))).trans hf3 fun x hx => .inl hx) : Fr (b :: (Value.slice (some ⟨g1, 0, none⟩) bs.length nc).ownBlock.toList) w w3)
            clear hR3 hf3
            go_wp2
            go_ret2
            rw [Hr.out]
            exact ⟨rfl, HR3.out, Hf3.out⟩
    · have hkl2 : p + k = bs.length := by omega
      have hzk : zeros (bs.drop p) = k := zeros_eq Hz.out (by rw [List.getElem?_eq_none (by rw [List.length_drop]; omega)]; simp)
      have Hzk := Lib.hid hzk
      have hsh : bs.length < p + (2 * k + 1) := by omega
      have hd0 : decide ((p : Int) + k < bs.length) = false := by simp; omega
      have Hkl2 := Lib.hid hkl2
      clear hzk hkl2
      · have hr : rGamma bs p = ((0, 4), p) := by rw [Hend.out Hzk.out, if_pos hsh]
        have Hr := Lib.hid hr
        have hc : Calls Try.prog 22 #[.pointer (some ⟨b, 0, none⟩), .int .i64 ((k : Int) + 1)] ((w.drewN (n2 + 1)).setCell ⟨b, 1, none⟩ (.int .i64 ((p : Int) + k))) _ := Hrb.out _ (Hnew.out (n2 + 1) (p + k) hkl)
        rw [Hrbe.out, if_pos hsh] at hc
        have HC := Lib.hid hc
        clear hr hc
        go_wp2
        (refine wp_region_text (by kernel_rfl) (by kernel_rfl) ?_)
        go_wp2
        refine Strict.intro rfl ?_
        go_wp2_with fail
        refine HC.out.mono ?_
        rintro e w3 ⟨rfl, ⟨_, _, v3, hI3, hF3⟩, hf3⟩
        have c1 := heap_eq_cell hI3.blk 1
        have d1 := heap_eq_frozen hI3.blk 1
        have hl3 := lt_of_block hI3.blk
        have HI3 := Lib.hid hI3
        have HF3 := Lib.hid hF3
        have Hf3 := Lib.hid (((((Fr.refl _ w).drewN (n2 + 1)).setCell (p := ⟨b, 1, none⟩) (.inl (List.mem_cons_self)) (.int .i64 ((p : Int) + k))).trans hf3 fun x hx => .inl hx) : Fr (b :: (Value.slice na bs.length nc).ownBlock.toList) w w3)
        clear hI3 hF3 hf3
        go_wp2
        go_ret2
        rw [Hr.out]
        exact ⟨rfl, ⟨h1, h2, v3, HI3.out.move, HF3.out⟩, Hf3.out.setCell (.inl (by simp)) _⟩
end Go.Proofs.Ytfcihdicbncoaaa
