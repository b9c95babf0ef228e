/- Own texts of this claim, part 22: no condition. -/
import Derived.Lib.MinMax
import Derived.Test.YtdanghnadbkhfaaZR20
import Derived.Test.YtdanghnadbkhfaaZR6
import Derived.Test.YtdanghnadbkhfaaZR19
import Derived.Test.YtdanghnadbkhfaaZR11
import Derived.Test.YtdanghnadbkhfaaZR3
import Derived.Test.YtdanghnadbkhfaaZR12
import Derived.Test.YtdanghnadbkhfaaZR18
set_option linter.unusedVariables false
set_option linter.unusedSimpArgs false
section
/- The reference of big integers: less, plus, minus. -/
namespace Go.Proofs.Ytdanghnadbkhfaa
set_option linter.unusedVariables false
set_option linter.unusedSimpArgs false
open Go Go.RowKit Go.Proofs.Rg Go.Proofs.Hp Go.Proofs.Bn
set_option maxHeartbeats 4000000 in
set_option maxRecDepth 100000 in
theorem less_calls {w : World} {da db : List Nat} {va vb : Value} (ha : Reads w va da.length 1 (i64s da)) (hb : Reads w vb db.length 1 (i64s db)) (hDa : Dig 256 da) (hDb : Dig 256 db) (ca : Canon da) (cb : Canon db) (hla : da.length ≤ 1000000) (hlb : db.length ≤ 1000000) :
    Calls Try.prog 56 #[va, vb] w fun e w' => e = .returned (.bool (decide (val 256 da < val 256 db))) ∧ Drew w w' := by
  obtain ⟨_, a, ac, rfl, haa⟩ := ha
  obtain ⟨_, b, bc, rfl, hbb⟩ := hb
  have Ha := Lib.hid haa
  have Hb := Lib.hid hbb
  clear haa hbb
  obtain ⟨r, hr0⟩ : ∃ r, decide (val 256 da < val 256 db) = r := ⟨_, rfl⟩
  rw [hr0]
  have Hr0 := Lib.hid hr0
  clear hr0
  by_cases hne : da.length = db.length
  rotate_left
  · have hd : ((da.length : Int) != (db.length : Int)) = true := by simp; omega
    have hc : r = decide (da.length < db.length) := by
      rw [← Hr0.out]
      by_cases hlt : da.length < db.length
      · rw [decide_eq_true hlt, decide_eq_true (val_lt_len (by omega) hDa hDb cb hlt)]
      · have := val_lt_len (by omega) hDb hDa ca (by omega)
        rw [decide_eq_false hlt, decide_eq_false (by omega)]
    obtain ⟨q, hq⟩ : ∃ q, decide (da.length < db.length) = q := ⟨_, rfl⟩
    rw [hq] at hc
    have hq2 : decide ((da.length : Int) < db.length) = q := by rw [← hq, decide_eq_decide]; omega
    subst hc
    clear hDa hDb ca cb hne
    go_enter Try.func56, Try.ntmps56
    go_wp2
    go_ret
    exact ⟨rfl, Drew.refl _⟩
  · have hd : ((da.length : Int) != (db.length : Int)) = false := by simp; omega
    have HDa := Lib.hid hDa
    have HDb := Lib.hid hDb
    have Hne := Lib.hid hne
    clear hDa hDb ca cb hne
    go_enter Try.func56, Try.ntmps56
    go_wp2
    go_loopw [5] (fun x wr => ∃ (k : Nat) (z : Int), x = .int .i64 z ∧ z = (k : Int) - 1 ∧ k ≤ da.length ∧ da.drop k = db.drop k ∧ Drew w wr) (fun x _ => (intOf x + 1).toNat)
    case atStart => exact ⟨da.length, _, rfl, rfl, Nat.le_refl _, by rw [List.drop_length, Hne.out, List.drop_length], Drew.refl _⟩
    case round =>
      obtain ⟨k, z, rfl, hz, hk, hdr, m, rfl⟩ := hrel
      have Hdr := Lib.hid hdr
      clear hdr
      cases k with
      | zero =>
        have hz' : z = -1 := by omega
        subst hz'
        clear hz
        have heq := Hdr.out
        rw [List.drop_zero, List.drop_zero] at heq
        have hc : r = false := by rw [← Hr0.out, heq]; simp
        have Hc := Lib.hid hc
        clear hc heq
        go_wp2
        go_ret
        exact ⟨by rw [Hc.out]; rfl, m, rfl⟩
      | succ k =>
        obtain rfl : z = (k : Int) := by omega
        clear hz
        have hkb : k < db.length := by have := Hne.out; omega
        obtain ⟨g1, off1, rfl, hg1, hc1⟩ := Ha.out (by omega)
        obtain ⟨g2, off2, rfl, hg2, hc2⟩ := Hb.out (by omega)
        have e1 := hc1 k _ (i64s_get (by omega))
        have e2 := hc2 k _ (i64s_get hkb)
        have hxl := HDa.out.getD (by omega) k
        have hyl := HDb.out.getD (by omega) k
        have htop := fun h => val_lt_top (B := 256) (by omega) HDa.out HDb.out (i := k) (by omega) Hne.out Hdr.out h
        have htop2 := fun h => val_lt_top (B := 256) (by omega) HDb.out HDa.out (i := k) (by omega) Hne.out.symm Hdr.out.symm h
        have hde := drop_eq_succ (i := k) (by omega) Hne.out Hdr.out
        have Htop := Lib.hid htop
        have Htop2 := Lib.hid htop2
        have Hde := Lib.hid hde
        clear hc1 hc2 htop htop2 hde hxl hyl
        generalize da.getD k 0 = x at *
        generalize db.getD k 0 = y at *
        by_cases hxy : x = y
        · subst hxy
          have hn : ((x : Int) != x) = false := by simp
          go_wp2
          (refine wp_region_text (by kernel_rfl) (by kernel_rfl) ?_)
          go_wp2
          refine Strict.intro rfl ?_
          go_wp2
          go_roundw
          case rel => exact ⟨k, _, rfl, rfl, by omega, Hde.out (by first | rfl | trivial), m + 1, rfl⟩
          case measure => first | (simp [intOf]; done) | (simp [intOf]; omega)
        · have hn : ((x : Int) != y) = true := by rw [bne_iff_ne]; omega
          have hc : r = decide ((x : Int) < y) := by
            rw [← Hr0.out]
            by_cases h : x < y
            · rw [decide_eq_true (Htop.out h), decide_eq_true (by omega)]
            · have := Htop2.out (by omega)
              rw [decide_eq_false (by omega), decide_eq_false (by omega)]
          obtain ⟨q, hq⟩ : ∃ q, decide ((x : Int) < y) = q := ⟨_, rfl⟩
          rw [hq] at hc
          have hq2 : decide (x < y) = q := by rw [← hq, decide_eq_decide]; omega
          have Hc := Lib.hid hc
          clear hc hxy
          go_wp2
          (refine wp_region_text (by kernel_rfl) (by kernel_rfl) ?_)
          go_wp2
          refine Strict.intro rfl ?_
          go_wp2
          (refine wp_region_text (by kernel_rfl) (by kernel_rfl) ?_)
          go_wp2
          refine Strict.intro rfl ?_
          go_wp2
          go_ret
          exact ⟨by rw [Hc.out]; rfl, m + 1 + 1, rfl⟩
end Go.Proofs.Ytdanghnadbkhfaa
end

section
/- The reference of big integers: minus. -/
namespace Go.Proofs.Ytdanghnadbkhfaa
set_option linter.unusedVariables false
set_option linter.unusedSimpArgs false
open Go Go.RowKit Go.Proofs.Rg Go.Proofs.Hp Go.Proofs.Bn
end Go.Proofs.Ytdanghnadbkhfaa
end

section
/- The reference of big integers: Add, Compare. -/
namespace Go.Proofs.Ytdanghnadbkhfaa
set_option linter.unusedVariables false
set_option linter.unusedSimpArgs false
open Go Go.RowKit Go.Proofs.Rg Go.Proofs.Hp Go.Proofs.Bn
end Go.Proofs.Ytdanghnadbkhfaa
end

section
/- The reference of big integers: Compare. -/
namespace Go.Proofs.Ytdanghnadbkhfaa
set_option linter.unusedVariables false
set_option linter.unusedSimpArgs false
open Go Go.RowKit Go.Proofs.Rg Go.Proofs.Hp Go.Proofs.Bn
set_option maxHeartbeats 8000000 in
set_option maxRecDepth 100000 in
theorem RCompare_calls {w : World} {na nb : Bool} {da db : List Nat} {va vb : Value} (ha : Reads w va da.length 1 (u32s da)) (hb : Reads w vb db.length 1 (u32s db)) (hDa : Dig 4294967296 da) (hDb : Dig 4294967296 db) (hla : da.length ≤ 10000) (hlb : db.length ≤ 10000) :
    Calls Try.prog 29 #[.agg #[.bool na, va], .agg #[.bool nb, vb]] w fun e w' => e = .returned (.int .i64 (cmpS na da nb db)) ∧ Fr [] w w' := by
  have hra := fun w1 (hf : Fr [] w w1) => RRight_calls (neg := na) (ha.fr hf) (by omega)
  have hrb := fun w1 (hf : Fr [] w w1) => RRight_calls (neg := nb) (hb.fr hf) (by omega)
  have Ha0 := Lib.hid ha
  have Hb0 := Lib.hid hb
  obtain ⟨_, a, ac, rfl, _⟩ := ha
  obtain ⟨_, b, bc, rfl, _⟩ := hb
  have HDa := Lib.hid hDa
  have HDb := Lib.hid hDb
  obtain ⟨r, hS⟩ : ∃ r, r = cmpS na da nb db := ⟨_, rfl⟩
  rw [← hS]
  unfold cmpS at hS
  clear hDa hDb
  cases hR1 : RightB na da with
  | false =>
    rw [hR1] at hra hS
    simp only [Bool.false_and, if_true] at hS
    subst hS
    have Hra := Lib.hid hra
    clear hR1 hra hrb
    go_enter Try.func29, Try.ntmps29
    go_wp2_with fail
    refine (Hra.out _ (by (repeat (first | exact Fr.refl _ _ | assumption | apply Fr.drewN | apply Fr.drew | apply Fr.alloc | refine Fr.setCell ?_ (Or.inr (by simp; try omega)) _)))).mono ?_
    rintro e w1 ⟨rfl, hf⟩
    have ha_ := (hf.block (w.heap.size) (by first | (simp; done) | (simp; omega)) (by simp)).trans (show _ = some (.cells #[.bool na, .slice a da.length ac] 38 (0, 0)) by (repeat (first | rw [if_pos (by omega)] | rw [if_neg (by omega)] | rw [hp_drew] | rw [hp_drewN] | rw [hp_alloc_size] | rw [hp_setCell_size] | rw [hp_alloc] | rw [hp_setCell] | rw [Option.map_some] | rw [upd_cells] | rw [List.set_cons_zero] | rw [List.set_cons_succ] | rfl)))
    have a0 := heap_eq_cell ha_ 0
    have a1 := heap_eq_cell ha_ 1
    have al := lt_of_block ha_
    have Ha := Lib.hid ha_
    clear ha_
    have hb_ := (hf.block (w.heap.size + 1) (by first | (simp; done) | (simp; omega)) (by simp)).trans (show _ = some (.cells #[.bool nb, .slice b db.length bc] 38 (0, 0)) by (repeat (first | rw [if_pos (by omega)] | rw [if_neg (by omega)] | rw [hp_drew] | rw [hp_drewN] | rw [hp_alloc_size] | rw [hp_setCell_size] | rw [hp_alloc] | rw [hp_setCell] | rw [Option.map_some] | rw [upd_cells] | rw [List.set_cons_zero] | rw [List.set_cons_succ] | rfl)))
    have b0 := heap_eq_cell hb_ 0
    have b1 := heap_eq_cell hb_ 1
    have bl := lt_of_block hb_
    have Hb := Lib.hid hb_
    clear hb_
    have Hf := Lib.hid (Fr.trans0 (by (repeat (first | exact Fr.refl _ _ | assumption | apply Fr.drewN | apply Fr.drew | apply Fr.alloc | refine Fr.setCell ?_ (Or.inr (by simp; try omega)) _)) : Fr [] w _) hf)
    clear hf
    go_wp2
    go_ret
    exact ⟨rfl, Hf.out⟩
  | true =>
    rw [hR1] at hra
    have Hra := Lib.hid hra
    obtain ⟨cA, lA, nA⟩ := right_canon hR1
    rw [hR1] at hS
    clear hR1 hra nA
    cases hR2 : RightB nb db with
    | false =>
      rw [hR2] at hrb hS
      simp only [Bool.and_false, if_true] at hS
      subst hS
      have Hrb := Lib.hid hrb
      clear hR2 hrb
      go_enter Try.func29, Try.ntmps29
      go_wp2_with fail
      refine (Hra.out _ (by (repeat (first | exact Fr.refl _ _ | assumption | apply Fr.drewN | apply Fr.drew | apply Fr.alloc | refine Fr.setCell ?_ (Or.inr (by simp; try omega)) _)))).mono ?_
      rintro e w1 ⟨rfl, hf⟩
      have ha_ := (hf.block (w.heap.size) (by first | (simp; done) | (simp; omega)) (by simp)).trans (show _ = some (.cells #[.bool na, .slice a da.length ac] 38 (0, 0)) by (repeat (first | rw [if_pos (by omega)] | rw [if_neg (by omega)] | rw [hp_drew] | rw [hp_drewN] | rw [hp_alloc_size] | rw [hp_setCell_size] | rw [hp_alloc] | rw [hp_setCell] | rw [Option.map_some] | rw [upd_cells] | rw [List.set_cons_zero] | rw [List.set_cons_succ] | rfl)))
      have a0 := heap_eq_cell ha_ 0
      have a1 := heap_eq_cell ha_ 1
      have al := lt_of_block ha_
      have Ha := Lib.hid ha_
      clear ha_
      have hb_ := (hf.block (w.heap.size + 1) (by first | (simp; done) | (simp; omega)) (by simp)).trans (show _ = some (.cells #[.bool nb, .slice b db.length bc] 38 (0, 0)) by (repeat (first | rw [if_pos (by omega)] | rw [if_neg (by omega)] | rw [hp_drew] | rw [hp_drewN] | rw [hp_alloc_size] | rw [hp_setCell_size] | rw [hp_alloc] | rw [hp_setCell] | rw [Option.map_some] | rw [upd_cells] | rw [List.set_cons_zero] | rw [List.set_cons_succ] | rfl)))
      have b0 := heap_eq_cell hb_ 0
      have b1 := heap_eq_cell hb_ 1
      have bl := lt_of_block hb_
      have Hb := Lib.hid hb_
      clear hb_
      have Hf := Lib.hid (Fr.trans0 (by (repeat (first | exact Fr.refl _ _ | assumption | apply Fr.drewN | apply Fr.drew | apply Fr.alloc | refine Fr.setCell ?_ (Or.inr (by simp; try omega)) _)) : Fr [] w _) hf)
      clear hf
      go_wp2_with fail
      refine (Hrb.out _ Hf.out).mono ?_
      rintro e w2 ⟨rfl, hf⟩
      (try clear a0)
      (try clear a1)
      (try clear al)
      have ha_ := (hf.block _ (lt_of_block Ha.out) (by simp)).trans Ha.out
      clear Ha
      have a0 := heap_eq_cell ha_ 0
      have a1 := heap_eq_cell ha_ 1
      have al := lt_of_block ha_
      have Ha := Lib.hid ha_
      clear ha_
      (try clear b0)
      (try clear b1)
      (try clear bl)
      have hb_ := (hf.block _ (lt_of_block Hb.out) (by simp)).trans Hb.out
      clear Hb
      have b0 := heap_eq_cell hb_ 0
      have b1 := heap_eq_cell hb_ 1
      have bl := lt_of_block hb_
      have Hb := Lib.hid hb_
      clear hb_
      have Hf := Lib.hid (Hf.out.trans0 hf)
      clear hf
      go_wp2
      go_ret
      exact ⟨rfl, Hf.out⟩
    | true =>
      rw [hR2] at hrb hS
      simp only [Bool.and_self, Bool.true_eq_false, if_false] at hS
      have Hrb := Lib.hid hrb
      obtain ⟨cB, lB, nB⟩ := right_canon hR2
      have HcA := Lib.hid cA
      have HcB := Lib.hid cB
      have HS := Lib.hid hS
      clear hR2 hrb cA cB hS nB
      go_enter Try.func29, Try.ntmps29
      go_wp2_with fail
      refine (Hra.out _ (by (repeat (first | exact Fr.refl _ _ | assumption | apply Fr.drewN | apply Fr.drew | apply Fr.alloc | refine Fr.setCell ?_ (Or.inr (by simp; try omega)) _)))).mono ?_
      rintro e w1 ⟨rfl, hf⟩
      have ha_ := (hf.block (w.heap.size) (by first | (simp; done) | (simp; omega)) (by simp)).trans (show _ = some (.cells #[.bool na, .slice a da.length ac] 38 (0, 0)) by (repeat (first | rw [if_pos (by omega)] | rw [if_neg (by omega)] | rw [hp_drew] | rw [hp_drewN] | rw [hp_alloc_size] | rw [hp_setCell_size] | rw [hp_alloc] | rw [hp_setCell] | rw [Option.map_some] | rw [upd_cells] | rw [List.set_cons_zero] | rw [List.set_cons_succ] | rfl)))
      have a0 := heap_eq_cell ha_ 0
      have a1 := heap_eq_cell ha_ 1
      have al := lt_of_block ha_
      have Ha := Lib.hid ha_
      clear ha_
      have hb_ := (hf.block (w.heap.size + 1) (by first | (simp; done) | (simp; omega)) (by simp)).trans (show _ = some (.cells #[.bool nb, .slice b db.length bc] 38 (0, 0)) by (repeat (first | rw [if_pos (by omega)] | rw [if_neg (by omega)] | rw [hp_drew] | rw [hp_drewN] | rw [hp_alloc_size] | rw [hp_setCell_size] | rw [hp_alloc] | rw [hp_setCell] | rw [Option.map_some] | rw [upd_cells] | rw [List.set_cons_zero] | rw [List.set_cons_succ] | rfl)))
      have b0 := heap_eq_cell hb_ 0
      have b1 := heap_eq_cell hb_ 1
      have bl := lt_of_block hb_
      have Hb := Lib.hid hb_
      clear hb_
      have Hf := Lib.hid (Fr.trans0 (by (repeat (first | exact Fr.refl _ _ | assumption | apply Fr.drewN | apply Fr.drew | apply Fr.alloc | refine Fr.setCell ?_ (Or.inr (by simp; try omega)) _)) : Fr [] w _) hf)
      clear hf
      go_wp2_with fail
      refine (Hrb.out _ Hf.out).mono ?_
      rintro e w2 ⟨rfl, hf⟩
      (try clear a0)
      (try clear a1)
      (try clear al)
      have ha_ := (hf.block _ (lt_of_block Ha.out) (by simp)).trans Ha.out
      clear Ha
      have a0 := heap_eq_cell ha_ 0
      have a1 := heap_eq_cell ha_ 1
      have al := lt_of_block ha_
      have Ha := Lib.hid ha_
      clear ha_
      (try clear b0)
      (try clear b1)
      (try clear bl)
      have hb_ := (hf.block _ (lt_of_block Hb.out) (by simp)).trans Hb.out
      clear Hb
      have b0 := heap_eq_cell hb_ 0
      have b1 := heap_eq_cell hb_ 1
      have bl := lt_of_block hb_
      have Hb := Lib.hid hb_
      clear hb_
      have Hf := Lib.hid (Hf.out.trans0 hf)
      clear hf
      go_wp2
      refine wp_region_segs [([0, 2, 1], [2]), ([3, 4, 5], [])] (by kernel_rfl) (by kernel_rfl) ?_
      (simp only [wpSegs, pick, Array.getD_eq_getD_getElem?, List.getElem?_toArray, List.getElem?_cons_succ, List.getElem?_cons_zero, Option.getD_some])
      go_wp2_with fail
      refine (bytes_calls (neg := na) (Ha0.out.fr (by have := Hf.out; (repeat (first | exact Fr.refl _ _ | assumption | apply Fr.drewN | apply Fr.drew | apply Fr.alloc | refine Fr.setCell ?_ (Or.inr (by simp; try omega)) _)))) HDa.out (by omega)).mono ?_
      rintro e w3 ⟨xa, xc, hlo, rfl, hr, hf0⟩
      have hf : Fr [] w2 w3 := Fr.trans0 (by (repeat (first | exact Fr.refl _ _ | assumption | apply Fr.drewN | apply Fr.drew | apply Fr.alloc | refine Fr.setCell ?_ (Or.inr (by simp; try omega)) _))) hf0
      (try clear a0)
      (try clear a1)
      (try clear al)
      have ha_ := (hf.block _ (lt_of_block Ha.out) (by simp)).trans Ha.out
      clear Ha
      have a0 := heap_eq_cell ha_ 0
      have a1 := heap_eq_cell ha_ 1
      have al := lt_of_block ha_
      have Ha := Lib.hid ha_
      clear ha_
      (try clear b0)
      (try clear b1)
      (try clear bl)
      have hb_ := (hf.block _ (lt_of_block Hb.out) (by simp)).trans Hb.out
      clear Hb
      have b0 := heap_eq_cell hb_ 0
      have b1 := heap_eq_cell hb_ 1
      have bl := lt_of_block hb_
      have Hb := Lib.hid hb_
      clear hb_
      have Hf := Lib.hid (Hf.out.trans0 hf)
      have Hx := Lib.hid hr
      have Hxc := Lib.hid hlo.1
      clear hf hf0 hr hlo
      go_wp2
      refine Mid.intro ⟨⟨again_row (T := 38) (cs := [.bool nb, .slice b db.length bc]) rfl rfl rfl Try.underlying38 rfl (by kernel_rfl) (fun j v hj => ?rng) rfl, trivial⟩, ?_⟩
      case rng =>
        rw [Nat.zero_add, heap_eq_cell Hb.out, ← hj]
        exact (Array.getElem?_toList (xs := #[Value.bool nb, .slice b db.length bc])).symm
      go_wp2_with fail
      refine (bytes_calls (neg := nb) (Hb0.out.fr Hf.out) HDb.out (by omega)).mono ?_
      rintro e w4 ⟨ya, yc, hlo, rfl, hr, hf⟩
      (try clear a0)
      (try clear a1)
      (try clear al)
      have ha_ := (hf.block _ (lt_of_block Ha.out) (by simp)).trans Ha.out
      clear Ha
      have a0 := heap_eq_cell ha_ 0
      have a1 := heap_eq_cell ha_ 1
      have al := lt_of_block ha_
      have Ha := Lib.hid ha_
      clear ha_
      (try clear b0)
      (try clear b1)
      (try clear bl)
      have hb_ := (hf.block _ (lt_of_block Hb.out) (by simp)).trans Hb.out
      clear Hb
      have b0 := heap_eq_cell hb_ 0
      have b1 := heap_eq_cell hb_ 1
      have bl := lt_of_block hb_
      have Hb := Lib.hid hb_
      clear hb_
      have Hf := Lib.hid (Hf.out.trans0 hf)
      have Hx := Lib.hid (Hx.out.fr hf)
      have Hy := Lib.hid hr
      have Hyc := Lib.hid hlo.1
      clear hf hr hlo
      go_wp2
      refine Mid.intro ⟨trivial, Strict.intro rfl ?_⟩
      obtain ⟨Va, hVa⟩ : ∃ Va, val 4294967296 da = Va := ⟨_, rfl⟩
      obtain ⟨Vb, hVb⟩ : ∃ Vb, val 4294967296 db = Vb := ⟨_, rfl⟩
      rw [hVa] at Hx HS Hxc ⊢
      rw [hVb] at Hy HS Hyc ⊢
      obtain ⟨X, hX⟩ : ∃ X, dg 256 Va = X := ⟨_, rfl⟩
      obtain ⟨Y, hY⟩ : ∃ Y, dg 256 Vb = Y := ⟨_, rfl⟩
      have hXV : val 256 X = Va := by rw [← hX]; exact val_dg (by omega) Va
      have hYV : val 256 Y = Vb := by rw [← hY]; exact val_dg (by omega) Vb
      have hXD : Dig 256 X := by rw [← hX]; exact dg_dig (by omega) Va
      have hYD : Dig 256 Y := by rw [← hY]; exact dg_dig (by omega) Vb
      have hXC : Canon X := by rw [← hX]; exact dg_canon (by omega) Va
      have hYC : Canon Y := by rw [← hY]; exact dg_canon (by omega) Vb
      have hlen : ∀ (ds : List Nat) V, Dig 4294967296 ds → ds.length ≤ 64 → val 4294967296 ds = V → (dg 256 V).length ≤ 256 := by
        intro ds V hD hl h
        rw [dg_length_le (by omega), show 256 ^ 256 = 4294967296 ^ 64 from pow256 64, ← h]
        exact Nat.lt_of_lt_of_le (val_lt hD) (Nat.pow_le_pow_right (by omega) hl)
      have hXl := hlen _ _ HDa.out lA hVa
      have hYl := hlen _ _ HDb.out lB hVb
      rw [hX] at Hx Hxc hXl ⊢
      rw [hY] at Hy Hyc hYl ⊢
      have HXV := Lib.hid hXV
      have HYV := Lib.hid hYV
      have HXD := Lib.hid hXD
      have HYD := Lib.hid hYD
      have HXC := Lib.hid hXC
      have HYC := Lib.hid hYC
      clear hVa hVb hX hY hXV hYV hXD hYD hXC hYC hlen
      cases na <;> cases nb
      ·
        have hc := HS.out
        simp only [if_true, Bool.false_eq_true, if_false] at hc
        have Hc := Lib.hid hc
        clear hc HS
        have Hl1 := Lib.hid (fun w1 (hf1 : Fr [] w4 w1) => less_calls (Hx.out.fr hf1) (Hy.out.fr hf1) HXD.out HYD.out HXC.out HYC.out (by omega) (by omega))
        have Hl2 := Lib.hid (fun w1 (hf1 : Fr [] w4 w1) => less_calls (Hy.out.fr hf1) (Hx.out.fr hf1) HYD.out HXD.out HYC.out HXC.out (by omega) (by omega))
        go_wp2_with fail
        refine (Hl1.out _ (by (repeat (first | exact Fr.refl _ _ | assumption | apply Fr.drewN | apply Fr.drew | apply Fr.alloc | refine Fr.setCell ?_ (Or.inr (by simp; try omega)) _)))).mono ?_
        rintro e w5 ⟨rfl, n5, rfl⟩
        rw [HXV.out, HYV.out]
        by_cases h1 : Va < Vb
        · have hr : r = -1 := by rw [Hc.out]; unfold cmpN; rw [if_pos h1]
          rw [decide_eq_true h1]
          have Hr := Lib.hid hr
          clear hr h1
          go_wp2
          go_ret
          exact ⟨by rw [Hr.out]; rfl, by have := Hf.out; (repeat (first | exact Fr.refl _ _ | assumption | apply Fr.drewN | apply Fr.drew | apply Fr.alloc | refine Fr.setCell ?_ (Or.inr (by simp; try omega)) _))⟩
        · rw [decide_eq_false h1]
          have Hh1 := Lib.hid h1
          clear h1
          go_wp2_with fail
          refine (Hl2.out _ (by (repeat (first | exact Fr.refl _ _ | assumption | apply Fr.drewN | apply Fr.drew | apply Fr.alloc | refine Fr.setCell ?_ (Or.inr (by simp; try omega)) _)))).mono ?_
          rintro e w6 ⟨rfl, n6, rfl⟩
          rw [HXV.out, HYV.out]
          by_cases h2 : Vb < Va
          · have hr : r = 1 := by rw [Hc.out]; unfold cmpN; rw [if_neg Hh1.out, if_pos h2]
            rw [decide_eq_true h2]
            have Hr := Lib.hid hr
            clear hr h2
            go_wp2
            go_ret
            exact ⟨by rw [Hr.out]; rfl, by have := Hf.out; (repeat (first | exact Fr.refl _ _ | assumption | apply Fr.drewN | apply Fr.drew | apply Fr.alloc | refine Fr.setCell ?_ (Or.inr (by simp; try omega)) _))⟩
          · have hr : r = 0 := by rw [Hc.out]; unfold cmpN; rw [if_neg Hh1.out, if_neg h2]
            rw [decide_eq_false h2]
            have Hr := Lib.hid hr
            clear hr h2
            go_wp2
            go_ret
            exact ⟨by rw [Hr.out]; rfl, by have := Hf.out; (repeat (first | exact Fr.refl _ _ | assumption | apply Fr.drewN | apply Fr.drew | apply Fr.alloc | refine Fr.setCell ?_ (Or.inr (by simp; try omega)) _))⟩
      · have hr : r = 1 := HS.out
        have Hr := Lib.hid hr
        clear hr HS
        go_wp2
        go_ret
        exact ⟨by rw [Hr.out]; rfl, by have := Hf.out; (repeat (first | exact Fr.refl _ _ | assumption | apply Fr.drewN | apply Fr.drew | apply Fr.alloc | refine Fr.setCell ?_ (Or.inr (by simp; try omega)) _))⟩
      · have hr : r = -1 := HS.out
        have Hr := Lib.hid hr
        clear hr HS
        go_wp2
        go_ret
        exact ⟨by rw [Hr.out]; rfl, by have := Hf.out; (repeat (first | exact Fr.refl _ _ | assumption | apply Fr.drewN | apply Fr.drew | apply Fr.alloc | refine Fr.setCell ?_ (Or.inr (by simp; try omega)) _))⟩
      ·
        have hc := HS.out
        simp only [if_true, Bool.false_eq_true, if_false] at hc
        have Hc := Lib.hid hc
        clear hc HS
        have Hl1 := Lib.hid (fun w1 (hf1 : Fr [] w4 w1) => less_calls (Hy.out.fr hf1) (Hx.out.fr hf1) HYD.out HXD.out HYC.out HXC.out (by omega) (by omega))
        have Hl2 := Lib.hid (fun w1 (hf1 : Fr [] w4 w1) => less_calls (Hx.out.fr hf1) (Hy.out.fr hf1) HXD.out HYD.out HXC.out HYC.out (by omega) (by omega))
        go_wp2_with fail
        refine (Hl1.out _ (by (repeat (first | exact Fr.refl _ _ | assumption | apply Fr.drewN | apply Fr.drew | apply Fr.alloc | refine Fr.setCell ?_ (Or.inr (by simp; try omega)) _)))).mono ?_
        rintro e w5 ⟨rfl, n5, rfl⟩
        rw [HYV.out, HXV.out]
        by_cases h1 : Vb < Va
        · have hr : r = -1 := by rw [Hc.out]; unfold cmpN; rw [if_pos h1]
          rw [decide_eq_true h1]
          have Hr := Lib.hid hr
          clear hr h1
          go_wp2
          go_ret
          exact ⟨by rw [Hr.out]; rfl, by have := Hf.out; (repeat (first | exact Fr.refl _ _ | assumption | apply Fr.drewN | apply Fr.drew | apply Fr.alloc | refine Fr.setCell ?_ (Or.inr (by simp; try omega)) _))⟩
        · rw [decide_eq_false h1]
          have Hh1 := Lib.hid h1
          clear h1
          go_wp2_with fail
          refine (Hl2.out _ (by (repeat (first | exact Fr.refl _ _ | assumption | apply Fr.drewN | apply Fr.drew | apply Fr.alloc | refine Fr.setCell ?_ (Or.inr (by simp; try omega)) _)))).mono ?_
          rintro e w6 ⟨rfl, n6, rfl⟩
          rw [HYV.out, HXV.out]
          by_cases h2 : Va < Vb
          · have hr : r = 1 := by rw [Hc.out]; unfold cmpN; rw [if_neg Hh1.out, if_pos h2]
            rw [decide_eq_true h2]
            have Hr := Lib.hid hr
            clear hr h2
            go_wp2
            go_ret
            exact ⟨by rw [Hr.out]; rfl, by have := Hf.out; (repeat (first | exact Fr.refl _ _ | assumption | apply Fr.drewN | apply Fr.drew | apply Fr.alloc | refine Fr.setCell ?_ (Or.inr (by simp; try omega)) _))⟩
          · have hr : r = 0 := by rw [Hc.out]; unfold cmpN; rw [if_neg Hh1.out, if_neg h2]
            rw [decide_eq_false h2]
            have Hr := Lib.hid hr
            clear hr h2
            go_wp2
            go_ret
            exact ⟨by rw [Hr.out]; rfl, by have := Hf.out; (repeat (first | exact Fr.refl _ _ | assumption | apply Fr.drewN | apply Fr.drew | apply Fr.alloc | refine Fr.setCell ?_ (Or.inr (by simp; try omega)) _))⟩
end Go.Proofs.Ytdanghnadbkhfaa
end

section
/- The reference of big integers: From, Int, Same. -/
namespace Go.Proofs.Ytdanghnadbkhfaa
set_option linter.unusedVariables false
set_option linter.unusedSimpArgs false
open Go Go.RowKit Go.Proofs.Rg Go.Proofs.Hp Go.Proofs.Bn
set_option maxHeartbeats 4000000 in
set_option maxRecDepth 100000 in
theorem RFrom_calls {w : World} {n : Int} (h1 : -9223372036854775808 ≤ n) (h2 : n < 9223372036854775808) :
    Calls Try.prog 16 #[.int .i64 n] w (BigPost1 w (w.heap.size ≤ ·) (fromS n)) := by
  unfold fromS
  obtain ⟨v, hv⟩ : ∃ v, v = n.natAbs := ⟨_, rfl⟩
  rw [← hv]
  have hv64' : v < 256 ^ 8 := by omega
  have HV64 := Lib.hid hv64'
  clear hv64'
  by_cases hn : n < 0
  · have hd : decide (n < 0) = true := by simpa using hn
    rw [hd]
    obtain ⟨r, hrr⟩ : ∃ r, mkN true v = r := ⟨_, rfl⟩
    rw [hrr]
    have HRR := Lib.hid hrr
    clear hrr
    have Ev : IntKind.u64.wrap (-IntKind.u64.wrap n) = (v : Nat) := by rw [wrap_u64, wrap_u64]; omega
    go_enter Try.func16, Try.ntmps16
    go_wp2_with fail
    go_loopw [3, 4] (fun x3 x4 wl => ∃ (u : Nat) (L : List Nat), x3 = .int .u64 u ∧ Dig 256 L ∧ L.length ≤ 8 ∧ u < 256 ^ (8 - L.length) ∧ val 256 L + 256 ^ L.length * u = v ∧ wl.ownsRow (w.heap.size + 1) 3 1 x4 L.length (i64s L) ∧ Fr [] w wl ∧
      wl.heap[w.heap.size]? = some (.cells #[.bool false, .slice none 0 0] 38 (0, 0))) (fun x3 _ _ => (intOf x3).toNat)
    case atStart => exact ⟨v, [], by first | rfl | (simp; omega) | (go_num), Dig.nil, by simp, HV64.out, by simp [val], World.ownsRow_nil _ _ _ _, by (repeat (first | exact Fr.refl _ _ | assumption | apply Fr.drewN | apply Fr.drew | apply Fr.alloc | refine Fr.setCell ?_ (Or.inr (by simp; try omega)) _)), by (repeat (first | rw [if_pos (by omega)] | rw [if_neg (by omega)] | rw [hp_drew] | rw [hp_drewN] | rw [hp_alloc_size] | rw [hp_setCell_size] | rw [hp_alloc] | rw [hp_setCell] | rw [Option.map_some] | rw [upd_cells] | rw [List.set_cons_zero] | rw [List.set_cons_succ] | rfl))⟩
    case round =>
      obtain ⟨u, L, rfl, hD, hL, hu, hval, ho, hf, hb⟩ := hrel
      obtain ⟨oa, oc, rfl, hoa, hon⟩ := owns_form ho
      have HD := Lib.hid hD
      have Hval := Lib.hid hval
      have Ho := Lib.hid ho
      have Hf := Lib.hid hf
      have Hb := Lib.hid hb
      have Hu := Lib.hid hu
      have hub : u < 18446744073709551616 := Nat.lt_of_lt_of_le hu (Nat.pow_le_pow_right (show 0 < 256 by omega) (show 8 - L.length ≤ 8 by omega))
      clear hoa hon hD hval ho hf hb hu
      rcases Nat.eq_zero_or_pos u with h0 | hp
      · subst h0
        have hv := Hval.out
        rw [Nat.mul_zero, Nat.add_zero] at hv
        have hbg := big_calls (neg := true) (Reads.of_owns Ho.out) HD.out (by omega) (owns_cap Ho.out)
        rw [hv, HRR.out] at hbg
        have Hbg := Lib.hid hbg
        clear hv hbg
        go_wp2_with fail
        refine Hbg.out.mono ?_
        rintro e w2 ⟨ra, rc, hlo, rfl, hr, hf⟩
        have Hc := Hb
        (try clear c0)
        (try clear c1)
        (try clear c0z)
        (try clear c1z)
        (try clear cl)
        have hc_ := (hf.block _ (lt_of_block Hc.out) (by simp)).trans Hc.out
        clear Hc
        have c0 := heap_eq_cell hc_ 0
        have c0z := heap_eq_frozen hc_ 0
        have c1 := heap_eq_cell hc_ 1
        have c1z := heap_eq_frozen hc_ 1
        have cl := lt_of_block hc_
        have Hc := Lib.hid hc_
        clear hc_
        have Hlo := Lib.hid hlo
        have Hr := Lib.hid hr
        have Hs := Lib.hid Hf.out.size
        have Hf := Lib.hid (Hf.out.trans0 hf)
        clear hlo hr hf
        obtain ⟨r1, r2, r3⟩ := r
        go_wp2
        (try simp only [Exit.inBlock, Exit.then])
        refine bodyPost_ret (big_result1 rfl (b := w.heap.size) (x := .bool r1) (y := .slice ra r2.length rc) rfl ?_) rfl ⟨_, _, ⟨Hlo.out.1, fun g hg => (by have h := Hlo.out.2 g hg; have := Hs.out; omega)⟩, rfl, ?_, ?_⟩
        · have h := Hc.out
          (repeat (first | rw [if_pos (by omega)] | rw [if_neg (by omega)] | rw [hp_drew] | rw [hp_drewN] | rw [hp_alloc_size] | rw [hp_setCell_size] | rw [hp_alloc] | rw [hp_setCell] | rw [Option.map_some] | rw [upd_cells] | rw [List.set_cons_zero] | rw [List.set_cons_succ] | rfl))
          first | exact h | (rw [h]; (repeat (first | rw [if_pos (by omega)] | rw [if_neg (by omega)] | rw [hp_drew] | rw [hp_drewN] | rw [hp_alloc_size] | rw [hp_setCell_size] | rw [hp_alloc] | rw [hp_setCell] | rw [Option.map_some] | rw [upd_cells] | rw [List.set_cons_zero] | rw [List.set_cons_succ] | rfl)))
        · refine Hr.out.keep fun x hx hl => ?_
          have h1 := Hlo.out.2 x hx
          have := lt_of_block Hb.out
          rw [heap_alloc_else _ _ _ (by simp only [hp_setCell_size]; exact hl), setCell_else _ _ _ (by simp; omega), setCell_else _ _ _ (by simp; omega)]
        · repeat (first | exact Hf.out | refine Fr.alloc ?_ _ | refine Fr.setCell ?_ (.inr (by first | (simp; done) | (simp; omega))) _)
      · obtain ⟨d, hd⟩ : ∃ d, u % 256 = d := ⟨_, rfl⟩
        have Ed : ((u : Int) % 256) = (d : Nat) := by omega
        have hd256 : d < 256 := by omega
        have Hd := Lib.hid hd
        clear hd
        have hL8 : L.length < 8 := by
          rcases Nat.lt_or_ge L.length 8 with h | h
          · exact h
          · have h2 := Hu.out
            rw [show 8 - L.length = 0 by omega] at h2
            omega
        have Hf1 := Lib.hid (show Fr [] w _ from Hf.out)
        have hbl := lt_of_block Hb.out
        go_wp2_with (at_builtin; refine append_i64 (n := L.length) (base := (w.heap.size + 1)) (xs := (i64s L)) (y := (d : Int)) rfl rfl rfl ?e1 rfl ?e2 ?e3 ?e4 ?_)
        case e1 => exact owns_of_block Ho.out fun y hy => heap_alloc_else _ _ _ (owns_lt Ho.out hy)
        case e2 => first | (first | (rw [hp_alloc, if_pos rfl]; done) | exact (Array.getElem?_eq_some_iff.1 ((hp_alloc _ _ _).trans (if_pos rfl))).2 | (simp only [hp_drew, hp_drewN]; rw [hp_alloc, if_pos rfl]; done)) | (repeat (first | rw [if_pos (by omega)] | rw [if_neg (by omega)] | rw [hp_drew] | rw [hp_drewN] | rw [hp_alloc_size] | rw [hp_setCell_size] | rw [hp_alloc] | rw [hp_setCell] | rw [Option.map_some] | rw [upd_cells] | rw [List.set_cons_zero] | rw [List.set_cons_succ] | rfl))
        case e3 => omega
        case e4 => have := Hf1.out.size; have := lt_of_block Hb.out; (first | omega | (simp only [hp_drew, hp_drewN, hp_alloc_size]; omega) | (simp; omega))
        intro g2 cap w9 hown1 hW1 hF1 hloc1 hg1
        rw [i64s_snoc] at hown1
        have Hb9 := Lib.hid ((hW1 w.heap.size (by have := lt_of_block Hb.out; (first | omega | (simp only [hp_drew, hp_drewN, hp_alloc_size]; omega) | (simp; omega))) (fun e => by have h := owns_ge Ho.out e; omega)).trans ((heap_alloc_else _ _ _ (lt_of_block Hb.out)).trans Hb.out))
        have Hown1 := Lib.hid hown1
        have Hf9 := Lib.hid (fr_append Hf1.out (owns_base Ho.out (Nat.le_succ _)) hF1)
        clear hown1 hW1 hF1 hloc1
        go_wp2
        go_roundw
        case rel =>
          refine ⟨u / 256, L ++ [d], by go_num, HD.out.append (fun z hz => by rw [List.mem_singleton] at hz; omega), by rw [List.length_append]; simp; omega, ?_, ?_, by rw [List.length_append]; exact Hown1.out, Hf9.out, Hb9.out⟩
          · have h := Hu.out
            rw [List.length_append, List.length_singleton, Nat.div_lt_iff_lt_mul (by omega), ← Nat.pow_succ, show (8 - (L.length + 1)).succ = 8 - L.length by omega]
            exact h
          · rw [val_snoc, List.length_append, List.length_singleton, Nat.pow_succ, ← Hd.out, Nat.add_assoc, low_high]
            exact Hval.out
        case measure => simp [intOf]; omega
  · have hd : decide (n < 0) = false := by simpa using hn
    rw [hd]
    obtain ⟨r, hrr⟩ : ∃ r, mkN false v = r := ⟨_, rfl⟩
    rw [hrr]
    have HRR := Lib.hid hrr
    clear hrr
    obtain rfl : n = (v : Int) := by omega
    have Ev2 : IntKind.u64.wrap ((v : Nat) : Int) = (v : Nat) := by rw [wrap_u64]; omega
    have hd2 : decide ((v : Int) < 0) = false := hd
    clear hd hn hv h1 h2
    go_enter Try.func16, Try.ntmps16
    go_wp2_with fail
    go_loopw [3, 4] (fun x3 x4 wl => ∃ (u : Nat) (L : List Nat), x3 = .int .u64 u ∧ Dig 256 L ∧ L.length ≤ 8 ∧ u < 256 ^ (8 - L.length) ∧ val 256 L + 256 ^ L.length * u = v ∧ wl.ownsRow (w.heap.size + 1) 3 1 x4 L.length (i64s L) ∧ Fr [] w wl ∧
      wl.heap[w.heap.size]? = some (.cells #[.bool false, .slice none 0 0] 38 (0, 0))) (fun x3 _ _ => (intOf x3).toNat)
    case atStart => exact ⟨v, [], by first | rfl | (simp; omega) | (go_num), Dig.nil, by simp, HV64.out, by simp [val], World.ownsRow_nil _ _ _ _, by (repeat (first | exact Fr.refl _ _ | assumption | apply Fr.drewN | apply Fr.drew | apply Fr.alloc | refine Fr.setCell ?_ (Or.inr (by simp; try omega)) _)), by (repeat (first | rw [if_pos (by omega)] | rw [if_neg (by omega)] | rw [hp_drew] | rw [hp_drewN] | rw [hp_alloc_size] | rw [hp_setCell_size] | rw [hp_alloc] | rw [hp_setCell] | rw [Option.map_some] | rw [upd_cells] | rw [List.set_cons_zero] | rw [List.set_cons_succ] | rfl))⟩
    case round =>
      obtain ⟨u, L, rfl, hD, hL, hu, hval, ho, hf, hb⟩ := hrel
      obtain ⟨oa, oc, rfl, hoa, hon⟩ := owns_form ho
      have HD := Lib.hid hD
      have Hval := Lib.hid hval
      have Ho := Lib.hid ho
      have Hf := Lib.hid hf
      have Hb := Lib.hid hb
      have Hu := Lib.hid hu
      have hub : u < 18446744073709551616 := Nat.lt_of_lt_of_le hu (Nat.pow_le_pow_right (show 0 < 256 by omega) (show 8 - L.length ≤ 8 by omega))
      clear hoa hon hD hval ho hf hb hu
      rcases Nat.eq_zero_or_pos u with h0 | hp
      · subst h0
        have hv := Hval.out
        rw [Nat.mul_zero, Nat.add_zero] at hv
        have hbg := big_calls (neg := false) (Reads.of_owns Ho.out) HD.out (by omega) (owns_cap Ho.out)
        rw [hv, HRR.out] at hbg
        have Hbg := Lib.hid hbg
        clear hv hbg
        go_wp2_with fail
        refine Hbg.out.mono ?_
        rintro e w2 ⟨ra, rc, hlo, rfl, hr, hf⟩
        have Hc := Hb
        (try clear c0)
        (try clear c1)
        (try clear c0z)
        (try clear c1z)
        (try clear cl)
        have hc_ := (hf.block _ (lt_of_block Hc.out) (by simp)).trans Hc.out
        clear Hc
        have c0 := heap_eq_cell hc_ 0
        have c0z := heap_eq_frozen hc_ 0
        have c1 := heap_eq_cell hc_ 1
        have c1z := heap_eq_frozen hc_ 1
        have cl := lt_of_block hc_
        have Hc := Lib.hid hc_
        clear hc_
        have Hlo := Lib.hid hlo
        have Hr := Lib.hid hr
        have Hs := Lib.hid Hf.out.size
        have Hf := Lib.hid (Hf.out.trans0 hf)
        clear hlo hr hf
        obtain ⟨r1, r2, r3⟩ := r
        go_wp2
        (try simp only [Exit.inBlock, Exit.then])
        refine bodyPost_ret (big_result1 rfl (b := w.heap.size) (x := .bool r1) (y := .slice ra r2.length rc) rfl ?_) rfl ⟨_, _, ⟨Hlo.out.1, fun g hg => (by have h := Hlo.out.2 g hg; have := Hs.out; omega)⟩, rfl, ?_, ?_⟩
        · have h := Hc.out
          (repeat (first | rw [if_pos (by omega)] | rw [if_neg (by omega)] | rw [hp_drew] | rw [hp_drewN] | rw [hp_alloc_size] | rw [hp_setCell_size] | rw [hp_alloc] | rw [hp_setCell] | rw [Option.map_some] | rw [upd_cells] | rw [List.set_cons_zero] | rw [List.set_cons_succ] | rfl))
          first | exact h | (rw [h]; (repeat (first | rw [if_pos (by omega)] | rw [if_neg (by omega)] | rw [hp_drew] | rw [hp_drewN] | rw [hp_alloc_size] | rw [hp_setCell_size] | rw [hp_alloc] | rw [hp_setCell] | rw [Option.map_some] | rw [upd_cells] | rw [List.set_cons_zero] | rw [List.set_cons_succ] | rfl)))
        · refine Hr.out.keep fun x hx hl => ?_
          have h1 := Hlo.out.2 x hx
          have := lt_of_block Hb.out
          rw [heap_alloc_else _ _ _ (by simp only [hp_setCell_size]; exact hl), setCell_else _ _ _ (by simp; omega), setCell_else _ _ _ (by simp; omega)]
        · repeat (first | exact Hf.out | refine Fr.alloc ?_ _ | refine Fr.setCell ?_ (.inr (by first | (simp; done) | (simp; omega))) _)
      · obtain ⟨d, hd⟩ : ∃ d, u % 256 = d := ⟨_, rfl⟩
        have Ed : ((u : Int) % 256) = (d : Nat) := by omega
        have hd256 : d < 256 := by omega
        have Hd := Lib.hid hd
        clear hd
        have hL8 : L.length < 8 := by
          rcases Nat.lt_or_ge L.length 8 with h | h
          · exact h
          · have h2 := Hu.out
            rw [show 8 - L.length = 0 by omega] at h2
            omega
        have Hf1 := Lib.hid (show Fr [] w _ from Hf.out)
        have hbl := lt_of_block Hb.out
        go_wp2_with (at_builtin; refine append_i64 (n := L.length) (base := (w.heap.size + 1)) (xs := (i64s L)) (y := (d : Int)) rfl rfl rfl ?e1 rfl ?e2 ?e3 ?e4 ?_)
        case e1 => exact owns_of_block Ho.out fun y hy => heap_alloc_else _ _ _ (owns_lt Ho.out hy)
        case e2 => first | (first | (rw [hp_alloc, if_pos rfl]; done) | exact (Array.getElem?_eq_some_iff.1 ((hp_alloc _ _ _).trans (if_pos rfl))).2 | (simp only [hp_drew, hp_drewN]; rw [hp_alloc, if_pos rfl]; done)) | (repeat (first | rw [if_pos (by omega)] | rw [if_neg (by omega)] | rw [hp_drew] | rw [hp_drewN] | rw [hp_alloc_size] | rw [hp_setCell_size] | rw [hp_alloc] | rw [hp_setCell] | rw [Option.map_some] | rw [upd_cells] | rw [List.set_cons_zero] | rw [List.set_cons_succ] | rfl))
        case e3 => omega
        case e4 => have := Hf1.out.size; have := lt_of_block Hb.out; (first | omega | (simp only [hp_drew, hp_drewN, hp_alloc_size]; omega) | (simp; omega))
        intro g2 cap w9 hown1 hW1 hF1 hloc1 hg1
        rw [i64s_snoc] at hown1
        have Hb9 := Lib.hid ((hW1 w.heap.size (by have := lt_of_block Hb.out; (first | omega | (simp only [hp_drew, hp_drewN, hp_alloc_size]; omega) | (simp; omega))) (fun e => by have h := owns_ge Ho.out e; omega)).trans ((heap_alloc_else _ _ _ (lt_of_block Hb.out)).trans Hb.out))
        have Hown1 := Lib.hid hown1
        have Hf9 := Lib.hid (fr_append Hf1.out (owns_base Ho.out (Nat.le_succ _)) hF1)
        clear hown1 hW1 hF1 hloc1
        go_wp2
        go_roundw
        case rel =>
          refine ⟨u / 256, L ++ [d], by go_num, HD.out.append (fun z hz => by rw [List.mem_singleton] at hz; omega), by rw [List.length_append]; simp; omega, ?_, ?_, by rw [List.length_append]; exact Hown1.out, Hf9.out, Hb9.out⟩
          · have h := Hu.out
            rw [List.length_append, List.length_singleton, Nat.div_lt_iff_lt_mul (by omega), ← Nat.pow_succ, show (8 - (L.length + 1)).succ = 8 - L.length by omega]
            exact h
          · rw [val_snoc, List.length_append, List.length_singleton, Nat.pow_succ, ← Hd.out, Nat.add_assoc, low_high]
            exact Hval.out
        case measure => simp [intOf]; omega
end Go.Proofs.Ytdanghnadbkhfaa
end

section
/- The reference of big integers: bit, ofBits. -/
namespace Go.Proofs.Ytdanghnadbkhfaa
set_option linter.unusedVariables false
set_option linter.unusedSimpArgs false
open Go Go.RowKit Go.Proofs.Rg Go.Proofs.Hp Go.Proofs.Bn
end Go.Proofs.Ytdanghnadbkhfaa
end

section
/- The reference of big integers: Shift. -/
namespace Go.Proofs.Ytdanghnadbkhfaa
set_option linter.unusedVariables false
set_option linter.unusedSimpArgs false
open Go Go.RowKit Go.Proofs.Rg Go.Proofs.Hp Go.Proofs.Bn
end Go.Proofs.Ytdanghnadbkhfaa
end

section
/- Calls of the reference of big integers on integers that do not overflow. -/
namespace Go.Proofs.Ytdanghnadbkhfaa
open Go Go.RowKit Go.Proofs.Rg Go.Proofs.Hp Go.Proofs.Bn
set_option linter.unusedVariables false
set_option linter.unusedSimpArgs false
def RBigCall1 (w : World) (z : Int) (e : Ending) (w' : World) : Prop := ∃ v, e = .returned v ∧ BigZ w' (w.heap.size ≤ ·) v z ∧ Fr [] w w'
section
variable {w : World} {A B : Nat → Prop} {va vb : Value} {x y : Int}
theorem RCompare_z (ha : BigZ w A va x) (hb : BigZ w B vb y) (hx : Zok x) (hy : Zok y) : Calls Try.prog 29 #[va, vb] w fun e w' => e = .returned (.int .i64 (cmpI x y)) ∧ Fr [] w w' := by
  obtain ⟨a, c, rfl, _, _, h3⟩ := ha
  obtain ⟨a', c', rfl, _, _, k3⟩ := hb
  have := RCompare_calls (na := decide (x < 0)) (nb := decide (y < 0)) h3 k3 (zd_dig x) (zd_dig y) (by have := zd_len hx; omega) (by have := zd_len hy; omega)
  rwa [cmpS_z hx hy] at this
theorem RFrom_z (h1 : -9223372036854775808 ≤ x) (h2 : x < 9223372036854775808) : Calls Try.prog 16 #[.int .i64 x] w (RBigCall1 w x) := by
  refine (RFrom_calls h1 h2).mono ?_
  rw [fromS_z (zok_int h1 h2)]
  rintro e w' ⟨a, c, ⟨h1, h2⟩, rfl, h3, hf⟩
  exact ⟨_, rfl, ⟨a, c, rfl, h1, h2, h3⟩, hf⟩
end
end Go.Proofs.Ytdanghnadbkhfaa
end

section
/- Law 26: the fixed examples. -/
namespace Go.Proofs.Ytdanghnadbkhfaa
open Go Go.RowKit Go.Proofs.Rg Go.Proofs.Mp Go.Proofs.Hp Go.Proofs.Qs Go.Proofs.Ev Go.Proofs.Bn Go.Proofs.Pt
set_option linter.unusedVariables false
set_option linter.unusedSimpArgs false
theorem New_has {W w : World} {Ps : List Res} (h : Has W w Ps) (s : Int) (h1 : 2 ≤ s) (h2 : s ≤ 8) :
    Calls Try.prog 7 #[.int .i64 s] w fun e w' => ∃ b, e = .returned (.tuple #[.pointer (some ⟨b, 0, none⟩), .int .i64 0]) ∧ Has W w' (storeR b s [] :: Ps) := by
  refine (New_ok s w h1 h2).mono ?_
  rintro e w' ⟨b, F, rfl, hS, hf, hF⟩
  exact ⟨b, rfl, h.new hf hS hF⟩
theorem big_mem {W w : World} {Ps : List Res} {neg : Bool} {ds : List Nat} {a : Option Addr} {c : Nat} (h : Has W w Ps) (hm : bigR neg ds a c ∈ Ps) : BigIn w neg ds a c := by
  obtain ⟨G, h1, _⟩ := has_mem h hm
  exact h1
theorem zd_one : zd 1 = [1] := by
  unfold zd
  rw [show (1 : Int).natAbs = 1 from rfl, dg_succ (by omega) (by omega), show 1 / 4294967296 = 0 from rfl, dg_zero]
theorem zd_zero : zd 0 = [] := by unfold zd; rw [show (0 : Int).natAbs = 0 from rfl, dg_zero]
theorem zok1n : Zok ((1 : Nat) : Int) := zok_int (by decide) (by decide)
theorem zok0n : Zok ((0 : Nat) : Int) := zok_int (by decide) (by decide)
theorem zd1n : zd ((1 : Nat) : Int) = [1] := zd_one
theorem zd0n : zd ((0 : Nat) : Int) = [] := zd_zero
set_option maxHeartbeats 16000000 in
set_option maxRecDepth 100000 in
theorem awake_q (w : World) : Calls Try.prog 9 #[] w fun e w' => e = .returned (.bool true) ∧ Fr [] w w' := by
  have h0 : Has w w [] := ⟨[], rfl, Fr.refl _ _, by simp⟩
  have H0 := Lib.hid h0
  clear h0
  go_enter Try.func9, Try.ntmps9
  go_wp2_with fail
  refine (New_has H0.out 2 (by omega) (by omega)).mono ?_
  rintro e w1 ⟨b, rfl, h1⟩
  have h2 := (has_alloc h1 #[.int .i64 1, .int .i64 0, .int .i64 1] 72).swap
  obtain ⟨pb, hpb⟩ : ∃ pb, w1.heap.size = pb := ⟨_, rfl⟩
  rw [hpb] at h2
  have H2 := Lib.hid h2
  have HF1 := Lib.hid (From_q h2 (p := awP) (a := some ⟨pb, 0, none⟩) (c := 1) (reads_blk h2.swap.blk rfl) (by decide) 0 0 1 (by omega) (by omega))
  rw [aw_from1] at HF1
  clear h1 h2
  go_wp2_with fail
  refine HF1.out.mono ?_
  rintro e w2 ⟨rfl, h2⟩
  clear hpb H2
  have HF2 := Lib.hid (From_q h2 (p := awP) (a := some ⟨pb, 0, none⟩) (c := 1) (reads_blk h2.swap.blk rfl) (by decide) 0 0 2 (by omega) (by omega))
  rw [aw_from2] at HF2
  clear h2 HF1
  go_wp2_with fail
  refine HF2.out.mono ?_
  rintro e w3 ⟨rfl, h3⟩
  have H3 := Lib.hid h3
  clear h3 HF2
  go_wp2_with fail
  refine (RFrom_z (x := 1) (by omega) (by omega)).mono ?_
  rintro e w4 ⟨v1, rfl, hb1, hf1⟩
  obtain ⟨a1, c1, rfl, h4⟩ := has_big H3.out hf1 hb1 (zok_int (by omega) (by omega))
  rw [show decide ((1 : Int) < 0) = false from rfl, zd_one] at h4 ⊢
  have H4 := Lib.hid h4
  clear h4 hb1 hf1 H3
  go_wp2_with fail
  refine (RFrom_z (x := 0) (by omega) (by omega)).mono ?_
  rintro e w5 ⟨v2, rfl, hb2, hf2⟩
  obtain ⟨a2, c2, rfl, h5⟩ := has_big H4.out hf2 hb2 (zok_int (by omega) (by omega))
  rw [show decide ((0 : Int) < 0) = false from rfl, zd_zero] at h5 ⊢
  have H5 := Lib.hid h5
  clear h5 hb2 hf2 H4
  go_wp2_with fail
  have h6 := (has_alloc (has_alloc H5.out #[.bool false, .slice a1 1 c1] 38) #[.bool false, .slice a2 0 c2] 38).ord 6 [4, 1, 0, 3, 2, 5]
  simp only [List.filterMap_cons, List.filterMap_nil, List.getElem?_cons_zero, List.getElem?_cons_succ, List.drop_succ_cons, List.drop_zero, List.cons_append, List.nil_append] at h6
  obtain ⟨x8, hx8⟩ : ∃ x, w5.heap.size = x := ⟨_, rfl⟩
  rw [show (w5.alloc (.cells #[.bool false, .slice a1 1 c1] 38)).heap.size = w5.heap.size + 1 by simp, hx8] at h6
  rw [hx8]
  obtain ⟨x9, hx9⟩ : ∃ x, x8 + 1 = x := ⟨_, rfl⟩
  rw [hx9] at h6 ⊢
  have HG := Lib.hid (Get_q h6 4 (nx := false) (dx := [1]) (ny := false) (dy := []) (big_mem (a := a1) (c := c1) h6 (by simp)) (big_mem (a := a2) (c := c2) h6 (by simp)))
  rw [aw_get] at HG
  clear H5 h6 hx8 hx9
  refine HG.out.mono ?_
  rintro e w7 ⟨rfl, h7, _⟩
  have HB := Lib.hid (Bounds_q h7 4)
  clear HG h7
  go_wp2_with fail
  refine HB.out.mono ?_
  unfold BoundsPost
  rintro e w8 ⟨⟨ok, f0, f1, f2, f3⟩, L, rfl, h8, hok, hin⟩
  rw [aw_fr] at hok
  rw [aw_kn]
  simp only [FrOk, coF, Option.getD_some, Option.isSome_some] at hok
  obtain ⟨rfl, e0, e1, e2, e3⟩ := hok
  have h9 := (has_alloc h8 (lcells (true, f0, f1, f2, f3)) 49).ord 3 [1, 0, 2]
  simp only [List.filterMap_cons, List.filterMap_nil, List.getElem?_cons_zero, List.getElem?_cons_succ, List.drop_succ_cons, List.drop_zero, List.cons_append, List.nil_append] at h9
  obtain ⟨x12, hx12⟩ : ∃ x, w8.heap.size = x := ⟨_, rfl⟩
  rw [hx12] at h9
  have HFE := Lib.hid (And.intro hin (And.intro e0 (And.intro e1 (And.intro e2 e3))))
  have HP := Lib.hid (Population_q h9 4)
  rw [aw_kn, aw_pop] at HP
  clear HB h8 h9 hin e0 e1 e2 e3
  simp only [lcells] at HP ⊢
  go_wp2_with fail
  refine HP.out.mono ?_
  rintro e w9 ⟨pa, pc, rfl, h10⟩
  have h11 := (has_alloc h10 #[.bool false, .slice pa (zd ((1 : Nat) : Int)).length pc] 38).ord 3 [1, 0, 2]
  simp only [List.filterMap_cons, List.filterMap_nil, List.getElem?_cons_zero, List.getElem?_cons_succ, List.drop_succ_cons, List.drop_zero, List.cons_append, List.nil_append] at h11
  obtain ⟨x15, hx15⟩ : ∃ x, w9.heap.size = x := ⟨_, rfl⟩
  rw [hx15] at h11
  have HE := Lib.hid (Expand_q h11 2)
  rw [aw_exp] at HE
  clear HP h10 h11 hx12
  simp only [bvV]
  go_wp2_with fail
  refine HE.out.mono ?_
  rintro e w10 ⟨rfl, h12⟩
  have HC := Lib.hid (Centre_q h12 awX)
  rw [aw_ctr] at HC
  clear HE h12 hx15
  go_wp2_with fail
  refine HC.out.mono ?_
  rintro e w11 ⟨rfl, h13⟩
  have HPT := Lib.hid (Pattern_q h13 4 0 0 (by omega) (by omega))
  rw [aw_pat] at HPT
  clear HC h13
  go_wp2_with fail
  refine HPT.out.mono ?_
  rintro e w12 ⟨qv, rfl, h14⟩
  obtain ⟨_, qa, qc, rfl, _⟩ := Reads.of_owns h14.swap.row
  have HS := Lib.hid (Set_q h14 4 (nx := false) (dx := [1]) (ny := false) (dy := []) (BigSrc.thing (a := a1) (c := c1) (by simp)) (BigSrc.thing (a := a2) (c := c2) (by simp)) 0)
  rw [aw_set] at HS
  have hb8 := h14.ord 11 [6]
  simp only [List.filterMap_cons, List.filterMap_nil, List.getElem?_cons_zero, List.getElem?_cons_succ, List.drop_succ_cons, List.drop_zero, List.cons_append, List.nil_append] at hb8
  have hb8 := hb8.blk
  have a0 := heap_eq_cell hb8 0
  have a1' := heap_eq_cell hb8 1
  have al := lt_of_block hb8
  have hb9 := h14.ord 11 [7]
  simp only [List.filterMap_cons, List.filterMap_nil, List.getElem?_cons_zero, List.getElem?_cons_succ, List.drop_succ_cons, List.drop_zero, List.cons_append, List.nil_append] at hb9
  have hb9 := hb9.blk
  have b0 := heap_eq_cell hb9 0
  have b1 := heap_eq_cell hb9 1
  have bl := lt_of_block hb9
  clear HPT h14 hb8 hb9
  go_wp2_with fail
  refine HS.out.mono ?_
  rintro e w13 ⟨rfl, h15⟩
  have HEM := Lib.hid (Empty_has h15 2)
  rw [aw_empty] at HEM
  clear HS h15 a0 a1' al b0 b1 bl
  go_wp2_with fail
  refine HEM.out.mono ?_
  rintro e w14 ⟨rfl, h16⟩
  have hfg : Four w14 (true, (1, a1, c1), (0, a2, c2), (1, a1, c1), (0, a2, c2)) := by
    have h1 : BvIn w14 (1, a1, c1) := by
      show BigIn w14 false (zd ((1 : Nat) : Int)) a1 c1
      rw [zd1n]; exact big_mem h16 (by simp)
    have h2 : BvIn w14 (0, a2, c2) := by
      show BigIn w14 false (zd ((0 : Nat) : Int)) a2 c2
      rw [zd0n]; exact big_mem h16 (by simp)
    exact ⟨h1, h2, h1, h2, zok1n, zok0n, zok1n, zok0n⟩
  obtain ⟨⟨i0, i1, i2, i3⟩, e0, e1, e2, e3⟩ := HFE.out
  simp only at i0 i1 i2 i3 e0 e1 e2 e3
  have hff : Four w14 (true, f0, f1, f2, f3) := ⟨pool_in h16 (by simp) i0, pool_in h16 (by simp) i1, pool_in h16 (by simp) i2, pool_in h16 (by simp) i3, zok_int (by simp only; omega) (by simp only; omega), zok_int (by simp only; omega) (by simp only; omega), zok_int (by simp only; omega) (by simp only; omega), zok_int (by simp only; omega) (by simp only; omega)⟩
  have hsb : sameB (true, f0, f1, f2, f3) (true, (1, a1, c1), (0, a2, c2), (1, a1, c1), (0, a2, c2)) 4 = true := by
    simp only [sameB, Bool.and_eq_true, decide_eq_true_eq]; omega
  have HSM := Lib.hid (fun w' (hf : Fr [] w14 w') => same_q (hff.fr hf) (hfg.fr hf))
  rw [hsb] at HSM
  simp only [lcells, zd1n, zd0n, List.length_cons, List.length_nil, Nat.zero_add] at HSM
  have hpop : BigIn w14 false (zd ((1 : Nat) : Int)) pa pc := big_mem h16 (by simp)
  have hone : BigIn w14 false [1] a1 c1 := big_mem h16 (by simp)
  have HCM := Lib.hid (fun w' (hf : Fr [] w14 w') => RCompare_z (in_z (hpop.fr hf)) (in_z (V := 1) (a := a1) (c := c1) ((show BigIn w14 false (zd ((1 : Nat) : Int)) a1 c1 by rw [zd1n]; exact hone).fr hf)) (zok_int (by decide) (by decide)) (zok_int (by decide) (by decide)))
  simp only [zd1n, List.length_cons, List.length_nil, Nat.zero_add] at HCM
  have hrow := Reads.of_owns h16.swap.row
  have hpat := h16.ord 11 [10]
  simp only [List.filterMap_cons, List.filterMap_nil, List.getElem?_cons_zero, List.getElem?_cons_succ, List.drop_succ_cons, List.drop_zero, List.cons_append, List.nil_append] at hpat
  have HSP := Lib.hid (fun w' (hf : Fr [] w14 w') => Same_p (l := awP) (m := awP) (a := qa) (ca := qc) (b := some ⟨pb, 0, none⟩) (cb := 1) (Reads.fr hrow hf) (Reads.fr (reads_blk hpat.blk rfl) hf) (by decide) (by decide))
  have HFR := Lib.hid h16.fr
  clear hrow hpat
  have hb8 := h16.ord 11 [6]
  simp only [List.filterMap_cons, List.filterMap_nil, List.getElem?_cons_zero, List.getElem?_cons_succ, List.drop_succ_cons, List.drop_zero, List.cons_append, List.nil_append] at hb8
  have hb8 := hb8.blk
  have a0 := heap_eq_cell hb8 0
  have a1' := heap_eq_cell hb8 1
  have al := lt_of_block hb8
  have hb9 := h16.ord 11 [7]
  simp only [List.filterMap_cons, List.filterMap_nil, List.getElem?_cons_zero, List.getElem?_cons_succ, List.drop_succ_cons, List.drop_zero, List.cons_append, List.nil_append] at hb9
  have hb9 := hb9.blk
  have b0 := heap_eq_cell hb9 0
  have b1 := heap_eq_cell hb9 1
  have bl := lt_of_block hb9
  have hb2 := h16.ord 11 [4]
  simp only [List.filterMap_cons, List.filterMap_nil, List.getElem?_cons_zero, List.getElem?_cons_succ, List.drop_succ_cons, List.drop_zero, List.cons_append, List.nil_append] at hb2
  have hb2 := hb2.blk
  have r0 := heap_eq_cell hb2 0
  have r1 := heap_eq_cell hb2 1
  have r2 := heap_eq_cell hb2 2
  have r3 := heap_eq_cell hb2 3
  have r4 := heap_eq_cell hb2 4
  have r5 := heap_eq_cell hb2 5
  have r6 := heap_eq_cell hb2 6
  have r7 := heap_eq_cell hb2 7
  have rl := lt_of_block hb2
  have hb5 := h16.ord 11 [2]
  simp only [List.filterMap_cons, List.filterMap_nil, List.getElem?_cons_zero, List.getElem?_cons_succ, List.drop_succ_cons, List.drop_zero, List.cons_append, List.nil_append] at hb5
  have hb5 := hb5.blk
  rw [zd1n] at hb5
  have q0 := heap_eq_cell hb5 0
  have q1 := heap_eq_cell hb5 1
  have ql := lt_of_block hb5
  clear h16 HEM hff hfg hpop hone hsb e0 e1 e2 e3 i0 i1 i2 i3
  go_wp2_with fail
  refine (HSM.out _ (Fr.refl _ _)).mono ?_
  rintro e w15 ⟨rfl, hf15⟩
  have q0' := (hf15.cell (p := ⟨x15, 0, none⟩) ql (by simp)).trans q0
  have q1' := (hf15.cell (p := ⟨x15, 1, none⟩) ql (by simp)).trans q1
  have a0' := (hf15.cell (p := ⟨x8, 0, none⟩) al (by simp)).trans a0
  have a1'' := (hf15.cell (p := ⟨x8, 1, none⟩) al (by simp)).trans a1'
  have Hf15 := Lib.hid hf15
  have hlx : x8 < w15.heap.size := by
    have := hf15.size; omega
  have hlq : x15 < w15.heap.size := by
    have := hf15.size; omega
  clear r0 r1 r2 r3 r4 r5 r6 r7 rl a0 a1' al b0 b1 bl q0 q1 ql hf15
  go_wp2_with fail
  refine (HCM.out _ (by have := Hf15.out; (repeat (first | exact Fr.refl _ _ | assumption | apply Fr.drewN | apply Fr.drew | apply Fr.alloc | refine Fr.setCell ?_ (Or.inr (by simp; try omega)) _)))).mono ?_
  rintro e w16 ⟨rfl, hf16⟩
  have Hf16 := Lib.hid (Hf15.out.trans0 hf16)
  clear hf16 q0' q1' a0' a1''
  simp only [show cmpI ((1 : Nat) : Int) ((1 : Nat) : Int) = 0 from rfl]
  go_wp2_with fail
  refine (HSP.out _ Hf16.out).mono ?_
  rintro e w17 ⟨rfl, hf17⟩
  have Hf17 := Lib.hid (Hf16.out.trans0 hf17)
  clear hf17
  simp only [show decide (awP = awP) = true from by decide]
  go_wp2
  go_ret
  exact ⟨rfl, HFR.out.trans0 Hf17.out⟩
end Go.Proofs.Ytdanghnadbkhfaa
end

section
/- What From, Pattern and Population answer on a fresh store. -/
namespace Go.Proofs.Ytdanghnadbkhfaa
open Go Go.RowKit Go.Proofs.Rg Go.Proofs.Mp Go.Proofs.Hp Go.Proofs.Qs Go.Proofs.Ev Go.Proofs.Bn Go.Proofs.Pt
set_option linter.unusedVariables false
set_option linter.unusedSimpArgs false
theorem in_spot {p : List PC} {x y : Int} {L : Nat} (h : p.all (inC x y L) = true) : ∀ c ∈ p, (x ≤ c.x ∧ c.x - x < ((2 ^ L : Nat) : Int)) ∧ y ≤ c.y ∧ c.y - y < ((2 ^ L : Nat) : Int) := by
  intro c hc
  have := List.all_eq_true.1 h c hc
  simpa only [inC, inB, Bool.and_eq_true, decide_eq_true_eq] using this
theorem okS_spot {p : List PC} (hr : rightP p = true) {x y : Int} {L : Nat} (h : p.all (inC x y L) = true) {s : Int} (hs : ∀ c ∈ p, c.st < s) : OkS s L (p.map (spot x y)) where
  inside c hc := by
    obtain ⟨d, hd, rfl⟩ := List.mem_map.1 hc
    obtain ⟨⟨h1, h2⟩, h3, h4⟩ := in_spot h d hd
    refine ⟨?_, ?_⟩ <;> (show Int.toNat _ < 2 ^ L; omega)
  state c hc := by
    obtain ⟨d, hd, rfl⟩ := List.mem_map.1 hc
    exact ⟨((right_cell hr).2 d hd).2.2.1, hs d hd⟩
  apart := by
    have hp : p.Pairwise fun a b => pBef a b = true := by
      unfold rightP at hr
      simp only [Bool.and_eq_true] at hr
      exact strict_pair hr.2.2
    rw [List.pairwise_map]
    refine List.Pairwise.imp_of_mem ?_ hp
    intro a b ha hb hab he
    obtain ⟨⟨h1, h2⟩, h3, h4⟩ := in_spot h a ha
    obtain ⟨⟨g1, g2⟩, g3, g4⟩ := in_spot h b hb
    simp only [spot] at he
    simp only [pBef, decide_eq_true_eq] at hab
    omega
theorem shC_spot {p : List PC} {x y : Int} {L : Nat} (h : p.all (inC x y L) = true) : shC x y ((p.map (spot x y)).map (movS 0 0)) = p := by
  unfold shC
  rw [List.map_map, List.map_map]
  conv => rhs; rw [← List.map_id p]
  apply List.map_congr_left
  intro c hc
  obtain ⟨⟨h1, h2⟩, h3, h4⟩ := in_spot h c hc
  show PC.mk (x + ((0 + (c.x - x).toNat : Nat) : Int)) (y + ((0 + (c.y - y).toNat : Nat) : Int)) c.st = c
  cases c
  simp only [PC.mk.injEq, and_true] at *
  omega
structure RetOk (p : List PC) (x y level : Int) (id : Int) (ms : List K4) : Prop where
  from_ : fromQ 8 [] p x y level = ((id, 0), ms)
  good : GoodQ 8 ms
  level_ : lvl 8 (levs 8 ms) id = level
  pat : patQ 8 ms id x y = (p, 0)
  pop : popQ 8 ms id = p.length
  kn : knownQ 8 ms id = 0
theorem returns_ok {p : List PC} (hr : rightP p = true) (hl : p.length ≤ 60) {x y level : Int} (h40 : level ≤ 40) :
    (level < 0 ∧ fromQ 8 [] p x y level = ((0, 18), [])) ∨ fromQ 8 [] p x y level = ((0, 5), []) ∨ ∃ id ms, RetOk p x y level id ms := by
  by_cases h0 : level < 0
  · refine .inl ⟨h0, ?_⟩
    unfold fromQ
    rw [if_neg (by rw [hr]; simp), if_pos (.inl h0)]
  obtain ⟨L, rfl⟩ := Int.eq_ofNat_of_zero_le (show 0 ≤ level by omega)
  by_cases hin : p.all (inC x y L) = false
  · refine .inr (.inl ?_)
    unfold fromQ
    rw [if_neg (by rw [hr]; simp), if_neg (by omega), Int.toNat_natCast, if_pos hin]
  refine .inr (.inr ?_)
  have hin' : p.all (inC x y L) = true := by simpa using hin
  have hst : ∀ c ∈ p, c.st < 8 := fun c hc => ((right_cell hr).2 c hc).2.2.2
  have hsb : p.all (stB 8) = true := by
    rw [List.all_eq_true]
    intro c hc
    have := (right_cell hr).2 c hc
    simp only [stB, decide_eq_true_eq]
    omega
  have ho := okS_spot hr hin' hst
  have hroom : room 8 [] (emptiesT L ++ newT L (p.map (spot x y))) := by
    apply room.of_len
    have h1 := newT_len L (p.map (spot x y))
    have h2 : (emptiesT L).length = L := by simp [emptiesT]
    rw [List.length_map] at h1
    have h3 : p.length * L ≤ 60 * 40 := Nat.mul_le_mul hl (by omega)
    rw [List.length_append, h2, List.length_nil]
    omega
  obtain ⟨id, ms, hb, hg, _, _, hi⟩ := buildQ_room (GoodQ.nil (by decide) (by decide)) hroom (by omega) ho (fun i hi => by
    rw [List.mem_append]
    exact .inl (List.mem_map.2 ⟨i, List.mem_range.2 hi, rfl⟩)) (fun u hu => by rw [List.mem_append]; exact .inr hu)
  have hlv := hi.lvl hg
  have hpop : popT (tr 8 ms id) = p.length := by rw [hi.2.1, pop_treeOf ho, List.length_map]
  refine ⟨id, ms, ?_, hg, hlv, ?_, ?_, ?_⟩
  · unfold fromQ
    rw [if_neg (by rw [hr]; simp), if_neg (by omega), Int.toNat_natCast, if_neg hin, if_neg (by rw [hsb]; simp)]
    exact hb
  · unfold patQ
    rw [if_neg (by omega), hpop, if_neg (by omega), hi.2.1, full_ht L (treeOf_full _ _)]
    apply from_right hr
    have := (cells_treeOf (X := 0) (Y := 0) ho).map (fun c : Spot => PC.mk (x + c.x) (y + c.y) c.st)
    have hs := shC_spot hin'
    unfold shC at hs ⊢
    rw [hs] at this
    exact this
  · unfold popQ
    rw [if_neg (by omega), hpop]
  · unfold knownQ
    rw [if_neg (by omega)]
end Go.Proofs.Ytdanghnadbkhfaa
end
