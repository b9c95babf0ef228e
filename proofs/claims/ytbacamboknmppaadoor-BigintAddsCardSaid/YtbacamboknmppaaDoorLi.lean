/- BigintAdds: the walk. -/
import Derived.Test.YtbacamboknmppaaDoorLb
import Derived.Test.YtbacamboknmppaaDoorLd
import Derived.Test.YtbacamboknmppaaDoorKf
import Derived.Test.YtbacamboknmppaaDoorKg
import Derived.Test.YtbacamboknmppaaDoorKh
import Derived.Deep.DeepCutAuto
namespace Go.Proofs.YtbacamboknmppaaDoor
open Go Go.RowKit Go.Proofs.Rg Go.Proofs.Hp Go.Proofs.Bn
set_option linter.unusedVariables false
set_option linter.unusedSimpArgs false
set_option maxHeartbeats 16000000 in
set_option maxRecDepth 100000 in
theorem Adds_calls {w : World} {na nb : Bool} {da db : List Nat} {a b : Option Addr} {ac bc : Nat} (ha : Reads w (.slice a da.length ac) da.length 1 (u32s da)) (hb : Reads w (.slice b db.length bc) db.length 1 (u32s db)) (hDa : Dig 4294967296 da) (hDb : Dig 4294967296 db) (hz : a = none → ac = 0) :
    Calls Tryd.prog 9 #[.agg #[.bool na, .slice a da.length ac], .agg #[.bool nb, .slice b db.length bc]] w fun e w' => e = .returned (.bool true) ∧ Fr [] w w' := by
  have HA := Lib.hid ha
  have HB := Lib.hid hb
  have HDa := Lib.hid hDa
  have HDb := Lib.hid hDb
  have Hz := Lib.hid (show ∀ n c, (Value.slice a da.length ac) = .slice none n c → c = 0 from fun n c h => by cases h; exact hz rfl)
  clear hDa hDb ha hb hz
  by_cases hla : da.length ≤ 100
  · have hd1 : decide (da.length ≤ 100) = true := by simpa using hla
    by_cases hlb : db.length ≤ 100
    · have hd2 : decide (db.length ≤ 100) = true := by simpa using hlb
      go_enter Tryd.func9, Tryd.ntmps9
      go_wp2_with fail
      refine short_calls.mono ?_
      rintro e w1 ⟨rfl, hf⟩
      have ha_ := (hf.block (w.heap.size) (by first | (simp; done) | (simp; omega)) (by simp)).trans (show _ = some (.cells #[.bool na, .slice a da.length ac] 24 (0, 0)) by (repeat (first | rw [if_pos (by omega)] | rw [if_neg (by omega)] | rw [hp_drew] | rw [hp_drewN] | rw [hp_alloc_size] | rw [hp_setCell_size] | rw [hp_alloc] | rw [hp_setCell] | rw [Option.map_some] | rw [upd_cells] | rw [List.set_cons_zero] | rw [List.set_cons_succ] | rfl)))
      have a0 := heap_eq_cell ha_ 0
      have a1 := heap_eq_cell ha_ 1
      have al := lt_of_block ha_
      have Ha := Lib.hid ha_
      clear ha_
      have hb_ := (hf.block (w.heap.size + 1) (by first | (simp; done) | (simp; omega)) (by simp)).trans (show _ = some (.cells #[.bool nb, .slice b db.length bc] 24 (0, 0)) by (repeat (first | rw [if_pos (by omega)] | rw [if_neg (by omega)] | rw [hp_drew] | rw [hp_drewN] | rw [hp_alloc_size] | rw [hp_setCell_size] | rw [hp_alloc] | rw [hp_setCell] | rw [Option.map_some] | rw [upd_cells] | rw [List.set_cons_zero] | rw [List.set_cons_succ] | rfl)))
      have b0 := heap_eq_cell hb_ 0
      have b1 := heap_eq_cell hb_ 1
      have bl := lt_of_block hb_
      have Hb := Lib.hid hb_
      clear hb_
      have hf01 : Fr [] w w1 := Fr.trans0 (by (repeat (first | exact Fr.refl _ _ | assumption | apply Fr.drewN | apply Fr.drew | apply Fr.alloc | refine Fr.setCell ?_ (Or.inr (by simp; try omega)) _))) hf
      have Hf := Lib.hid hf01
      have HA := Lib.hid (HA.out.fr hf01)
      have HB := Lib.hid (HB.out.fr hf01)
      clear hf hf01
      rw [hd1]
      go_wp2_with fail
      refine short_calls.mono ?_
      rintro e w2 ⟨rfl, hf⟩
      rw [hd2]
      have hfk : Fr [] w1 w2 := Fr.trans0 (by (repeat (first | exact Fr.refl _ _ | assumption | apply Fr.drewN | apply Fr.drew | apply Fr.alloc | refine Fr.setCell ?_ (Or.inr (by simp; try omega)) _))) hf
      (try clear a0)
      (try clear a1)
      (try clear al)
      have ha_ := (hfk.block _ (lt_of_block Ha.out) (by simp)).trans Ha.out
      clear Ha
      have a0 := heap_eq_cell ha_ 0
      have a1 := heap_eq_cell ha_ 1
      have al := lt_of_block ha_
      have Ha := Lib.hid ha_
      clear ha_
      (try clear b0)
      (try clear b1)
      (try clear bl)
      have hb_ := (hfk.block _ (lt_of_block Hb.out) (by simp)).trans Hb.out
      clear Hb
      have b0 := heap_eq_cell hb_ 0
      have b1 := heap_eq_cell hb_ 1
      have bl := lt_of_block hb_
      have Hb := Lib.hid hb_
      clear hb_
      have Hf := Lib.hid (Hf.out.trans0 hfk)
      have HA := Lib.hid (HA.out.fr hfk)
      have HB := Lib.hid (HB.out.fr hfk)
      clear hf hfk hd1 hd2
      obtain ⟨hrD, hrL⟩ := addS_dig na nb da db
      obtain ⟨hgD, hgL⟩ := negS_dig na da
      have han := add_neg (na := na) HDa.out
      obtain ⟨r, hS⟩ : ∃ r, addS na da nb db = r := ⟨_, rfl⟩
      obtain ⟨g, hG⟩ : ∃ g, negS na da = g := ⟨_, rfl⟩
      have hS2 : addS nb db na da = r := by rw [addS_comm]; exact hS
      rw [hS] at hrD hrL
      rw [hG] at hgD hgL han
      have HM := Lib.hid (fun w1 (hf : Fr [] w2 w1) => hS ▸ Add_calls (na := na) (nb := nb) (HA.out.fr hf) (HB.out.fr hf) HDa.out HDb.out (by omega) (by omega))
      have HM2 := Lib.hid (fun w1 (hf : Fr [] w2 w1) => hS2 ▸ Add_calls (na := nb) (nb := na) (HB.out.fr hf) (HA.out.fr hf) HDb.out HDa.out (by omega) (by omega))
      have HR := Lib.hid (fun w1 (hf : Fr [] w2 w1) => hS ▸ RAdd_calls (na := na) (nb := nb) (HA.out.fr hf) (HB.out.fr hf) HDa.out HDb.out (by omega) (by omega))
      have HC := Lib.hid (fun w1 (hf : Fr [] w2 w1) => Compare_calls (na := na) (nb := nb) (HA.out.fr hf) (HB.out.fr hf) HDa.out HDb.out (by omega) (by omega))
      have HRC := Lib.hid (fun w1 (hf : Fr [] w2 w1) => RCompare_calls (na := na) (nb := nb) (HA.out.fr hf) (HB.out.fr hf) HDa.out HDb.out (by omega) (by omega))
      have HN := Lib.hid (fun w1 (hf : Fr [] w2 w1) => hG ▸ Neg_calls (na := na) (HA.out.fr hf) Hz.out HDa.out (by omega))
      have HRN := Lib.hid (fun w1 (hf : Fr [] w2 w1) => hG ▸ RNeg_calls (na := na) (HA.out.fr hf) HDa.out (by omega))
      have HRR := Lib.hid (fun w1 (hf : Fr [] w2 w1) => RRight_calls (neg := na) (HA.out.fr hf) (by omega))
      clear hS hS2 hG
      generalize cmpS na da nb db = cmp at HC HRC
      generalize hrb : RightB na da = rb at HRR han
      have Hrb := Lib.hid hrb
      clear hrb
      generalize hq : (if rb = true then (0 : Int) else 2) = q at han
      have Hq := Lib.hid hq
      clear hq
      obtain ⟨r1, r2, r3⟩ := r
      obtain ⟨g1, g2, g3⟩ := g
      simp only at hrD hrL hgD hgL han
      have HrL := Lib.hid hrL
      have HgL := Lib.hid hgL
      have HgD := Lib.hid hgD
      have Han := Lib.hid han
      clear hrD hrL hgD hgL han
      have H2 := Lib.hid (Fr.refl [] w2)
      go_wp2_with fail
      refine (HM.out _ (by have := H2.out; (repeat (first | exact Fr.refl _ _ | assumption | apply Fr.drewN | apply Fr.drew | apply Fr.alloc | refine Fr.setCell ?_ (Or.inr (by simp; try omega)) _)))).mono ?_
      rintro e w3 ⟨xa, xc, hlo, rfl, hr, hf⟩
      have hfk : Fr [] w2 w3 := Fr.trans0 (by (repeat (first | exact Fr.refl _ _ | assumption | apply Fr.drewN | apply Fr.drew | apply Fr.alloc | refine Fr.setCell ?_ (Or.inr (by simp; try omega)) _))) hf
      (try clear a0)
      (try clear a1)
      (try clear al)
      have ha_ := (hfk.block _ (lt_of_block Ha.out) (by simp)).trans Ha.out
      clear Ha
      have a0 := heap_eq_cell ha_ 0
      have a1 := heap_eq_cell ha_ 1
      have al := lt_of_block ha_
      have Ha := Lib.hid ha_
      clear ha_
      (try clear b0)
      (try clear b1)
      (try clear bl)
      have hb_ := (hfk.block _ (lt_of_block Hb.out) (by simp)).trans Hb.out
      clear Hb
      have b0 := heap_eq_cell hb_ 0
      have b1 := heap_eq_cell hb_ 1
      have bl := lt_of_block hb_
      have Hb := Lib.hid hb_
      clear hb_
      have Hf := Lib.hid (Hf.out.trans0 hfk)
      have H2 := Lib.hid (H2.out.trans0 hfk)
      have HX := Lib.hid hr
      clear hf hfk hr hlo
      go_wp2_with fail
      refine (HR.out _ (by have := H2.out; (repeat (first | exact Fr.refl _ _ | assumption | apply Fr.drewN | apply Fr.drew | apply Fr.alloc | refine Fr.setCell ?_ (Or.inr (by simp; try omega)) _)))).mono ?_
      rintro e w4 ⟨ya, yc, hlo, rfl, hr, hf⟩
      have hx_ := (hf.block (w3.heap.size) (by first | (simp; done) | (simp; omega)) (by simp)).trans (show _ = some (.cells #[.bool r1, .slice xa r2.length xc] 24 (0, 0)) by (repeat (first | rw [if_pos (by omega)] | rw [if_neg (by omega)] | rw [hp_drew] | rw [hp_drewN] | rw [hp_alloc_size] | rw [hp_setCell_size] | rw [hp_alloc] | rw [hp_setCell] | rw [Option.map_some] | rw [upd_cells] | rw [List.set_cons_zero] | rw [List.set_cons_succ] | rfl)))
      have x0 := heap_eq_cell hx_ 0
      have x1 := heap_eq_cell hx_ 1
      have xl := lt_of_block hx_
      have Hx := Lib.hid hx_
      clear hx_
      have hfk : Fr [] w3 w4 := Fr.trans0 (by (repeat (first | exact Fr.refl _ _ | assumption | apply Fr.drewN | apply Fr.drew | apply Fr.alloc | refine Fr.setCell ?_ (Or.inr (by simp; try omega)) _))) hf
      (try clear a0)
      (try clear a1)
      (try clear al)
      have ha_ := (hfk.block _ (lt_of_block Ha.out) (by simp)).trans Ha.out
      clear Ha
      have a0 := heap_eq_cell ha_ 0
      have a1 := heap_eq_cell ha_ 1
      have al := lt_of_block ha_
      have Ha := Lib.hid ha_
      clear ha_
      (try clear b0)
      (try clear b1)
      (try clear bl)
      have hb_ := (hfk.block _ (lt_of_block Hb.out) (by simp)).trans Hb.out
      clear Hb
      have b0 := heap_eq_cell hb_ 0
      have b1 := heap_eq_cell hb_ 1
      have bl := lt_of_block hb_
      have Hb := Lib.hid hb_
      clear hb_
      have Hf := Lib.hid (Hf.out.trans0 hfk)
      have HX := Lib.hid (HX.out.fr hfk)
      have H2 := Lib.hid (H2.out.trans0 hfk)
      have HY := Lib.hid hr
      clear hf hfk hr hlo
      go_wp2_with fail
      refine (HM2.out _ (by have := H2.out; (repeat (first | exact Fr.refl _ _ | assumption | apply Fr.drewN | apply Fr.drew | apply Fr.alloc | refine Fr.setCell ?_ (Or.inr (by simp; try omega)) _)))).mono ?_
      rintro e w5 ⟨za, zc, hlo, rfl, hr, hf⟩
      have hy_ := (hf.block (w4.heap.size) (by first | (simp; done) | (simp; omega)) (by simp)).trans (show _ = some (.cells #[.bool r1, .slice ya r2.length yc] 24 (0, 0)) by (repeat (first | rw [if_pos (by omega)] | rw [if_neg (by omega)] | rw [hp_drew] | rw [hp_drewN] | rw [hp_alloc_size] | rw [hp_setCell_size] | rw [hp_alloc] | rw [hp_setCell] | rw [Option.map_some] | rw [upd_cells] | rw [List.set_cons_zero] | rw [List.set_cons_succ] | rfl)))
      have y0 := heap_eq_cell hy_ 0
      have y1 := heap_eq_cell hy_ 1
      have yl := lt_of_block hy_
      have Hy := Lib.hid hy_
      clear hy_
      have hfk : Fr [] w4 w5 := Fr.trans0 (by (repeat (first | exact Fr.refl _ _ | assumption | apply Fr.drewN | apply Fr.drew | apply Fr.alloc | refine Fr.setCell ?_ (Or.inr (by simp; try omega)) _))) hf
      (try clear x0)
      (try clear x1)
      (try clear xl)
      have hx_ := (hfk.block _ (lt_of_block Hx.out) (by simp)).trans Hx.out
      clear Hx
      have x0 := heap_eq_cell hx_ 0
      have x1 := heap_eq_cell hx_ 1
      have xl := lt_of_block hx_
      have Hx := Lib.hid hx_
      clear hx_
      (try clear a0)
      (try clear a1)
      (try clear al)
      have ha_ := (hfk.block _ (lt_of_block Ha.out) (by simp)).trans Ha.out
      clear Ha
      have a0 := heap_eq_cell ha_ 0
      have a1 := heap_eq_cell ha_ 1
      have al := lt_of_block ha_
      have Ha := Lib.hid ha_
      clear ha_
      (try clear b0)
      (try clear b1)
      (try clear bl)
      have hb_ := (hfk.block _ (lt_of_block Hb.out) (by simp)).trans Hb.out
      clear Hb
      have b0 := heap_eq_cell hb_ 0
      have b1 := heap_eq_cell hb_ 1
      have bl := lt_of_block hb_
      have Hb := Lib.hid hb_
      clear hb_
      have Hf := Lib.hid (Hf.out.trans0 hfk)
      have HX := Lib.hid (HX.out.fr hfk)
      have HY := Lib.hid (HY.out.fr hfk)
      have H2 := Lib.hid (H2.out.trans0 hfk)
      have HZ := Lib.hid hr
      clear hf hfk hr hlo
      go_wp2_with fail
      refine wp_region_segs [([0, 1, 2, 3, 4, 5, 6, 7, 8, 9, 10, 11, 12, 13, 14, 15, 16, 17, 18, 19, 20, 21, 22, 24, 25, 23], [24, 25]), ([26, 27, 28, 29, 30, 32, 31], [32]), ([33, 34, 35, 36], [])] (by kernel_rfl) (by kernel_rfl) ?_
      (simp only [wpSegs, pick, Array.getD_eq_getD_getElem?, List.getElem?_toArray, List.getElem?_cons_succ, List.getElem?_cons_zero, Option.getD_some])
      go_wp2_with fail
      refine (Same_calls (HX.out.fr (by (repeat (first | exact Fr.refl _ _ | assumption | apply Fr.drewN | apply Fr.drew | apply Fr.alloc | refine Fr.setCell ?_ (Or.inr (by simp; try omega)) _)))) (HY.out.fr (by (repeat (first | exact Fr.refl _ _ | assumption | apply Fr.drewN | apply Fr.drew | apply Fr.alloc | refine Fr.setCell ?_ (Or.inr (by simp; try omega)) _)))) (by have := HrL.out; omega) (by have := HrL.out; omega)).mono ?_
      rintro e w6 ⟨rfl, hf⟩
      rw [same_self]
      have hz_ := (hf.block (w5.heap.size) (by first | (simp; done) | (simp; omega)) (by simp)).trans (show _ = some (.cells #[.bool r1, .slice za r2.length zc] 24 (0, 0)) by (repeat (first | rw [if_pos (by omega)] | rw [if_neg (by omega)] | rw [hp_drew] | rw [hp_drewN] | rw [hp_alloc_size] | rw [hp_setCell_size] | rw [hp_alloc] | rw [hp_setCell] | rw [Option.map_some] | rw [upd_cells] | rw [List.set_cons_zero] | rw [List.set_cons_succ] | rfl)))
      have z0 := heap_eq_cell hz_ 0
      have z1 := heap_eq_cell hz_ 1
      have zl := lt_of_block hz_
      have Hz := Lib.hid hz_
      clear hz_
      have hfk : Fr [] w5 w6 := Fr.trans0 (by (repeat (first | exact Fr.refl _ _ | assumption | apply Fr.drewN | apply Fr.drew | apply Fr.alloc | refine Fr.setCell ?_ (Or.inr (by simp; try omega)) _))) hf
      (try clear x0)
      (try clear x1)
      (try clear xl)
      have hx_ := (hfk.block _ (lt_of_block Hx.out) (by simp)).trans Hx.out
      clear Hx
      have x0 := heap_eq_cell hx_ 0
      have x1 := heap_eq_cell hx_ 1
      have xl := lt_of_block hx_
      have Hx := Lib.hid hx_
      clear hx_
      (try clear a0)
      (try clear a1)
      (try clear al)
      have ha_ := (hfk.block _ (lt_of_block Ha.out) (by simp)).trans Ha.out
      clear Ha
      have a0 := heap_eq_cell ha_ 0
      have a1 := heap_eq_cell ha_ 1
      have al := lt_of_block ha_
      have Ha := Lib.hid ha_
      clear ha_
      (try clear b0)
      (try clear b1)
      (try clear bl)
      have hb_ := (hfk.block _ (lt_of_block Hb.out) (by simp)).trans Hb.out
      clear Hb
      have b0 := heap_eq_cell hb_ 0
      have b1 := heap_eq_cell hb_ 1
      have bl := lt_of_block hb_
      have Hb := Lib.hid hb_
      clear hb_
      have Hf := Lib.hid (Hf.out.trans0 hfk)
      have HX := Lib.hid (HX.out.fr hfk)
      have HZ := Lib.hid (HZ.out.fr hfk)
      have H2 := Lib.hid (H2.out.trans0 hfk)
      clear hf hfk
      go_wp2_with fail
      refine (Same_calls (HX.out.fr (by (repeat (first | exact Fr.refl _ _ | assumption | apply Fr.drewN | apply Fr.drew | apply Fr.alloc | refine Fr.setCell ?_ (Or.inr (by simp; try omega)) _)))) (HZ.out.fr (by (repeat (first | exact Fr.refl _ _ | assumption | apply Fr.drewN | apply Fr.drew | apply Fr.alloc | refine Fr.setCell ?_ (Or.inr (by simp; try omega)) _)))) (by have := HrL.out; omega) (by have := HrL.out; omega)).mono ?_
      rintro e w7 ⟨rfl, hf⟩
      rw [same_self]
      have hfk : Fr [] w6 w7 := Fr.trans0 (by (repeat (first | exact Fr.refl _ _ | assumption | apply Fr.drewN | apply Fr.drew | apply Fr.alloc | refine Fr.setCell ?_ (Or.inr (by simp; try omega)) _))) hf
      (try clear a0)
      (try clear a1)
      (try clear al)
      have ha_ := (hfk.block _ (lt_of_block Ha.out) (by simp)).trans Ha.out
      clear Ha
      have a0 := heap_eq_cell ha_ 0
      have a1 := heap_eq_cell ha_ 1
      have al := lt_of_block ha_
      have Ha := Lib.hid ha_
      clear ha_
      (try clear b0)
      (try clear b1)
      (try clear bl)
      have hb_ := (hfk.block _ (lt_of_block Hb.out) (by simp)).trans Hb.out
      clear Hb
      have b0 := heap_eq_cell hb_ 0
      have b1 := heap_eq_cell hb_ 1
      have bl := lt_of_block hb_
      have Hb := Lib.hid hb_
      clear hb_
      have Hf := Lib.hid (Hf.out.trans0 hfk)
      have H2 := Lib.hid (H2.out.trans0 hfk)
      clear hf hfk
      go_wp2_with fail
      refine (HC.out _ (by have := H2.out; (repeat (first | exact Fr.refl _ _ | assumption | apply Fr.drewN | apply Fr.drew | apply Fr.alloc | refine Fr.setCell ?_ (Or.inr (by simp; try omega)) _)))).mono ?_
      rintro e w8 ⟨rfl, hf⟩
      have hfk : Fr [] w7 w8 := Fr.trans0 (by (repeat (first | exact Fr.refl _ _ | assumption | apply Fr.drewN | apply Fr.drew | apply Fr.alloc | refine Fr.setCell ?_ (Or.inr (by simp; try omega)) _))) hf
      (try clear a0)
      (try clear a1)
      (try clear al)
      have ha_ := (hfk.block _ (lt_of_block Ha.out) (by simp)).trans Ha.out
      clear Ha
      have a0 := heap_eq_cell ha_ 0
      have a1 := heap_eq_cell ha_ 1
      have al := lt_of_block ha_
      have Ha := Lib.hid ha_
      clear ha_
      (try clear b0)
      (try clear b1)
      (try clear bl)
      have hb_ := (hfk.block _ (lt_of_block Hb.out) (by simp)).trans Hb.out
      clear Hb
      have b0 := heap_eq_cell hb_ 0
      have b1 := heap_eq_cell hb_ 1
      have bl := lt_of_block hb_
      have Hb := Lib.hid hb_
      clear hb_
      have Hf := Lib.hid (Hf.out.trans0 hfk)
      have H2 := Lib.hid (H2.out.trans0 hfk)
      clear hf hfk
      go_wp2
      refine Mid.intro ⟨⟨again_row (T := 24) (cs := [.bool na, .slice a da.length ac]) rfl rfl rfl Tryd.underlying24 rfl (by kernel_rfl) (fun j v hj => by rw [Nat.zero_add, heap_eq_cell Ha.out, ← hj]; exact (Array.getElem?_toList (xs := #[Value.bool na, .slice a da.length ac])).symm) rfl, ⟨again_row (T := 24) (cs := [.bool nb, .slice b db.length bc]) rfl rfl rfl Tryd.underlying24 rfl (by kernel_rfl) (fun j v hj => by rw [Nat.zero_add, heap_eq_cell Hb.out, ← hj]; exact (Array.getElem?_toList (xs := #[Value.bool nb, .slice b db.length bc])).symm) rfl, trivial⟩⟩, ?_⟩
      go_wp2_with fail
      refine (HRC.out _ (by have := H2.out; (repeat (first | exact Fr.refl _ _ | assumption | apply Fr.drewN | apply Fr.drew | apply Fr.alloc | refine Fr.setCell ?_ (Or.inr (by simp; try omega)) _)))).mono ?_
      rintro e w9 ⟨rfl, hf⟩
      have hfk : Fr [] w8 w9 := Fr.trans0 (by (repeat (first | exact Fr.refl _ _ | assumption | apply Fr.drewN | apply Fr.drew | apply Fr.alloc | refine Fr.setCell ?_ (Or.inr (by simp; try omega)) _))) hf
      (try clear a0)
      (try clear a1)
      (try clear al)
      have ha_ := (hfk.block _ (lt_of_block Ha.out) (by simp)).trans Ha.out
      clear Ha
      have a0 := heap_eq_cell ha_ 0
      have a1 := heap_eq_cell ha_ 1
      have al := lt_of_block ha_
      have Ha := Lib.hid ha_
      clear ha_
      have Hf := Lib.hid (Hf.out.trans0 hfk)
      have H2 := Lib.hid (H2.out.trans0 hfk)
      clear hf hfk
      (try clear b0 b1 bl)
      go_wp2_with fail
      refine (HN.out _ (by have := H2.out; (repeat (first | exact Fr.refl _ _ | assumption | apply Fr.drewN | apply Fr.drew | apply Fr.alloc | refine Fr.setCell ?_ (Or.inr (by simp; try omega)) _)))).mono ?_
      rintro e w10 ⟨ua, uc, hlo, rfl, hr, hf⟩
      have hfk : Fr [] w9 w10 := Fr.trans0 (by (repeat (first | exact Fr.refl _ _ | assumption | apply Fr.drewN | apply Fr.drew | apply Fr.alloc | refine Fr.setCell ?_ (Or.inr (by simp; try omega)) _))) hf
      (try clear a0)
      (try clear a1)
      (try clear al)
      have ha_ := (hfk.block _ (lt_of_block Ha.out) (by simp)).trans Ha.out
      clear Ha
      have a0 := heap_eq_cell ha_ 0
      have a1 := heap_eq_cell ha_ 1
      have al := lt_of_block ha_
      have Ha := Lib.hid ha_
      clear ha_
      have Hf := Lib.hid (Hf.out.trans0 hfk)
      have H2 := Lib.hid (H2.out.trans0 hfk)
      have HU := Lib.hid hr
      clear hf hfk hr hlo
      go_wp2
      refine Mid.intro ⟨⟨again_row (T := 24) (cs := [.bool na, .slice a da.length ac]) rfl rfl rfl Tryd.underlying24 rfl (by kernel_rfl) (fun j v hj => by rw [Nat.zero_add, heap_eq_cell Ha.out, ← hj]; exact (Array.getElem?_toList (xs := #[Value.bool na, .slice a da.length ac])).symm) rfl, trivial⟩, ?_⟩
      go_wp2_with fail
      refine (HRN.out _ (by have := H2.out; (repeat (first | exact Fr.refl _ _ | assumption | apply Fr.drewN | apply Fr.drew | apply Fr.alloc | refine Fr.setCell ?_ (Or.inr (by simp; try omega)) _)))).mono ?_
      rintro e w11 ⟨va, vc, hlo, rfl, hr, hf⟩
      have hfk : Fr [] w10 w11 := Fr.trans0 (by (repeat (first | exact Fr.refl _ _ | assumption | apply Fr.drewN | apply Fr.drew | apply Fr.alloc | refine Fr.setCell ?_ (Or.inr (by simp; try omega)) _))) hf
      (try clear a0)
      (try clear a1)
      (try clear al)
      have ha_ := (hfk.block _ (lt_of_block Ha.out) (by simp)).trans Ha.out
      clear Ha
      have a0 := heap_eq_cell ha_ 0
      have a1 := heap_eq_cell ha_ 1
      have al := lt_of_block ha_
      have Ha := Lib.hid ha_
      clear ha_
      have Hf := Lib.hid (Hf.out.trans0 hfk)
      have H2 := Lib.hid (H2.out.trans0 hfk)
      have HU := Lib.hid (HU.out.fr hfk)
      have HV := Lib.hid hr
      clear hf hfk hr hlo
      go_wp2_with fail
      refine (Same_calls (HU.out.fr (by (repeat (first | exact Fr.refl _ _ | assumption | apply Fr.drewN | apply Fr.drew | apply Fr.alloc | refine Fr.setCell ?_ (Or.inr (by simp; try omega)) _)))) (HV.out.fr (by (repeat (first | exact Fr.refl _ _ | assumption | apply Fr.drewN | apply Fr.drew | apply Fr.alloc | refine Fr.setCell ?_ (Or.inr (by simp; try omega)) _)))) (by have := HgL.out; omega) (by have := HgL.out; omega)).mono ?_
      rintro e w12 ⟨rfl, hf⟩
      rw [same_self]
      have hfk : Fr [] w11 w12 := Fr.trans0 (by (repeat (first | exact Fr.refl _ _ | assumption | apply Fr.drewN | apply Fr.drew | apply Fr.alloc | refine Fr.setCell ?_ (Or.inr (by simp; try omega)) _))) hf
      (try clear a0)
      (try clear a1)
      (try clear al)
      have ha_ := (hfk.block _ (lt_of_block Ha.out) (by simp)).trans Ha.out
      clear Ha
      have a0 := heap_eq_cell ha_ 0
      have a1 := heap_eq_cell ha_ 1
      have al := lt_of_block ha_
      have Ha := Lib.hid ha_
      clear ha_
      have Hf := Lib.hid (Hf.out.trans0 hfk)
      have H2 := Lib.hid (H2.out.trans0 hfk)
      clear hf hfk HU HV
      go_wp2
      refine Mid.intro ⟨trivial, Strict.intro rfl ?_⟩
      go_upto_region 8 with fail
      go_cut [11, 12] (fun s11 s12 wx => ∃ (g : Nat) (rp : Option Addr) (rc : Nat), s11 = .pointer (some ⟨g, 0, none⟩) ∧ s12 = .int .i64 q ∧ Hid (wx.heap[g]? = some (.cells #[.bool false, .slice rp 0 rc] 24 (0, 0))) ∧ Hid (Reads wx (.slice rp 0 rc) 0 1 []) ∧ Hid (Fr [] w12 wx))
      case first =>
        have HN12 := Lib.hid (fun w1 (hf : Fr [] w12 w1) => HN.out w1 (H2.out.trans0 hf))
        have HAd := Lib.hid (fun (w1 : World) (pa : Option Addr) (pc : Nat) (hr : Reads w1 (.slice pa g2.length pc) g2.length 1 (u32s g2)) (hf1 : Fr [] w12 w1) => Han.out ▸ Add_calls (na := na) (nb := g1) (HA.out.fr (H2.out.trans0 hf1)) hr HDa.out HgD.out (by omega) (by have := HgL.out; omega))
        have n10 := World.new_ne w12 _ a0
        have n11 := World.new_ne w12 _ a1
        go_region_held3 (fun w' => w'.cell? ⟨w.heap.size, 0, none⟩ = some (.bool na) ∧ w'.cell? ⟨w.heap.size, 1, none⟩ = some (.slice a da.length ac)) (first | go_keep | exact ⟨k20, k21⟩ | exact ⟨k30, k31⟩)
            (first | (go_at_call 35; refine (HN12.out _ (by (repeat (first | exact Fr.refl _ _ | assumption | apply Fr.drewN | apply Fr.drew | apply Fr.alloc | refine Fr.setCell ?_ (Or.inl (by simp)) _)))).mono ?_; rintro e wA ⟨pa, pc, hlo5, rfl, hr5, hf0⟩; have h45 : Fr [] w12 wA := Fr.trans0 (by (repeat (first | exact Fr.refl _ _ | assumption | apply Fr.drewN | apply Fr.drew | apply Fr.alloc | refine Fr.setCell ?_ (Or.inl (by simp)) _))) hf0; have k20 := (h45.cell (p := ⟨w.heap.size, 0, none⟩) al (by simp)).trans a0; have k21 := (h45.cell (p := ⟨w.heap.size, 1, none⟩) al (by simp)).trans a1; have n20 := World.new_ne wA _ k20; have n21 := World.new_ne wA _ k21; obtain ⟨c5, z5⟩ := frcell hf0; (try (have s2 : w12.heap.size < wA.heap.size := by have h := hf0.size; simp at h; omega))) | (go_at_call 25; refine (HAd.out _ _ _ (hr5.fr ?_) ?_).mono ?_; (· (repeat (first | exact Fr.refl _ _ | assumption | apply Fr.drewN | apply Fr.drew | apply Fr.alloc | refine Fr.setCell ?_ (Or.inl (by simp)) _))); (· refine Fr.trans0 h45 ?_; (repeat (first | exact Fr.refl _ _ | assumption | apply Fr.drewN | apply Fr.drew | apply Fr.alloc | refine Fr.setCell ?_ (Or.inl (by simp)) _))); rintro e wB ⟨ra, rc, hlo6, rfl, hr6, hf6⟩; have h46 : Fr [] w12 wB := Fr.trans0 (Fr.trans0 h45 (by (repeat (first | exact Fr.refl _ _ | assumption | apply Fr.drewN | apply Fr.drew | apply Fr.alloc | refine Fr.setCell ?_ (Or.inl (by simp)) _)) : Fr [] wA _)) hf6; have k30 := (h46.cell (p := ⟨w.heap.size, 0, none⟩) al (by simp)).trans a0; have k31 := (h46.cell (p := ⟨w.heap.size, 1, none⟩) al (by simp)).trans a1; have n30 := World.new_ne wB _ k30; have n31 := World.new_ne wB _ k31; obtain ⟨c6, z6⟩ := frcell hf6; (try (have s3 : wA.heap.size < wB.heap.size := by have h := hf6.size; simp at h; omega)); (try (have s4 : w12.heap.size < wB.heap.size := by have h := hf6.size; simp at h; omega))))
        · have hC : Hid True := Lib.hid trivial
          have H46 := Lib.hid h46
          have Hr6 := Lib.hid hr6
          have Hlo6 := Lib.hid hlo6
          have Hsz := Lib.hid (And.intro h45.size hf6.size)
          have Hs45 := h45.size
          have Hs46 := h46.size
          clear h46 h45 hr6 hlo6 hf0 hf6 hr5 hlo5 n10 n11 n20 n21 n30 n31 k20 k21
          go_wp2_with fail
          go_meet
          refine ⟨wB.heap.size, ra, rc, rfl, rfl, Lib.hid ?_, Lib.hid ?_, Lib.hid ?_⟩
          · have hC1 := hC.out
            first
              | ((repeat (first | rw [if_pos (by omega)] | rw [if_neg (by omega)] | rw [hp_drew] | rw [hp_drewN] | rw [hp_alloc_size] | rw [hp_setCell_size] | rw [hp_alloc] | rw [hp_setCell] | rw [Option.map_some] | rw [upd_cells] | rw [List.set_cons_zero] | rw [List.set_cons_succ] | rfl)); done)
              | ((repeat (first | rw [if_pos (by omega)] | rw [if_neg (by omega)] | rw [hp_drew] | rw [hp_drewN] | rw [hp_alloc_size] | rw [hp_setCell_size] | rw [hp_alloc] | rw [hp_setCell] | rw [Option.map_some] | rw [upd_cells] | rw [List.set_cons_zero] | rw [List.set_cons_succ] | rfl)); rw [hC1]; (repeat (first | rw [if_pos (by omega)] | rw [if_neg (by omega)] | rw [hp_drew] | rw [hp_drewN] | rw [hp_alloc_size] | rw [hp_setCell_size] | rw [hp_alloc] | rw [hp_setCell] | rw [Option.map_some] | rw [upd_cells] | rw [List.set_cons_zero] | rw [List.set_cons_succ] | rfl)))
          · refine Hr6.out.keep fun x hx hl => ?_
            have hlx := Hlo6.out.2 x hx
            have hsz := Hsz.out
            (try simp at hlx)
            (try simp at hsz)
            repeat (first | rw [setCell_else _ _ _ (by simp; omega)] | rw [heap_alloc_else _ _ _ hl] | rw [heap_alloc_else _ _ _ (by simp; omega)])
          · have := H46.out
            repeat (first | exact this | refine Fr.alloc ?_ _ | refine Fr.setCell ?_ (.inr (by first | (simp; done) | (simp; omega))) _)
        · have hblk : wB.heap[wA.heap.size]? = some (.cells #[.bool false, .slice none 0 0] 24 (0, 0)) := (hf6.block wA.heap.size (by simp) (by simp)).trans (by (repeat (first | rw [if_pos (by omega)] | rw [if_neg (by omega)] | rw [hp_drew] | rw [hp_drewN] | rw [hp_alloc_size] | rw [hp_setCell_size] | rw [hp_alloc] | rw [hp_setCell] | rw [Option.map_some] | rw [upd_cells] | rw [List.set_cons_zero] | rw [List.set_cons_succ] | rfl)))
          have hC := Lib.hid hblk
          clear hblk
          have H46 := Lib.hid h46
          have Hr6 := Lib.hid hr6
          have Hlo6 := Lib.hid hlo6
          have Hsz := Lib.hid (And.intro h45.size hf6.size)
          have Hs45 := h45.size
          have Hs46 := h46.size
          clear h46 h45 hr6 hlo6 hf0 hf6 hr5 hlo5 n10 n11 n20 n21 n30 n31 k20 k21
          go_wp2_with fail
          go_meet
          refine ⟨wA.heap.size, ra, rc, rfl, rfl, Lib.hid ?_, Lib.hid ?_, Lib.hid ?_⟩
          · have hC1 := hC.out
            first
              | ((repeat (first | rw [if_pos (by omega)] | rw [if_neg (by omega)] | rw [hp_drew] | rw [hp_drewN] | rw [hp_alloc_size] | rw [hp_setCell_size] | rw [hp_alloc] | rw [hp_setCell] | rw [Option.map_some] | rw [upd_cells] | rw [List.set_cons_zero] | rw [List.set_cons_succ] | rfl)); done)
              | ((repeat (first | rw [if_pos (by omega)] | rw [if_neg (by omega)] | rw [hp_drew] | rw [hp_drewN] | rw [hp_alloc_size] | rw [hp_setCell_size] | rw [hp_alloc] | rw [hp_setCell] | rw [Option.map_some] | rw [upd_cells] | rw [List.set_cons_zero] | rw [List.set_cons_succ] | rfl)); rw [hC1]; (repeat (first | rw [if_pos (by omega)] | rw [if_neg (by omega)] | rw [hp_drew] | rw [hp_drewN] | rw [hp_alloc_size] | rw [hp_setCell_size] | rw [hp_alloc] | rw [hp_setCell] | rw [Option.map_some] | rw [upd_cells] | rw [List.set_cons_zero] | rw [List.set_cons_succ] | rfl)))
          · refine Hr6.out.keep fun x hx hl => ?_
            have hlx := Hlo6.out.2 x hx
            have hsz := Hsz.out
            (try simp at hlx)
            (try simp at hsz)
            repeat (first | rw [setCell_else _ _ _ (by simp; omega)] | rw [heap_alloc_else _ _ _ hl] | rw [heap_alloc_else _ _ _ (by simp; omega)])
          · have := H46.out
            repeat (first | exact this | refine Fr.alloc ?_ _ | refine Fr.setCell ?_ (.inr (by first | (simp; done) | (simp; omega))) _)
        · have hblk : wB.heap[w12.heap.size]? = some (.cells #[.bool false, .slice none 0 0] 24 (0, 0)) := (hf6.block w12.heap.size (by have h := hf0.size; simp at h; omega) (by simp)).trans ((hf0.block w12.heap.size (by simp) (by simp)).trans (by (repeat (first | rw [if_pos (by omega)] | rw [if_neg (by omega)] | rw [hp_drew] | rw [hp_drewN] | rw [hp_alloc_size] | rw [hp_setCell_size] | rw [hp_alloc] | rw [hp_setCell] | rw [Option.map_some] | rw [upd_cells] | rw [List.set_cons_zero] | rw [List.set_cons_succ] | rfl))))
          have hC := Lib.hid hblk
          clear hblk
          have H46 := Lib.hid h46
          have Hr6 := Lib.hid hr6
          have Hlo6 := Lib.hid hlo6
          have Hsz := Lib.hid (And.intro h45.size hf6.size)
          have Hs45 := h45.size
          have Hs46 := h46.size
          clear h46 h45 hr6 hlo6 hf0 hf6 hr5 hlo5 n10 n11 n20 n21 n30 n31 k20 k21
          go_wp2_with fail
          go_meet
          refine ⟨w12.heap.size, ra, rc, rfl, rfl, Lib.hid ?_, Lib.hid ?_, Lib.hid ?_⟩
          · have hC1 := hC.out
            first
              | ((repeat (first | rw [if_pos (by omega)] | rw [if_neg (by omega)] | rw [hp_drew] | rw [hp_drewN] | rw [hp_alloc_size] | rw [hp_setCell_size] | rw [hp_alloc] | rw [hp_setCell] | rw [Option.map_some] | rw [upd_cells] | rw [List.set_cons_zero] | rw [List.set_cons_succ] | rfl)); done)
              | ((repeat (first | rw [if_pos (by omega)] | rw [if_neg (by omega)] | rw [hp_drew] | rw [hp_drewN] | rw [hp_alloc_size] | rw [hp_setCell_size] | rw [hp_alloc] | rw [hp_setCell] | rw [Option.map_some] | rw [upd_cells] | rw [List.set_cons_zero] | rw [List.set_cons_succ] | rfl)); rw [hC1]; (repeat (first | rw [if_pos (by omega)] | rw [if_neg (by omega)] | rw [hp_drew] | rw [hp_drewN] | rw [hp_alloc_size] | rw [hp_setCell_size] | rw [hp_alloc] | rw [hp_setCell] | rw [Option.map_some] | rw [upd_cells] | rw [List.set_cons_zero] | rw [List.set_cons_succ] | rfl)))
          · refine Hr6.out.keep fun x hx hl => ?_
            have hlx := Hlo6.out.2 x hx
            have hsz := Hsz.out
            (try simp at hlx)
            (try simp at hsz)
            repeat (first | rw [setCell_else _ _ _ (by simp; omega)] | rw [heap_alloc_else _ _ _ hl] | rw [heap_alloc_else _ _ _ (by simp; omega)])
          · have := H46.out
            repeat (first | exact this | refine Fr.alloc ?_ _ | refine Fr.setCell ?_ (.inr (by first | (simp; done) | (simp; omega))) _)
      case rest =>
        obtain ⟨gb, sp, sc, rfl, rfl, HB, HRd, HF⟩ := hcut
        have hf := HF.out
        have hfk := hf
        (try clear a0)
        (try clear a1)
        (try clear al)
        have ha_ := (hfk.block _ (lt_of_block Ha.out) (by simp)).trans Ha.out
        clear Ha
        have a0 := heap_eq_cell ha_ 0
        have a1 := heap_eq_cell ha_ 1
        have al := lt_of_block ha_
        have Ha := Lib.hid ha_
        clear ha_
        have Hf := Lib.hid (Hf.out.trans0 hf)
        have H2 := Lib.hid (H2.out.trans0 hf)
        clear hf hfk
        have hB := HB.out
        have p0 := heap_eq_cell hB 0
        have p1 := heap_eq_cell hB 1
        have pl := lt_of_block hB
        clear hB
        have Hp := HB
        go_wp2_with fail
        refine (HRR.out _ (by have := H2.out; (repeat (first | exact Fr.refl _ _ | assumption | apply Fr.drewN | apply Fr.drew | apply Fr.alloc | refine Fr.setCell ?_ (Or.inr (by simp; try omega)) _)))).mono ?_
        rintro e w13 ⟨rfl, hf⟩
        have hfk : Fr [] wc w13 := Fr.trans0 (by (repeat (first | exact Fr.refl _ _ | assumption | apply Fr.drewN | apply Fr.drew | apply Fr.alloc | refine Fr.setCell ?_ (Or.inr (by simp; try omega)) _))) hf
        (try clear p0)
        (try clear p1)
        (try clear pl)
        have hp_ := (hfk.block _ (lt_of_block Hp.out) (by simp)).trans Hp.out
        clear Hp
        have p0 := heap_eq_cell hp_ 0
        have p1 := heap_eq_cell hp_ 1
        have pl := lt_of_block hp_
        have Hp := Lib.hid hp_
        clear hp_
        have Hf := Lib.hid (Hf.out.trans0 hfk)
        have HRd := Lib.hid (HRd.out.fr hfk)
        clear hf hfk
        have hq := Hq.out
        cases rb with
        | true =>
          obtain rfl : q = 0 := hq.symm
          clear hq
          go_wp2_with fail
          refine (Same_calls (da := []) (db := []) (HRd.out.fr (by (repeat (first | exact Fr.refl _ _ | assumption | apply Fr.drewN | apply Fr.drew | apply Fr.alloc | refine Fr.setCell ?_ (Or.inr (by simp; try omega)) _)))) (reads_nil _) (by decide) (by decide)).mono ?_
          rintro e w14 ⟨rfl, hf⟩
          have Hf := Lib.hid (Hf.out.trans0 (Fr.trans0 (by (repeat (first | exact Fr.refl _ _ | assumption | apply Fr.drewN | apply Fr.drew | apply Fr.alloc | refine Fr.setCell ?_ (Or.inr (by simp; try omega)) _))) hf))
          clear hf
          go_wp2_with fail
          refine (alive_calls _).mono ?_
          rintro e w9 ⟨rfl, hf⟩
          have Hf := Lib.hid (Hf.out.trans0 (Fr.trans0 (by (repeat (first | exact Fr.refl _ _ | assumption | apply Fr.drewN | apply Fr.drew | apply Fr.alloc | refine Fr.setCell ?_ (Or.inr (by simp; try omega)) _)) : Fr [] w14 _) hf))
          clear hf
          go_wp2
          go_ret
          exact ⟨rfl, Hf.out⟩
        | false =>
          obtain rfl : q = 2 := hq.symm
          clear hq
          go_wp2_with fail
          refine (Same_calls (da := []) (db := []) (HRd.out.fr (by (repeat (first | exact Fr.refl _ _ | assumption | apply Fr.drewN | apply Fr.drew | apply Fr.alloc | refine Fr.setCell ?_ (Or.inr (by simp; try omega)) _)))) (reads_nil _) (by decide) (by decide)).mono ?_
          rintro e w14 ⟨rfl, hf⟩
          have Hf := Lib.hid (Hf.out.trans0 (Fr.trans0 (by (repeat (first | exact Fr.refl _ _ | assumption | apply Fr.drewN | apply Fr.drew | apply Fr.alloc | refine Fr.setCell ?_ (Or.inr (by simp; try omega)) _))) hf))
          clear hf
          go_wp2_with fail
          refine (alive_calls _).mono ?_
          rintro e w9 ⟨rfl, hf⟩
          have Hf := Lib.hid (Hf.out.trans0 (Fr.trans0 (by (repeat (first | exact Fr.refl _ _ | assumption | apply Fr.drewN | apply Fr.drew | apply Fr.alloc | refine Fr.setCell ?_ (Or.inr (by simp; try omega)) _)) : Fr [] w14 _) hf))
          clear hf
          go_wp2
          go_ret
          exact ⟨rfl, Hf.out⟩
    · have hd2 : decide (db.length ≤ 100) = false := by simpa using hlb
      go_enter Tryd.func9, Tryd.ntmps9
      go_wp2_with fail
      refine short_calls.mono ?_
      rintro e w1 ⟨rfl, hf⟩
      have ha_ := (hf.block (w.heap.size) (by first | (simp; done) | (simp; omega)) (by simp)).trans (show _ = some (.cells #[.bool na, .slice a da.length ac] 24 (0, 0)) by (repeat (first | rw [if_pos (by omega)] | rw [if_neg (by omega)] | rw [hp_drew] | rw [hp_drewN] | rw [hp_alloc_size] | rw [hp_setCell_size] | rw [hp_alloc] | rw [hp_setCell] | rw [Option.map_some] | rw [upd_cells] | rw [List.set_cons_zero] | rw [List.set_cons_succ] | rfl)))
      have a0 := heap_eq_cell ha_ 0
      have a1 := heap_eq_cell ha_ 1
      have al := lt_of_block ha_
      have Ha := Lib.hid ha_
      clear ha_
      have hb_ := (hf.block (w.heap.size + 1) (by first | (simp; done) | (simp; omega)) (by simp)).trans (show _ = some (.cells #[.bool nb, .slice b db.length bc] 24 (0, 0)) by (repeat (first | rw [if_pos (by omega)] | rw [if_neg (by omega)] | rw [hp_drew] | rw [hp_drewN] | rw [hp_alloc_size] | rw [hp_setCell_size] | rw [hp_alloc] | rw [hp_setCell] | rw [Option.map_some] | rw [upd_cells] | rw [List.set_cons_zero] | rw [List.set_cons_succ] | rfl)))
      have b0 := heap_eq_cell hb_ 0
      have b1 := heap_eq_cell hb_ 1
      have bl := lt_of_block hb_
      have Hb := Lib.hid hb_
      clear hb_
      have hf01 : Fr [] w w1 := Fr.trans0 (by (repeat (first | exact Fr.refl _ _ | assumption | apply Fr.drewN | apply Fr.drew | apply Fr.alloc | refine Fr.setCell ?_ (Or.inr (by simp; try omega)) _))) hf
      have Hf := Lib.hid hf01
      have HA := Lib.hid (HA.out.fr hf01)
      have HB := Lib.hid (HB.out.fr hf01)
      clear hf hf01
      rw [hd1]
      go_wp2_with fail
      refine short_calls.mono ?_
      rintro e w2 ⟨rfl, hf⟩
      rw [hd2]
      have Hf := Lib.hid (Hf.out.trans0 (Fr.trans0 (by (repeat (first | exact Fr.refl _ _ | assumption | apply Fr.drewN | apply Fr.drew | apply Fr.alloc | refine Fr.setCell ?_ (Or.inr (by simp; try omega)) _)) : Fr [] w1 _) hf))
      clear hf
      go_wp2_with fail
      refine (alive_calls _).mono ?_
      rintro e w9 ⟨rfl, hf⟩
      have Hf := Lib.hid (Hf.out.trans0 (Fr.trans0 (by (repeat (first | exact Fr.refl _ _ | assumption | apply Fr.drewN | apply Fr.drew | apply Fr.alloc | refine Fr.setCell ?_ (Or.inr (by simp; try omega)) _)) : Fr [] w2 _) hf))
      clear hf
      go_wp2
      go_ret
      exact ⟨rfl, Hf.out⟩
  · have hd1 : decide (da.length ≤ 100) = false := by simpa using hla
    go_enter Tryd.func9, Tryd.ntmps9
    go_wp2_with fail
    refine short_calls.mono ?_
    rintro e w1 ⟨rfl, hf⟩
    have ha_ := (hf.block (w.heap.size) (by first | (simp; done) | (simp; omega)) (by simp)).trans (show _ = some (.cells #[.bool na, .slice a da.length ac] 24 (0, 0)) by (repeat (first | rw [if_pos (by omega)] | rw [if_neg (by omega)] | rw [hp_drew] | rw [hp_drewN] | rw [hp_alloc_size] | rw [hp_setCell_size] | rw [hp_alloc] | rw [hp_setCell] | rw [Option.map_some] | rw [upd_cells] | rw [List.set_cons_zero] | rw [List.set_cons_succ] | rfl)))
    have a0 := heap_eq_cell ha_ 0
    have a1 := heap_eq_cell ha_ 1
    have al := lt_of_block ha_
    have Ha := Lib.hid ha_
    clear ha_
    have hb_ := (hf.block (w.heap.size + 1) (by first | (simp; done) | (simp; omega)) (by simp)).trans (show _ = some (.cells #[.bool nb, .slice b db.length bc] 24 (0, 0)) by (repeat (first | rw [if_pos (by omega)] | rw [if_neg (by omega)] | rw [hp_drew] | rw [hp_drewN] | rw [hp_alloc_size] | rw [hp_setCell_size] | rw [hp_alloc] | rw [hp_setCell] | rw [Option.map_some] | rw [upd_cells] | rw [List.set_cons_zero] | rw [List.set_cons_succ] | rfl)))
    have b0 := heap_eq_cell hb_ 0
    have b1 := heap_eq_cell hb_ 1
    have bl := lt_of_block hb_
    have Hb := Lib.hid hb_
    clear hb_
    have hf01 : Fr [] w w1 := Fr.trans0 (by (repeat (first | exact Fr.refl _ _ | assumption | apply Fr.drewN | apply Fr.drew | apply Fr.alloc | refine Fr.setCell ?_ (Or.inr (by simp; try omega)) _))) hf
    have Hf := Lib.hid hf01
    have HA := Lib.hid (HA.out.fr hf01)
    have HB := Lib.hid (HB.out.fr hf01)
    clear hf hf01
    rw [hd1]
    go_wp2_with fail
    refine (alive_calls _).mono ?_
    rintro e w9 ⟨rfl, hf⟩
    have Hf := Lib.hid (Hf.out.trans0 (Fr.trans0 (by (repeat (first | exact Fr.refl _ _ | assumption | apply Fr.drewN | apply Fr.drew | apply Fr.alloc | refine Fr.setCell ?_ (Or.inr (by simp; try omega)) _)) : Fr [] w1 _) hf))
    clear hf
    go_wp2
    go_ret
    exact ⟨rfl, Hf.out⟩
end Go.Proofs.YtbacamboknmppaaDoor
