/- BigintTexts: the walk. -/
import Derived.Test.YtbacamboknmppaaDoorLb
import Derived.Test.YtbacamboknmppaaDoorLe
import Derived.Test.YtbacamboknmppaaDoorKt
import Derived.Test.YtbacamboknmppaaDoorKr
namespace Go.Proofs.YtbacamboknmppaaDoor
open Go Go.RowKit Go.Proofs.Rg Go.Proofs.Hp Go.Proofs.Bn
set_option linter.unusedVariables false
set_option linter.unusedSimpArgs false
theorem textB_len (neg : Bool) (ds : List Nat) (hD : Dig 4294967296 ds) (hl : ds.length ≤ 100) : (textB neg ds).length ≤ 1001 := by
  have h10 : (dg 10 (val 4294967296 ds)).length ≤ 1000 := by
    rw [dg_length_le (by omega)]
    exact Nat.lt_of_lt_of_le (val_lt hD) (pow_ten (a := 4294967296) (b := 10) (k := 1000) (m := ds.length) (by omega) (by omega))
  unfold textB
  split
  · simp
  · split
    · simp
    · have hc : (chs (dg 10 (val 4294967296 ds))).length = (dg 10 (val 4294967296 ds)).length := by simp [chs]
      simp only [List.length_reverse, List.length_append, hc]
      split <;> simp <;> omega
theorem strB_size (l : List Nat) : (strB l).size = l.length := by
  rw [strB_t8]
  show (t8 l).toArray.size = l.length
  simp [t8]
theorem strB_list (l : List Nat) : (strB l).data.toList = t8 l := by rw [strB_t8]
theorem bytes_list (s : ByteArray) : (⟨s.data.toList.toArray⟩ : ByteArray) = s := by cases s; simp
set_option maxHeartbeats 16000000 in
set_option maxRecDepth 100000 in
theorem Texts_calls {w : World} {na : Bool} {da : List Nat} {a : Option Addr} {ac : Nat} {s : ByteArray} (ha : Reads w (.slice a da.length ac) da.length 1 (u32s da)) (hDa : Dig 4294967296 da) (hc : da.length ≤ ac) :
    Calls Tryd.prog 8 #[.agg #[.bool na, .slice a da.length ac], .string s] w fun e w' => e = .returned (.bool true) ∧ Fr [] w w' := by
  have HA := Lib.hid ha
  have HDa := Lib.hid hDa
  clear ha hDa
  by_cases hla : da.length ≤ 100
  · have hd1 : decide (da.length ≤ 100) = true := by simpa using hla
    by_cases hls : s.size ≤ 2000
    · obtain ⟨hrD, hrL⟩ := parseS_dig s.data.toList
      have htp : ∀ x1 x2, parseS s.data.toList = (x1, x2, 0) → strB (textB x1 x2) = s := fun x1 x2 h => by rw [strB_t8, text_parse h, bytes_list]
      have HP := Lib.hid (fun w1 => Parse_calls (w := w1) (s := s) (by omega))
      have HRP := Lib.hid (fun w1 => bytes_list s ▸ RParse_calls (w := w1) (bs := s.data.toList) (by rw [Array.length_toList]; exact Nat.le_trans hls (by omega)))
      have HT := Lib.hid (fun w1 (hf : Fr [] w w1) => Text_calls (neg := na) (HA.out.fr hf) HDa.out (by omega))
      have HRT := Lib.hid (fun w1 (hf : Fr [] w w1) => RText_calls (neg := na) (HA.out.fr hf) HDa.out (by omega))
      have HPT := Lib.hid (fun w1 => Parse_calls (w := w1) (s := strB (textB na da)) (by rw [strB_size]; exact Nat.le_trans (textB_len na da HDa.out hla) (by omega)))
      have HRR := Lib.hid (fun w1 (hf : Fr [] w w1) => RRight_calls (neg := na) (HA.out.fr hf) (by omega))
      have hp1 := fun h => parse_text (neg := na) HDa.out h
      have hp2 := fun h => text_wrong (neg := na) (ds := da) h
      rw [← strB_list] at hp1 hp2
      obtain ⟨hbD, hbL⟩ := parseS_dig (strB (textB na da)).data.toList
      generalize strB (textB na da) = T at HT HRT HPT hp1 hp2 hbD hbL
      generalize parseS T.data.toList = b at HPT hp1 hp2 hbD hbL
      generalize parseS s.data.toList = r at hrD hrL HP HRP htp
      obtain ⟨r1, r2, r3⟩ := r
      obtain ⟨b1, b2, b3⟩ := b
      simp only at hrD hrL hbD hbL hp1 hp2
      have HrL := Lib.hid hrL
      have HrD := Lib.hid hrD
      have HbL := Lib.hid hbL
      have HbD := Lib.hid hbD
      have Hp1 := Lib.hid hp1
      have Hp2 := Lib.hid hp2
      have Htp := Lib.hid htp
      clear hrD hrL hbL hbD hp1 hp2 htp
      go_enter Tryd.func8, Tryd.ntmps8
      go_wp2_with fail
      refine short_calls.mono ?_
      rintro e w1 ⟨rfl, hf⟩
      have ha_ := (hf.block (w.heap.size) (by first | (simp; done) | (simp; omega)) (by simp)).trans (show _ = some (.cells #[.bool na, .slice a da.length ac] 24 (0, 0)) by (repeat (first | rw [if_pos (by omega)] | rw [if_neg (by omega)] | rw [hp_drew] | rw [hp_drewN] | rw [hp_alloc_size] | rw [hp_setCell_size] | rw [hp_alloc] | rw [hp_setCell] | rw [Option.map_some] | rw [upd_cells] | rw [List.set_cons_zero] | rw [List.set_cons_succ] | rfl)))
      have a0 := heap_eq_cell ha_ 0
      have a1 := heap_eq_cell ha_ 1
      have al := lt_of_block ha_
      have Ha := Lib.hid ha_
      clear ha_
      have hf01 : Fr [] w w1 := Fr.trans0 (by (repeat (first | exact Fr.refl _ _ | assumption | apply Fr.drewN | apply Fr.drew | apply Fr.alloc | refine Fr.setCell ?_ (Or.inr (by simp; try omega)) _))) hf
      have Hf := Lib.hid hf01
      have HA := Lib.hid (HA.out.fr hf01)
      clear hf hf01
      rw [hd1]
      clear hd1
      go_wp2_with fail
      refine (HP.out _).mono ?_
      rintro e w2 ⟨xa, xc, hlo, rfl, hr, hf⟩
      have hfk : Fr [] w1 w2 := Fr.trans0 (by (repeat (first | exact Fr.refl _ _ | assumption | apply Fr.drewN | apply Fr.drew | apply Fr.alloc | refine Fr.setCell ?_ (Or.inr (by simp; try omega)) _))) hf
      (try clear a0)
      (try clear a1)
      (try clear al)
      have ha_ := (hfk.block _ (lt_of_block Ha.out) (by simp)).trans Ha.out
      clear Ha
      have a0 := heap_eq_cell ha_ 0
      have a1 := heap_eq_cell ha_ 1
      have al := lt_of_block ha_
      have Ha := Lib.hid ha_
      clear ha_
      have Hf := Lib.hid (Hf.out.trans0 hfk)
      have HA := Lib.hid (HA.out.fr hfk)
      have HX := Lib.hid hr
      clear hf hfk hr hlo
      go_wp2_with fail
      refine (HRP.out _).mono ?_
      rintro e w3 ⟨ya, yc, hlo, rfl, hr, hf⟩
      have hx_ := (hf.block (w2.heap.size) (by first | (simp; done) | (simp; omega)) (by simp)).trans (show _ = some (.cells #[.bool r1, .slice xa r2.length xc] 24 (0, 0)) by (repeat (first | rw [if_pos (by omega)] | rw [if_neg (by omega)] | rw [hp_drew] | rw [hp_drewN] | rw [hp_alloc_size] | rw [hp_setCell_size] | rw [hp_alloc] | rw [hp_setCell] | rw [Option.map_some] | rw [upd_cells] | rw [List.set_cons_zero] | rw [List.set_cons_succ] | rfl)))
      have x0 := heap_eq_cell hx_ 0
      have x1 := heap_eq_cell hx_ 1
      have xl := lt_of_block hx_
      have Hx := Lib.hid hx_
      clear hx_
      have hfk : Fr [] w2 w3 := Fr.trans0 (by (repeat (first | exact Fr.refl _ _ | assumption | apply Fr.drewN | apply Fr.drew | apply Fr.alloc | refine Fr.setCell ?_ (Or.inr (by simp; try omega)) _))) hf
      (try clear a0)
      (try clear a1)
      (try clear al)
      have ha_ := (hfk.block _ (lt_of_block Ha.out) (by simp)).trans Ha.out
      clear Ha
      have a0 := heap_eq_cell ha_ 0
      have a1 := heap_eq_cell ha_ 1
      have al := lt_of_block ha_
      have Ha := Lib.hid ha_
      clear ha_
      have Hf := Lib.hid (Hf.out.trans0 hfk)
      have HX := Lib.hid (HX.out.fr hfk)
      have HA := Lib.hid (HA.out.fr hfk)
      have HY := Lib.hid hr
      clear hf hfk hr hlo
      go_wp2_with fail
      refine (HT.out _ (by have := Hf.out; (repeat (first | exact Fr.refl _ _ | assumption | apply Fr.drewN | apply Fr.drew | apply Fr.alloc | refine Fr.setCell ?_ (Or.inr (by simp; try omega)) _)))).mono ?_
      rintro e w4 ⟨rfl, hf⟩
      have hy_ := (hf.block (w3.heap.size) (by first | (simp; done) | (simp; omega)) (by simp)).trans (show _ = some (.cells #[.bool r1, .slice ya r2.length yc] 24 (0, 0)) by (repeat (first | rw [if_pos (by omega)] | rw [if_neg (by omega)] | rw [hp_drew] | rw [hp_drewN] | rw [hp_alloc_size] | rw [hp_setCell_size] | rw [hp_alloc] | rw [hp_setCell] | rw [Option.map_some] | rw [upd_cells] | rw [List.set_cons_zero] | rw [List.set_cons_succ] | rfl)))
      have y0 := heap_eq_cell hy_ 0
      have y1 := heap_eq_cell hy_ 1
      have yl := lt_of_block hy_
      have Hy := Lib.hid hy_
      clear hy_
      have hfk : Fr [] w3 w4 := Fr.trans0 (by (repeat (first | exact Fr.refl _ _ | assumption | apply Fr.drewN | apply Fr.drew | apply Fr.alloc | refine Fr.setCell ?_ (Or.inr (by simp; try omega)) _))) hf
      (try clear a0)
      (try clear a1)
      (try clear al)
      have ha_ := (hfk.block _ (lt_of_block Ha.out) (by simp)).trans Ha.out
      clear Ha
      have a0 := heap_eq_cell ha_ 0
      have a1 := heap_eq_cell ha_ 1
      have al := lt_of_block ha_
      have Ha := Lib.hid ha_
      clear ha_
      (try clear x0)
      (try clear x1)
      (try clear xl)
      have hx_ := (hfk.block _ (lt_of_block Hx.out) (by simp)).trans Hx.out
      clear Hx
      have x0 := heap_eq_cell hx_ 0
      have x1 := heap_eq_cell hx_ 1
      have xl := lt_of_block hx_
      have Hx := Lib.hid hx_
      clear hx_
      have Hf := Lib.hid (Hf.out.trans0 hfk)
      have HA := Lib.hid (HA.out.fr hfk)
      have HX := Lib.hid (HX.out.fr hfk)
      have HY := Lib.hid (HY.out.fr hfk)
      clear hf hfk
      go_wp2_with fail
      refine (HPT.out _).mono ?_
      rintro e w5 ⟨za, zc, hlo, rfl, hr, hf⟩
      have hfk : Fr [] w4 w5 := Fr.trans0 (by (repeat (first | exact Fr.refl _ _ | assumption | apply Fr.drewN | apply Fr.drew | apply Fr.alloc | refine Fr.setCell ?_ (Or.inr (by simp; try omega)) _))) hf
      (try clear a0)
      (try clear a1)
      (try clear al)
      have ha_ := (hfk.block _ (lt_of_block Ha.out) (by simp)).trans Ha.out
      clear Ha
      have a0 := heap_eq_cell ha_ 0
      have a1 := heap_eq_cell ha_ 1
      have al := lt_of_block ha_
      have Ha := Lib.hid ha_
      clear ha_
      (try clear x0)
      (try clear x1)
      (try clear xl)
      have hx_ := (hfk.block _ (lt_of_block Hx.out) (by simp)).trans Hx.out
      clear Hx
      have x0 := heap_eq_cell hx_ 0
      have x1 := heap_eq_cell hx_ 1
      have xl := lt_of_block hx_
      have Hx := Lib.hid hx_
      clear hx_
      (try clear y0)
      (try clear y1)
      (try clear yl)
      have hy_ := (hfk.block _ (lt_of_block Hy.out) (by simp)).trans Hy.out
      clear Hy
      have y0 := heap_eq_cell hy_ 0
      have y1 := heap_eq_cell hy_ 1
      have yl := lt_of_block hy_
      have Hy := Lib.hid hy_
      clear hy_
      have Hf := Lib.hid (Hf.out.trans0 hfk)
      have HX := Lib.hid (HX.out.fr hfk)
      have HY := Lib.hid (HY.out.fr hfk)
      have HA := Lib.hid (HA.out.fr hfk)
      have HZ := Lib.hid hr
      clear hf hfk hr hlo
      go_wp2_with fail
      refine (Same_calls (HX.out.fr (by (repeat (first | exact Fr.refl _ _ | assumption | apply Fr.drewN | apply Fr.drew | apply Fr.alloc | refine Fr.setCell ?_ (Or.inr (by simp; try omega)) _)))) (HY.out.fr (by (repeat (first | exact Fr.refl _ _ | assumption | apply Fr.drewN | apply Fr.drew | apply Fr.alloc | refine Fr.setCell ?_ (Or.inr (by simp; try omega)) _)))) (by have := HrL.out; omega) (by have := HrL.out; omega)).mono ?_
      rintro e w6 ⟨rfl, hf⟩
      rw [same_self]
      have hz_ := (hf.block (w5.heap.size) (by first | (simp; done) | (simp; omega)) (by simp)).trans (show _ = some (.cells #[.bool b1, .slice za b2.length zc] 24 (0, 0)) by (repeat (first | rw [if_pos (by omega)] | rw [if_neg (by omega)] | rw [hp_drew] | rw [hp_drewN] | rw [hp_alloc_size] | rw [hp_setCell_size] | rw [hp_alloc] | rw [hp_setCell] | rw [Option.map_some] | rw [upd_cells] | rw [List.set_cons_zero] | rw [List.set_cons_succ] | rfl)))
      have z0 := heap_eq_cell hz_ 0
      have z1 := heap_eq_cell hz_ 1
      have zl := lt_of_block hz_
      have Hz := Lib.hid hz_
      clear hz_
      have hfk : Fr [] w5 w6 := Fr.trans0 (by (repeat (first | exact Fr.refl _ _ | assumption | apply Fr.drewN | apply Fr.drew | apply Fr.alloc | refine Fr.setCell ?_ (Or.inr (by simp; try omega)) _))) hf
      (try clear a0)
      (try clear a1)
      (try clear al)
      have ha_ := (hfk.block _ (lt_of_block Ha.out) (by simp)).trans Ha.out
      clear Ha
      have a0 := heap_eq_cell ha_ 0
      have a1 := heap_eq_cell ha_ 1
      have al := lt_of_block ha_
      have Ha := Lib.hid ha_
      clear ha_
      (try clear x0)
      (try clear x1)
      (try clear xl)
      have hx_ := (hfk.block _ (lt_of_block Hx.out) (by simp)).trans Hx.out
      clear Hx
      have x0 := heap_eq_cell hx_ 0
      have x1 := heap_eq_cell hx_ 1
      have xl := lt_of_block hx_
      have Hx := Lib.hid hx_
      clear hx_
      have Hf := Lib.hid (Hf.out.trans0 hfk)
      have HX := Lib.hid (HX.out.fr hfk)
      have HZ := Lib.hid (HZ.out.fr hfk)
      have HA := Lib.hid (HA.out.fr hfk)
      clear hf hfk HY
      go_wp2_with fail
      refine (HRT.out _ (by have := Hf.out; (repeat (first | exact Fr.refl _ _ | assumption | apply Fr.drewN | apply Fr.drew | apply Fr.alloc | refine Fr.setCell ?_ (Or.inr (by simp; try omega)) _)))).mono ?_
      rintro e w7 ⟨rfl, hf⟩
      have hfk : Fr [] w6 w7 := Fr.trans0 (by (repeat (first | exact Fr.refl _ _ | assumption | apply Fr.drewN | apply Fr.drew | apply Fr.alloc | refine Fr.setCell ?_ (Or.inr (by simp; try omega)) _))) hf
      (try clear a0)
      (try clear a1)
      (try clear al)
      have ha_ := (hfk.block _ (lt_of_block Ha.out) (by simp)).trans Ha.out
      clear Ha
      have a0 := heap_eq_cell ha_ 0
      have a1 := heap_eq_cell ha_ 1
      have al := lt_of_block ha_
      have Ha := Lib.hid ha_
      clear ha_
      (try clear x0)
      (try clear x1)
      (try clear xl)
      have hx_ := (hfk.block _ (lt_of_block Hx.out) (by simp)).trans Hx.out
      clear Hx
      have x0 := heap_eq_cell hx_ 0
      have x1 := heap_eq_cell hx_ 1
      have xl := lt_of_block hx_
      have Hx := Lib.hid hx_
      clear hx_
      (try clear z0)
      (try clear z1)
      (try clear zl)
      have hz_ := (hfk.block _ (lt_of_block Hz.out) (by simp)).trans Hz.out
      clear Hz
      have z0 := heap_eq_cell hz_ 0
      have z1 := heap_eq_cell hz_ 1
      have zl := lt_of_block hz_
      have Hz := Lib.hid hz_
      clear hz_
      have Hf := Lib.hid (Hf.out.trans0 hfk)
      have HX := Lib.hid (HX.out.fr hfk)
      have HZ := Lib.hid (HZ.out.fr hfk)
      have HA := Lib.hid (HA.out.fr hfk)
      clear hf hfk
      go_wp2_with fail
      refine (HRR.out _ (by have := Hf.out; (repeat (first | exact Fr.refl _ _ | assumption | apply Fr.drewN | apply Fr.drew | apply Fr.alloc | refine Fr.setCell ?_ (Or.inr (by simp; try omega)) _)))).mono ?_
      rintro e w8 ⟨rfl, hf⟩
      have hfk : Fr [] w7 w8 := Fr.trans0 (by (repeat (first | exact Fr.refl _ _ | assumption | apply Fr.drewN | apply Fr.drew | apply Fr.alloc | refine Fr.setCell ?_ (Or.inr (by simp; try omega)) _))) hf
      (try clear a0)
      (try clear a1)
      (try clear al)
      have ha_ := (hfk.block _ (lt_of_block Ha.out) (by simp)).trans Ha.out
      clear Ha
      have a0 := heap_eq_cell ha_ 0
      have a1 := heap_eq_cell ha_ 1
      have al := lt_of_block ha_
      have Ha := Lib.hid ha_
      clear ha_
      (try clear x0)
      (try clear x1)
      (try clear xl)
      have hx_ := (hfk.block _ (lt_of_block Hx.out) (by simp)).trans Hx.out
      clear Hx
      have x0 := heap_eq_cell hx_ 0
      have x1 := heap_eq_cell hx_ 1
      have xl := lt_of_block hx_
      have Hx := Lib.hid hx_
      clear hx_
      (try clear z0)
      (try clear z1)
      (try clear zl)
      have hz_ := (hfk.block _ (lt_of_block Hz.out) (by simp)).trans Hz.out
      clear Hz
      have z0 := heap_eq_cell hz_ 0
      have z1 := heap_eq_cell hz_ 1
      have zl := lt_of_block hz_
      have Hz := Lib.hid hz_
      clear hz_
      have Hf := Lib.hid (Hf.out.trans0 hfk)
      have HX := Lib.hid (HX.out.fr hfk)
      have HZ := Lib.hid (HZ.out.fr hfk)
      have HA := Lib.hid (HA.out.fr hfk)
      clear hf hfk
      cases hR : RightB na da with
      | false =>
        obtain rfl : b3 = 15 := Hp2.out hR
        clear hR
        go_wp2_with fail
        refine (alive_calls _).mono ?_
        rintro e w9 ⟨rfl, hf⟩
        have Hf := Lib.hid (Hf.out.trans0 (Fr.trans0 (by (repeat (first | exact Fr.refl _ _ | assumption | apply Fr.drewN | apply Fr.drew | apply Fr.alloc | refine Fr.setCell ?_ (Or.inr (by simp; try omega)) _)) : Fr [] w8 _) hf))
        clear hf
        go_wp2
        go_ret
        exact ⟨rfl, Hf.out⟩
      | true =>
        have hb := Hp1.out hR
        simp only [Prod.mk.injEq] at hb
        obtain ⟨rfl, rfl, rfl⟩ := hb
        clear hR
        go_wp2_with fail
        refine (Same_calls (HA.out.fr (by (repeat (first | exact Fr.refl _ _ | assumption | apply Fr.drewN | apply Fr.drew | apply Fr.alloc | refine Fr.setCell ?_ (Or.inr (by simp; try omega)) _)))) (HZ.out.fr (by (repeat (first | exact Fr.refl _ _ | assumption | apply Fr.drewN | apply Fr.drew | apply Fr.alloc | refine Fr.setCell ?_ (Or.inr (by simp; try omega)) _)))) (by omega) (by omega)).mono ?_
        rintro e w10 ⟨rfl, hf⟩
        rw [same_self]
        have hfk : Fr [] w8 w10 := Fr.trans0 (by (repeat (first | exact Fr.refl _ _ | assumption | apply Fr.drewN | apply Fr.drew | apply Fr.alloc | refine Fr.setCell ?_ (Or.inr (by simp; try omega)) _))) hf
        (try clear x0)
        (try clear x1)
        (try clear xl)
        have hx_ := (hfk.block _ (lt_of_block Hx.out) (by simp)).trans Hx.out
        clear Hx
        have x0 := heap_eq_cell hx_ 0
        have x1 := heap_eq_cell hx_ 1
        have xl := lt_of_block hx_
        have Hx := Lib.hid hx_
        clear hx_
        have Hf := Lib.hid (Hf.out.trans0 hfk)
        have HX := Lib.hid (HX.out.fr hfk)
        clear hf hfk
        by_cases hr3 : r3 = 0
        · subst hr3
          have hts := Htp.out r1 r2 rfl
          have HTX := Lib.hid (fun w1 (hf : Fr [] w10 w1) => hts ▸ Text_calls (neg := r1) (HX.out.fr hf) HrD.out (by have := HrL.out; omega))
          clear hts
          go_wp2_with fail
          refine (HTX.out _ (by (repeat (first | exact Fr.refl _ _ | assumption | apply Fr.drewN | apply Fr.drew | apply Fr.alloc | refine Fr.setCell ?_ (Or.inr (by simp; try omega)) _)))).mono ?_
          rintro e w11 ⟨rfl, hf⟩
          have hfk : Fr [] w10 w11 := Fr.trans0 (by (repeat (first | exact Fr.refl _ _ | assumption | apply Fr.drewN | apply Fr.drew | apply Fr.alloc | refine Fr.setCell ?_ (Or.inr (by simp; try omega)) _))) hf
          (try clear x0)
          (try clear x1)
          (try clear xl)
          have hx_ := (hfk.block _ (lt_of_block Hx.out) (by simp)).trans Hx.out
          clear Hx
          have x0 := heap_eq_cell hx_ 0
          have x1 := heap_eq_cell hx_ 1
          have xl := lt_of_block hx_
          have Hx := Lib.hid hx_
          clear hx_
          have Hf := Lib.hid (Hf.out.trans0 hfk)
          clear hf hfk
          go_wp2_with fail
          refine (alive_calls _).mono ?_
          rintro e w9 ⟨rfl, hf⟩
          have Hf := Lib.hid (Hf.out.trans0 (Fr.trans0 (by (repeat (first | exact Fr.refl _ _ | assumption | apply Fr.drewN | apply Fr.drew | apply Fr.alloc | refine Fr.setCell ?_ (Or.inr (by simp; try omega)) _)) : Fr [] w11 _) hf))
          clear hf
          go_wp2
          go_ret
          exact ⟨rfl, Hf.out⟩
        ·
          go_wp2_with fail
          refine (alive_calls _).mono ?_
          rintro e w9 ⟨rfl, hf⟩
          have Hf := Lib.hid (Hf.out.trans0 (Fr.trans0 (by (repeat (first | exact Fr.refl _ _ | assumption | apply Fr.drewN | apply Fr.drew | apply Fr.alloc | refine Fr.setCell ?_ (Or.inr (by simp; try omega)) _)) : Fr [] w10 _) hf))
          clear hf
          go_wp2
          go_ret
          exact ⟨rfl, Hf.out⟩
    ·
      go_enter Tryd.func8, Tryd.ntmps8
      go_wp2_with fail
      refine short_calls.mono ?_
      rintro e w1 ⟨rfl, hf⟩
      have ha_ := (hf.block (w.heap.size) (by first | (simp; done) | (simp; omega)) (by simp)).trans (show _ = some (.cells #[.bool na, .slice a da.length ac] 24 (0, 0)) by (repeat (first | rw [if_pos (by omega)] | rw [if_neg (by omega)] | rw [hp_drew] | rw [hp_drewN] | rw [hp_alloc_size] | rw [hp_setCell_size] | rw [hp_alloc] | rw [hp_setCell] | rw [Option.map_some] | rw [upd_cells] | rw [List.set_cons_zero] | rw [List.set_cons_succ] | rfl)))
      have a0 := heap_eq_cell ha_ 0
      have a1 := heap_eq_cell ha_ 1
      have al := lt_of_block ha_
      have Ha := Lib.hid ha_
      clear ha_
      have hf01 : Fr [] w w1 := Fr.trans0 (by (repeat (first | exact Fr.refl _ _ | assumption | apply Fr.drewN | apply Fr.drew | apply Fr.alloc | refine Fr.setCell ?_ (Or.inr (by simp; try omega)) _))) hf
      have Hf := Lib.hid hf01
      have HA := Lib.hid (HA.out.fr hf01)
      clear hf hf01
      rw [hd1]
      clear hd1
      go_wp2_with fail
      refine (alive_calls _).mono ?_
      rintro e w9 ⟨rfl, hf⟩
      have Hf := Lib.hid (Hf.out.trans0 (Fr.trans0 (by (repeat (first | exact Fr.refl _ _ | assumption | apply Fr.drewN | apply Fr.drew | apply Fr.alloc | refine Fr.setCell ?_ (Or.inr (by simp; try omega)) _)) : Fr [] w1 _) hf))
      clear hf
      go_wp2
      go_ret
      exact ⟨rfl, Hf.out⟩
  · have hd1 : decide (da.length ≤ 100) = false := by simpa using hla
    go_enter Tryd.func8, Tryd.ntmps8
    go_wp2_with fail
    refine short_calls.mono ?_
    rintro e w1 ⟨rfl, hf⟩
    have ha_ := (hf.block (w.heap.size) (by first | (simp; done) | (simp; omega)) (by simp)).trans (show _ = some (.cells #[.bool na, .slice a da.length ac] 24 (0, 0)) by (repeat (first | rw [if_pos (by omega)] | rw [if_neg (by omega)] | rw [hp_drew] | rw [hp_drewN] | rw [hp_alloc_size] | rw [hp_setCell_size] | rw [hp_alloc] | rw [hp_setCell] | rw [Option.map_some] | rw [upd_cells] | rw [List.set_cons_zero] | rw [List.set_cons_succ] | rfl)))
    have a0 := heap_eq_cell ha_ 0
    have a1 := heap_eq_cell ha_ 1
    have al := lt_of_block ha_
    have Ha := Lib.hid ha_
    clear ha_
    have hf01 : Fr [] w w1 := Fr.trans0 (by (repeat (first | exact Fr.refl _ _ | assumption | apply Fr.drewN | apply Fr.drew | apply Fr.alloc | refine Fr.setCell ?_ (Or.inr (by simp; try omega)) _))) hf
    have Hf := Lib.hid hf01
    have HA := Lib.hid (HA.out.fr hf01)
    clear hf hf01
    rw [hd1]
    clear hd1
    go_wp2_with fail
    refine (alive_calls _).mono ?_
    rintro e w9 ⟨rfl, hf⟩
    have Hf := Lib.hid (Hf.out.trans0 (Fr.trans0 (by (repeat (first | exact Fr.refl _ _ | assumption | apply Fr.drewN | apply Fr.drew | apply Fr.alloc | refine Fr.setCell ?_ (Or.inr (by simp; try omega)) _)) : Fr [] w1 _) hf))
    clear hf
    go_wp2
    go_ret
    exact ⟨rfl, Hf.out⟩
end Go.Proofs.YtbacamboknmppaaDoor
