/- BigintDivides: the walk. -/
import Derived.Test.YtbacamboknmppaaDoorLb
import Derived.Test.YtbacamboknmppaaDoorLd
import Derived.Test.YtbacamboknmppaaDoorKp
import Derived.Test.YtbacamboknmppaaDoorJg
import Derived.Deep.DeepCutAuto
namespace Go.Proofs.YtbacamboknmppaaDoor
open Go Go.RowKit Go.Proofs.Rg Go.Proofs.Hp Go.Proofs.Bn
set_option linter.unusedVariables false
set_option linter.unusedSimpArgs false
theorem mulS_dig (na nb : Bool) (da db : List Nat) : Dig 4294967296 (mulS na da nb db).2.1 ∧ (mulS na da nb db).2.1.length ≤ 64 := by
  unfold mulS
  split
  · exact ⟨Dig.nil, by simp⟩
  · exact ⟨mkN_dig, mkN_len⟩
theorem from_ok {n : Int} (h1 : -9223372036854775808 ≤ n) (h2 : n < 9223372036854775808) {f1 : Bool} {f2 : List Nat} {f3 : Int} (h : fromS n = (f1, f2, f3)) : sv f1 f2 = n ∧ RightB f1 f2 = true := by
  have h3 : (mkI n).2.2 = 0 := mkN_err (Nat.lt_of_lt_of_le (show n.natAbs < 4294967296 ^ 2 by omega) (Nat.pow_le_pow_right (by omega) (by omega)))
  have h4 : mkI n = (f1, f2, f3) := h
  rw [h4] at h3
  simp only at h3
  subst h3
  exact mkI_ok h4
theorem div_law {na : Bool} {da : List Nat} {n r : Int} {q1 : Bool} {q2 : List Nat} (hD : Dig 4294967296 da) (h1 : -9223372036854775808 ≤ n) (h2 : n < 9223372036854775808) (h : divS na da n = ((q1, q2, 0), r))
    {f1 g1 m1 : Bool} {f2 g2 m2 : List Nat} {f3 g3 m3 : Int} (hf : fromS n = (f1, f2, f3)) (hg : fromS r = (g1, g2, g3)) (hm : mulS q1 q2 f1 f2 = (m1, m2, m3)) :
    (m3 = 0 ∨ m3 = 6) ∧ (m3 = 0 → addS m1 m2 g1 g2 = (na, da, 0)) := by
  obtain ⟨hR, hn0, hQ, he, hlt⟩ := div_back hD h
  obtain ⟨hf1, hf2⟩ := from_ok h1 h2 hf
  obtain ⟨hg1, hg2⟩ := from_ok (n := r) (by omega) (by omega) hg
  rw [mulS_sv hQ hf2, hf1] at hm
  refine ⟨?_, fun h0 => ?_⟩
  · have := mkN_six (neg := decide (sv q1 q2 * n < 0)) (V := (sv q1 q2 * n).natAbs)
    have e : mkN (decide (sv q1 q2 * n < 0)) (sv q1 q2 * n).natAbs = (m1, m2, m3) := hm
    rw [e] at this
    exact this
  · subst h0
    obtain ⟨hm1, hm2⟩ := mkI_ok hm
    rw [addS_sv hm2 hg2, hm1, hg1, he]
    exact mkI_sv hR hD
theorem div_small {na : Bool} {da : List Nat} {n r : Int} {q1 : Bool} {q2 : List Nat} {q3 : Int} (hD : Dig 4294967296 da) (h1 : -9223372036854775808 ≤ n) (h2 : n < 9223372036854775808) (h : divS na da n = ((q1, q2, q3), r)) : q3 = 0 → -9223372036854775808 ≤ r ∧ r < 9223372036854775808 := by
  rintro rfl
  obtain ⟨_, _, _, _, hlt⟩ := div_back hD h
  omega
set_option maxHeartbeats 16000000 in
set_option maxRecDepth 100000 in
theorem Divides_calls {w : World} {na : Bool} {da : List Nat} {a : Option Addr} {ac : Nat} {n : Int} (ha : Reads w (.slice a da.length ac) da.length 1 (u32s da)) (hDa : Dig 4294967296 da) (hk1 : -9223372036854775808 ≤ n) (hk2 : n < 9223372036854775808) :
    Calls Tryd.prog 6 #[.agg #[.bool na, .slice a da.length ac], .int .i64 n] w fun e w' => e = .returned (.bool true) ∧ Fr [] w w' := by
  have HA := Lib.hid ha
  have HDa := Lib.hid hDa
  clear ha hDa
  by_cases hla : da.length ≤ 100
  · have hd1 : decide (da.length ≤ 100) = true := by simpa using hla
    obtain ⟨hrD, hrL⟩ := divS_dig na da n
    obtain ⟨r, hS⟩ : ∃ r, divS na da n = r := ⟨_, rfl⟩
    rw [hS] at hrD hrL
    have HM := Lib.hid (fun w1 (hf : Fr [] w w1) => hS ▸ Div_calls (neg := na) (n := n) (HA.out.fr hf) HDa.out (by omega) hk1 hk2)
    have HR := Lib.hid (fun w1 (hf : Fr [] w w1) => hS ▸ RDiv_calls (neg := na) (n := n) (HA.out.fr hf) HDa.out (by omega) hk1 hk2)
    obtain ⟨⟨q1, q2, q3⟩, r⟩ := r
    have hsm := div_small HDa.out hk1 hk2 hS
    have HS := Lib.hid hS
    have Hsm := Lib.hid hsm
    clear hS hsm
    simp only at hrD hrL
    have HrL := Lib.hid hrL
    have HrD := Lib.hid hrD
    clear hrD hrL
    go_enter Tryd.func6, Tryd.ntmps6
    go_wp2_with fail
    refine short_calls.mono ?_
    rintro e w1 ⟨rfl, hf⟩
    have ha_ := (hf.block (w.heap.size) (by first | (simp; done) | (simp; omega)) (by simp)).trans (show _ = some (.cells #[.bool na, .slice a da.length ac] 24 (0, 0)) by (repeat (first | rw [if_pos (by omega)] | rw [if_neg (by omega)] | rw [hp_drew] | rw [hp_drewN] | rw [hp_alloc_size] | rw [hp_setCell_size] | rw [hp_alloc] | rw [hp_setCell] | rw [Option.map_some] | rw [upd_cells] | rw [List.set_cons_zero] | rw [List.set_cons_succ] | rfl)))
    have a0 := heap_eq_cell ha_ 0
    have a1 := heap_eq_cell ha_ 1
    have al := lt_of_block ha_
    have Ha := Lib.hid ha_
    clear ha_
    have hf01 : Fr [] w w1 := Fr.trans0 (by (repeat (first | exact Fr.refl _ _ | assumption | apply Fr.drewN | apply Fr.drew | apply Fr.alloc | refine Fr.setCell ?_ (Or.inr (by simp; try omega)) _))) hf
    have Hf := Lib.hid hf01
    have HA := Lib.hid (HA.out.fr hf01)
    clear hf hf01
    rw [hd1]
    clear hd1
    go_wp2_with fail
    refine (HM.out _ (by have := Hf.out; (repeat (first | exact Fr.refl _ _ | assumption | apply Fr.drewN | apply Fr.drew | apply Fr.alloc | refine Fr.setCell ?_ (Or.inr (by simp; try omega)) _)))).mono ?_
    rintro e w3 ⟨xa, xc, hlo, rfl, hr, hf⟩
    have hfk : Fr [] w1 w3 := Fr.trans0 (by (repeat (first | exact Fr.refl _ _ | assumption | apply Fr.drewN | apply Fr.drew | apply Fr.alloc | refine Fr.setCell ?_ (Or.inr (by simp; try omega)) _))) hf
    (try clear a0)
    (try clear a1)
    (try clear al)
    have ha_ := (hfk.block _ (lt_of_block Ha.out) (by simp)).trans Ha.out
    clear Ha
    have a0 := heap_eq_cell ha_ 0
    have a1 := heap_eq_cell ha_ 1
    have al := lt_of_block ha_
    have Ha := Lib.hid ha_
    clear ha_
    have Hf := Lib.hid (Hf.out.trans0 hfk)
    have HA := Lib.hid (HA.out.fr hfk)
    have HX := Lib.hid hr
    clear hf hfk hr hlo
    go_wp2_with fail
    refine (HR.out _ (by have := Hf.out; (repeat (first | exact Fr.refl _ _ | assumption | apply Fr.drewN | apply Fr.drew | apply Fr.alloc | refine Fr.setCell ?_ (Or.inr (by simp; try omega)) _)))).mono ?_
    rintro e w4 ⟨ya, yc, hlo, rfl, hr, hf⟩
    have hx_ := (hf.block (w3.heap.size) (by first | (simp; done) | (simp; omega)) (by simp)).trans (show _ = some (.cells #[.bool q1, .slice xa q2.length xc] 24 (0, 0)) by (repeat (first | rw [if_pos (by omega)] | rw [if_neg (by omega)] | rw [hp_drew] | rw [hp_drewN] | rw [hp_alloc_size] | rw [hp_setCell_size] | rw [hp_alloc] | rw [hp_setCell] | rw [Option.map_some] | rw [upd_cells] | rw [List.set_cons_zero] | rw [List.set_cons_succ] | rfl)))
    have x0 := heap_eq_cell hx_ 0
    have x1 := heap_eq_cell hx_ 1
    have xl := lt_of_block hx_
    have Hx := Lib.hid hx_
    clear hx_
    have hfk : Fr [] w3 w4 := Fr.trans0 (by (repeat (first | exact Fr.refl _ _ | assumption | apply Fr.drewN | apply Fr.drew | apply Fr.alloc | refine Fr.setCell ?_ (Or.inr (by simp; try omega)) _))) hf
    (try clear a0)
    (try clear a1)
    (try clear al)
    have ha_ := (hfk.block _ (lt_of_block Ha.out) (by simp)).trans Ha.out
    clear Ha
    have a0 := heap_eq_cell ha_ 0
    have a1 := heap_eq_cell ha_ 1
    have al := lt_of_block ha_
    have Ha := Lib.hid ha_
    clear ha_
    have Hf := Lib.hid (Hf.out.trans0 hfk)
    have HX := Lib.hid (HX.out.fr hfk)
    have HA := Lib.hid (HA.out.fr hfk)
    have HY := Lib.hid hr
    clear hf hfk hr hlo
    go_wp2_with fail
    refine (Same_calls (HX.out.fr (by (repeat (first | exact Fr.refl _ _ | assumption | apply Fr.drewN | apply Fr.drew | apply Fr.alloc | refine Fr.setCell ?_ (Or.inr (by simp; try omega)) _)))) (HY.out.fr (by (repeat (first | exact Fr.refl _ _ | assumption | apply Fr.drewN | apply Fr.drew | apply Fr.alloc | refine Fr.setCell ?_ (Or.inr (by simp; try omega)) _)))) (by have := HrL.out; omega) (by have := HrL.out; omega)).mono ?_
    rintro e w5 ⟨rfl, hf⟩
    rw [same_self]
    have hfk : Fr [] w4 w5 := Fr.trans0 (by (repeat (first | exact Fr.refl _ _ | assumption | apply Fr.drewN | apply Fr.drew | apply Fr.alloc | refine Fr.setCell ?_ (Or.inr (by simp; try omega)) _))) hf
    (try clear a0)
    (try clear a1)
    (try clear al)
    have ha_ := (hfk.block _ (lt_of_block Ha.out) (by simp)).trans Ha.out
    clear Ha
    have a0 := heap_eq_cell ha_ 0
    have a1 := heap_eq_cell ha_ 1
    have al := lt_of_block ha_
    have Ha := Lib.hid ha_
    clear ha_
    (try clear x0)
    (try clear x1)
    (try clear xl)
    have hx_ := (hfk.block _ (lt_of_block Hx.out) (by simp)).trans Hx.out
    clear Hx
    have x0 := heap_eq_cell hx_ 0
    have x1 := heap_eq_cell hx_ 1
    have xl := lt_of_block hx_
    have Hx := Lib.hid hx_
    clear hx_
    have Hf := Lib.hid (Hf.out.trans0 hfk)
    have HX := Lib.hid (HX.out.fr hfk)
    have HA := Lib.hid (HA.out.fr hfk)
    clear hf hfk HY HM HR
    by_cases hr3 : q3 = 0
    · obtain ⟨hr1, hr2⟩ := Hsm.out hr3
      subst hr3
      obtain ⟨fn, hfn⟩ : ∃ fn, fromS n = fn := ⟨_, rfl⟩
      obtain ⟨gn, hgn⟩ : ∃ gn, fromS r = gn := ⟨_, rfl⟩
      have hfD := fromS_dig n
      have hgD := fromS_dig r
      rw [hfn] at hfD
      rw [hgn] at hgD
      have HFm := Lib.hid (fun w1 => hfn ▸ From_calls (w := w1) hk1 hk2)
      have HGm := Lib.hid (fun w1 => hgn ▸ From_calls (w := w1) hr1 hr2)
      obtain ⟨f1, f2, f3⟩ := fn
      obtain ⟨g1, g2, g3⟩ := gn
      obtain ⟨m, hm⟩ : ∃ m, mulS q1 q2 f1 f2 = m := ⟨_, rfl⟩
      have hmD := mulS_dig q1 f1 q2 f2
      rw [hm] at hmD
      simp only at hfD hgD
      have HMl := Lib.hid (fun (w1 : World) (pa : Option Addr) (pc : Nat) (hr : Reads w1 (.slice pa f2.length pc) f2.length 1 (u32s f2)) (hf1 : Fr [] w5 w1) => hm ▸ Mul_calls (na := q1) (nb := f1) (HX.out.fr hf1) hr HrD.out hfD.1 (by have := HrL.out; omega) (by omega))
      obtain ⟨m1, m2, m3⟩ := m
      obtain ⟨hl1, hl2⟩ := div_law HDa.out hk1 hk2 HS.out hfn hgn hm
      simp only at hmD
      have HmD := Lib.hid hmD
      have HgD := Lib.hid hgD
      have Hl1 := Lib.hid hl1
      have Hl2 := Lib.hid hl2
      clear hfn hgn hm hl1 hl2 hfD hgD hmD
      go_upto_region 9 with fail
      go_cut [11, 12] (fun s11 s12 wx => ∃ (g : Nat) (rp : Option Addr) (rc : Nat), s11 = .pointer (some ⟨g, 0, none⟩) ∧ s12 = .int .i64 m3 ∧ Hid (wx.heap[g]? = some (.cells #[.bool m1, .slice rp m2.length rc] 24 (0, 0))) ∧ Hid (Reads wx (.slice rp m2.length rc) m2.length 1 (u32s m2)) ∧ Hid (Fr [] w5 wx))
      case first =>
        have n10 := World.new_ne w5 _ x0
        have n11 := World.new_ne w5 _ x1
        go_region_held3 (fun w' => w'.cell? ⟨w3.heap.size, 0, none⟩ = some (.bool q1) ∧ w'.cell? ⟨w3.heap.size, 1, none⟩ = some (.slice xa q2.length xc)) (first | go_keep | exact ⟨k20, k21⟩ | exact ⟨k30, k31⟩)
            (first | (go_at_call 12; refine (HFm.out _).mono ?_; rintro e wA ⟨pa, pc, hlo5, rfl, hr5, hf0⟩; have h45 : Fr [] w5 wA := Fr.trans0 (by (repeat (first | exact Fr.refl _ _ | assumption | apply Fr.drewN | apply Fr.drew | apply Fr.alloc | refine Fr.setCell ?_ (Or.inl (by simp)) _))) hf0; have k20 := (h45.cell (p := ⟨w3.heap.size, 0, none⟩) xl (by simp)).trans x0; have k21 := (h45.cell (p := ⟨w3.heap.size, 1, none⟩) xl (by simp)).trans x1; have n20 := World.new_ne wA _ k20; have n21 := World.new_ne wA _ k21; obtain ⟨c5, z5⟩ := frcell hf0; (try (have s2 : w5.heap.size < wA.heap.size := by have h := hf0.size; simp at h; omega))) | (go_at_call 19; refine (HMl.out _ _ _ (hr5.fr ?_) ?_).mono ?_; (· (repeat (first | exact Fr.refl _ _ | assumption | apply Fr.drewN | apply Fr.drew | apply Fr.alloc | refine Fr.setCell ?_ (Or.inl (by simp)) _))); (· refine Fr.trans0 h45 ?_; (repeat (first | exact Fr.refl _ _ | assumption | apply Fr.drewN | apply Fr.drew | apply Fr.alloc | refine Fr.setCell ?_ (Or.inl (by simp)) _))); rintro e wB ⟨ra, rc, hlo6, rfl, hr6, hf6⟩; have h46 : Fr [] w5 wB := Fr.trans0 (Fr.trans0 h45 (by (repeat (first | exact Fr.refl _ _ | assumption | apply Fr.drewN | apply Fr.drew | apply Fr.alloc | refine Fr.setCell ?_ (Or.inl (by simp)) _)) : Fr [] wA _)) hf6; have k30 := (h46.cell (p := ⟨w3.heap.size, 0, none⟩) xl (by simp)).trans x0; have k31 := (h46.cell (p := ⟨w3.heap.size, 1, none⟩) xl (by simp)).trans x1; have n30 := World.new_ne wB _ k30; have n31 := World.new_ne wB _ k31; obtain ⟨c6, z6⟩ := frcell hf6; (try (have s3 : wA.heap.size < wB.heap.size := by have h := hf6.size; simp at h; omega)); (try (have s4 : w5.heap.size < wB.heap.size := by have h := hf6.size; simp at h; omega))))
        · have hC : Hid True := Lib.hid trivial
          have H46 := Lib.hid h46
          have Hr6 := Lib.hid hr6
          have Hlo6 := Lib.hid hlo6
          have Hsz := Lib.hid (And.intro h45.size hf6.size)
          have Hs45 := h45.size
          have Hs46 := h46.size
          clear h46 h45 hr6 hlo6 hf0 hf6 hr5 hlo5 n10 n11 n20 n21 n30 n31 k20 k21
          go_wp2_with fail
          go_meet
          refine ⟨wB.heap.size, ra, rc, rfl, rfl, Lib.hid ?_, Lib.hid ?_, Lib.hid ?_⟩
          · have hC1 := hC.out
            first
              | ((repeat (first | rw [if_pos (by omega)] | rw [if_neg (by omega)] | rw [hp_drew] | rw [hp_drewN] | rw [hp_alloc_size] | rw [hp_setCell_size] | rw [hp_alloc] | rw [hp_setCell] | rw [Option.map_some] | rw [upd_cells] | rw [List.set_cons_zero] | rw [List.set_cons_succ] | rfl)); done)
              | ((repeat (first | rw [if_pos (by omega)] | rw [if_neg (by omega)] | rw [hp_drew] | rw [hp_drewN] | rw [hp_alloc_size] | rw [hp_setCell_size] | rw [hp_alloc] | rw [hp_setCell] | rw [Option.map_some] | rw [upd_cells] | rw [List.set_cons_zero] | rw [List.set_cons_succ] | rfl)); rw [hC1]; (repeat (first | rw [if_pos (by omega)] | rw [if_neg (by omega)] | rw [hp_drew] | rw [hp_drewN] | rw [hp_alloc_size] | rw [hp_setCell_size] | rw [hp_alloc] | rw [hp_setCell] | rw [Option.map_some] | rw [upd_cells] | rw [List.set_cons_zero] | rw [List.set_cons_succ] | rfl)))
          · refine Hr6.out.keep fun x hx hl => ?_
            have hlx := Hlo6.out.2 x hx
            have hsz := Hsz.out
            (try simp at hlx)
            (try simp at hsz)
            repeat (first | rw [setCell_else _ _ _ (by simp; omega)] | rw [heap_alloc_else _ _ _ hl] | rw [heap_alloc_else _ _ _ (by simp; omega)])
          · have := H46.out
            repeat (first | exact this | refine Fr.alloc ?_ _ | refine Fr.setCell ?_ (.inr (by first | (simp; done) | (simp; omega))) _)
        · have hblk : wB.heap[wA.heap.size]? = some (.cells #[.bool false, .slice none 0 0] 24 (0, 0)) := (hf6.block wA.heap.size (by simp) (by simp)).trans (by (repeat (first | rw [if_pos (by omega)] | rw [if_neg (by omega)] | rw [hp_drew] | rw [hp_drewN] | rw [hp_alloc_size] | rw [hp_setCell_size] | rw [hp_alloc] | rw [hp_setCell] | rw [Option.map_some] | rw [upd_cells] | rw [List.set_cons_zero] | rw [List.set_cons_succ] | rfl)))
          have hC := Lib.hid hblk
          clear hblk
          have H46 := Lib.hid h46
          have Hr6 := Lib.hid hr6
          have Hlo6 := Lib.hid hlo6
          have Hsz := Lib.hid (And.intro h45.size hf6.size)
          have Hs45 := h45.size
          have Hs46 := h46.size
          clear h46 h45 hr6 hlo6 hf0 hf6 hr5 hlo5 n10 n11 n20 n21 n30 n31 k20 k21
          go_wp2_with fail
          go_meet
          refine ⟨wA.heap.size, ra, rc, rfl, rfl, Lib.hid ?_, Lib.hid ?_, Lib.hid ?_⟩
          · have hC1 := hC.out
            first
              | ((repeat (first | rw [if_pos (by omega)] | rw [if_neg (by omega)] | rw [hp_drew] | rw [hp_drewN] | rw [hp_alloc_size] | rw [hp_setCell_size] | rw [hp_alloc] | rw [hp_setCell] | rw [Option.map_some] | rw [upd_cells] | rw [List.set_cons_zero] | rw [List.set_cons_succ] | rfl)); done)
              | ((repeat (first | rw [if_pos (by omega)] | rw [if_neg (by omega)] | rw [hp_drew] | rw [hp_drewN] | rw [hp_alloc_size] | rw [hp_setCell_size] | rw [hp_alloc] | rw [hp_setCell] | rw [Option.map_some] | rw [upd_cells] | rw [List.set_cons_zero] | rw [List.set_cons_succ] | rfl)); rw [hC1]; (repeat (first | rw [if_pos (by omega)] | rw [if_neg (by omega)] | rw [hp_drew] | rw [hp_drewN] | rw [hp_alloc_size] | rw [hp_setCell_size] | rw [hp_alloc] | rw [hp_setCell] | rw [Option.map_some] | rw [upd_cells] | rw [List.set_cons_zero] | rw [List.set_cons_succ] | rfl)))
          · refine Hr6.out.keep fun x hx hl => ?_
            have hlx := Hlo6.out.2 x hx
            have hsz := Hsz.out
            (try simp at hlx)
            (try simp at hsz)
            repeat (first | rw [setCell_else _ _ _ (by simp; omega)] | rw [heap_alloc_else _ _ _ hl] | rw [heap_alloc_else _ _ _ (by simp; omega)])
          · have := H46.out
            repeat (first | exact this | refine Fr.alloc ?_ _ | refine Fr.setCell ?_ (.inr (by first | (simp; done) | (simp; omega))) _)
        · have hblk : wB.heap[w5.heap.size]? = some (.cells #[.bool false, .slice none 0 0] 24 (0, 0)) := (hf6.block w5.heap.size (by have h := hf0.size; simp at h; omega) (by simp)).trans ((hf0.block w5.heap.size (by simp) (by simp)).trans (by (repeat (first | rw [if_pos (by omega)] | rw [if_neg (by omega)] | rw [hp_drew] | rw [hp_drewN] | rw [hp_alloc_size] | rw [hp_setCell_size] | rw [hp_alloc] | rw [hp_setCell] | rw [Option.map_some] | rw [upd_cells] | rw [List.set_cons_zero] | rw [List.set_cons_succ] | rfl))))
          have hC := Lib.hid hblk
          clear hblk
          have H46 := Lib.hid h46
          have Hr6 := Lib.hid hr6
          have Hlo6 := Lib.hid hlo6
          have Hsz := Lib.hid (And.intro h45.size hf6.size)
          have Hs45 := h45.size
          have Hs46 := h46.size
          clear h46 h45 hr6 hlo6 hf0 hf6 hr5 hlo5 n10 n11 n20 n21 n30 n31 k20 k21
          go_wp2_with fail
          go_meet
          refine ⟨w5.heap.size, ra, rc, rfl, rfl, Lib.hid ?_, Lib.hid ?_, Lib.hid ?_⟩
          · have hC1 := hC.out
            first
              | ((repeat (first | rw [if_pos (by omega)] | rw [if_neg (by omega)] | rw [hp_drew] | rw [hp_drewN] | rw [hp_alloc_size] | rw [hp_setCell_size] | rw [hp_alloc] | rw [hp_setCell] | rw [Option.map_some] | rw [upd_cells] | rw [List.set_cons_zero] | rw [List.set_cons_succ] | rfl)); done)
              | ((repeat (first | rw [if_pos (by omega)] | rw [if_neg (by omega)] | rw [hp_drew] | rw [hp_drewN] | rw [hp_alloc_size] | rw [hp_setCell_size] | rw [hp_alloc] | rw [hp_setCell] | rw [Option.map_some] | rw [upd_cells] | rw [List.set_cons_zero] | rw [List.set_cons_succ] | rfl)); rw [hC1]; (repeat (first | rw [if_pos (by omega)] | rw [if_neg (by omega)] | rw [hp_drew] | rw [hp_drewN] | rw [hp_alloc_size] | rw [hp_setCell_size] | rw [hp_alloc] | rw [hp_setCell] | rw [Option.map_some] | rw [upd_cells] | rw [List.set_cons_zero] | rw [List.set_cons_succ] | rfl)))
          · refine Hr6.out.keep fun x hx hl => ?_
            have hlx := Hlo6.out.2 x hx
            have hsz := Hsz.out
            (try simp at hlx)
            (try simp at hsz)
            repeat (first | rw [setCell_else _ _ _ (by simp; omega)] | rw [heap_alloc_else _ _ _ hl] | rw [heap_alloc_else _ _ _ (by simp; omega)])
          · have := H46.out
            repeat (first | exact this | refine Fr.alloc ?_ _ | refine Fr.setCell ?_ (.inr (by first | (simp; done) | (simp; omega))) _)
      case rest =>
        obtain ⟨gb, sp, sc, rfl, rfl, HB, HRd, HF⟩ := hcut
        have hf := HF.out
        have hfk : Fr [] w5 wc := Fr.trans0 (by (repeat (first | exact Fr.refl _ _ | assumption | apply Fr.drewN | apply Fr.drew | apply Fr.alloc | refine Fr.setCell ?_ (Or.inr (by simp; try omega)) _))) hf
        (try clear a0)
        (try clear a1)
        (try clear al)
        have ha_ := (hfk.block _ (lt_of_block Ha.out) (by simp)).trans Ha.out
        clear Ha
        have a0 := heap_eq_cell ha_ 0
        have a1 := heap_eq_cell ha_ 1
        have al := lt_of_block ha_
        have Ha := Lib.hid ha_
        clear ha_
        have Hf := Lib.hid (Hf.out.trans0 hfk)
        have HA := Lib.hid (HA.out.fr hfk)
        clear hf hfk
        have hB := HB.out
        have p0 := heap_eq_cell hB 0
        have p1 := heap_eq_cell hB 1
        have pl := lt_of_block hB
        clear hB x0 x1 xl
        by_cases hm : m3 = 0
        · subst hm
          have hl2 := Hl2.out rfl
          have HAd := Lib.hid (fun (w1 : World) (pa : Option Addr) (pc : Nat) (hr : Reads w1 (.slice pa g2.length pc) g2.length 1 (u32s g2)) (hf1 : Fr [] wc w1) => hl2 ▸ Add_calls (na := m1) (nb := g1) (HRd.out.fr hf1) hr HmD.out.1 HgD.out.1 (by have := HmD.out.2; omega) (by have := HgD.out.2; omega))
          clear hl2
          go_upto_region 12 with fail
          go_cut [13, 14] (fun s11 s12 wx => ∃ (g : Nat) (rp : Option Addr) (rc : Nat), s11 = .pointer (some ⟨g, 0, none⟩) ∧ s12 = .int .i64 0 ∧ Hid (wx.heap[g]? = some (.cells #[.bool na, .slice rp da.length rc] 24 (0, 0))) ∧ Hid (Reads wx (.slice rp da.length rc) da.length 1 (u32s da)) ∧ Hid (Fr [] wc wx))
          case first =>
            have n10 := World.new_ne wc _ p0
            have n11 := World.new_ne wc _ p1
            go_region_held3 (fun w' => w'.cell? ⟨gb, 0, none⟩ = some (.bool m1) ∧ w'.cell? ⟨gb, 1, none⟩ = some (.slice sp m2.length sc)) (first | go_keep | exact ⟨k20, k21⟩ | exact ⟨k30, k31⟩)
                (first | (go_at_call 12; refine (HGm.out _).mono ?_; rintro e wA ⟨pa, pc, hlo5, rfl, hr5, hf0⟩; have h45 : Fr [] wc wA := Fr.trans0 (by (repeat (first | exact Fr.refl _ _ | assumption | apply Fr.drewN | apply Fr.drew | apply Fr.alloc | refine Fr.setCell ?_ (Or.inl (by simp)) _))) hf0; have k20 := (h45.cell (p := ⟨gb, 0, none⟩) pl (by simp)).trans p0; have k21 := (h45.cell (p := ⟨gb, 1, none⟩) pl (by simp)).trans p1; have n20 := World.new_ne wA _ k20; have n21 := World.new_ne wA _ k21; obtain ⟨c5, z5⟩ := frcell hf0; (try (have s2 : wc.heap.size < wA.heap.size := by have h := hf0.size; simp at h; omega))) | (go_at_call 25; refine (HAd.out _ _ _ (hr5.fr ?_) ?_).mono ?_; (· (repeat (first | exact Fr.refl _ _ | assumption | apply Fr.drewN | apply Fr.drew | apply Fr.alloc | refine Fr.setCell ?_ (Or.inl (by simp)) _))); (· refine Fr.trans0 h45 ?_; (repeat (first | exact Fr.refl _ _ | assumption | apply Fr.drewN | apply Fr.drew | apply Fr.alloc | refine Fr.setCell ?_ (Or.inl (by simp)) _))); rintro e wB ⟨ra, rc, hlo6, rfl, hr6, hf6⟩; have h46 : Fr [] wc wB := Fr.trans0 (Fr.trans0 h45 (by (repeat (first | exact Fr.refl _ _ | assumption | apply Fr.drewN | apply Fr.drew | apply Fr.alloc | refine Fr.setCell ?_ (Or.inl (by simp)) _)) : Fr [] wA _)) hf6; have k30 := (h46.cell (p := ⟨gb, 0, none⟩) pl (by simp)).trans p0; have k31 := (h46.cell (p := ⟨gb, 1, none⟩) pl (by simp)).trans p1; have n30 := World.new_ne wB _ k30; have n31 := World.new_ne wB _ k31; obtain ⟨c6, z6⟩ := frcell hf6; (try (have s3 : wA.heap.size < wB.heap.size := by have h := hf6.size; simp at h; omega)); (try (have s4 : wc.heap.size < wB.heap.size := by have h := hf6.size; simp at h; omega))))
            · have hC : Hid True := Lib.hid trivial
              have H46 := Lib.hid h46
              have Hr6 := Lib.hid hr6
              have Hlo6 := Lib.hid hlo6
              have Hsz := Lib.hid (And.intro h45.size hf6.size)
              have Hs45 := h45.size
              have Hs46 := h46.size
              clear h46 h45 hr6 hlo6 hf0 hf6 hr5 hlo5 n10 n11 n20 n21 n30 n31 k20 k21
              go_wp2_with fail
              go_meet
              refine ⟨wB.heap.size, ra, rc, rfl, rfl, Lib.hid ?_, Lib.hid ?_, Lib.hid ?_⟩
              · have hC1 := hC.out
                first
                  | ((repeat (first | rw [if_pos (by omega)] | rw [if_neg (by omega)] | rw [hp_drew] | rw [hp_drewN] | rw [hp_alloc_size] | rw [hp_setCell_size] | rw [hp_alloc] | rw [hp_setCell] | rw [Option.map_some] | rw [upd_cells] | rw [List.set_cons_zero] | rw [List.set_cons_succ] | rfl)); done)
                  | ((repeat (first | rw [if_pos (by omega)] | rw [if_neg (by omega)] | rw [hp_drew] | rw [hp_drewN] | rw [hp_alloc_size] | rw [hp_setCell_size] | rw [hp_alloc] | rw [hp_setCell] | rw [Option.map_some] | rw [upd_cells] | rw [List.set_cons_zero] | rw [List.set_cons_succ] | rfl)); rw [hC1]; (repeat (first | rw [if_pos (by omega)] | rw [if_neg (by omega)] | rw [hp_drew] | rw [hp_drewN] | rw [hp_alloc_size] | rw [hp_setCell_size] | rw [hp_alloc] | rw [hp_setCell] | rw [Option.map_some] | rw [upd_cells] | rw [List.set_cons_zero] | rw [List.set_cons_succ] | rfl)))
              · refine Hr6.out.keep fun x hx hl => ?_
                have hlx := Hlo6.out.2 x hx
                have hsz := Hsz.out
                (try simp at hlx)
                (try simp at hsz)
                repeat (first | rw [setCell_else _ _ _ (by simp; omega)] | rw [heap_alloc_else _ _ _ hl] | rw [heap_alloc_else _ _ _ (by simp; omega)])
              · have := H46.out
                repeat (first | exact this | refine Fr.alloc ?_ _ | refine Fr.setCell ?_ (.inr (by first | (simp; done) | (simp; omega))) _)
            · have hblk : wB.heap[wA.heap.size]? = some (.cells #[.bool false, .slice none 0 0] 24 (0, 0)) := (hf6.block wA.heap.size (by simp) (by simp)).trans (by (repeat (first | rw [if_pos (by omega)] | rw [if_neg (by omega)] | rw [hp_drew] | rw [hp_drewN] | rw [hp_alloc_size] | rw [hp_setCell_size] | rw [hp_alloc] | rw [hp_setCell] | rw [Option.map_some] | rw [upd_cells] | rw [List.set_cons_zero] | rw [List.set_cons_succ] | rfl)))
              have hC := Lib.hid hblk
              clear hblk
              have H46 := Lib.hid h46
              have Hr6 := Lib.hid hr6
              have Hlo6 := Lib.hid hlo6
              have Hsz := Lib.hid (And.intro h45.size hf6.size)
              have Hs45 := h45.size
              have Hs46 := h46.size
              clear h46 h45 hr6 hlo6 hf0 hf6 hr5 hlo5 n10 n11 n20 n21 n30 n31 k20 k21
              go_wp2_with fail
              go_meet
              refine ⟨wA.heap.size, ra, rc, rfl, rfl, Lib.hid ?_, Lib.hid ?_, Lib.hid ?_⟩
              · have hC1 := hC.out
                first
                  | ((repeat (first | rw [if_pos (by omega)] | rw [if_neg (by omega)] | rw [hp_drew] | rw [hp_drewN] | rw [hp_alloc_size] | rw [hp_setCell_size] | rw [hp_alloc] | rw [hp_setCell] | rw [Option.map_some] | rw [upd_cells] | rw [List.set_cons_zero] | rw [List.set_cons_succ] | rfl)); done)
                  | ((repeat (first | rw [if_pos (by omega)] | rw [if_neg (by omega)] | rw [hp_drew] | rw [hp_drewN] | rw [hp_alloc_size] | rw [hp_setCell_size] | rw [hp_alloc] | rw [hp_setCell] | rw [Option.map_some] | rw [upd_cells] | rw [List.set_cons_zero] | rw [List.set_cons_succ] | rfl)); rw [hC1]; (repeat (first | rw [if_pos (by omega)] | rw [if_neg (by omega)] | rw [hp_drew] | rw [hp_drewN] | rw [hp_alloc_size] | rw [hp_setCell_size] | rw [hp_alloc] | rw [hp_setCell] | rw [Option.map_some] | rw [upd_cells] | rw [List.set_cons_zero] | rw [List.set_cons_succ] | rfl)))
              · refine Hr6.out.keep fun x hx hl => ?_
                have hlx := Hlo6.out.2 x hx
                have hsz := Hsz.out
                (try simp at hlx)
                (try simp at hsz)
                repeat (first | rw [setCell_else _ _ _ (by simp; omega)] | rw [heap_alloc_else _ _ _ hl] | rw [heap_alloc_else _ _ _ (by simp; omega)])
              · have := H46.out
                repeat (first | exact this | refine Fr.alloc ?_ _ | refine Fr.setCell ?_ (.inr (by first | (simp; done) | (simp; omega))) _)
            · have hblk : wB.heap[wc.heap.size]? = some (.cells #[.bool false, .slice none 0 0] 24 (0, 0)) := (hf6.block wc.heap.size (by have h := hf0.size; simp at h; omega) (by simp)).trans ((hf0.block wc.heap.size (by simp) (by simp)).trans (by (repeat (first | rw [if_pos (by omega)] | rw [if_neg (by omega)] | rw [hp_drew] | rw [hp_drewN] | rw [hp_alloc_size] | rw [hp_setCell_size] | rw [hp_alloc] | rw [hp_setCell] | rw [Option.map_some] | rw [upd_cells] | rw [List.set_cons_zero] | rw [List.set_cons_succ] | rfl))))
              have hC := Lib.hid hblk
              clear hblk
              have H46 := Lib.hid h46
              have Hr6 := Lib.hid hr6
              have Hlo6 := Lib.hid hlo6
              have Hsz := Lib.hid (And.intro h45.size hf6.size)
              have Hs45 := h45.size
              have Hs46 := h46.size
              clear h46 h45 hr6 hlo6 hf0 hf6 hr5 hlo5 n10 n11 n20 n21 n30 n31 k20 k21
              go_wp2_with fail
              go_meet
              refine ⟨wc.heap.size, ra, rc, rfl, rfl, Lib.hid ?_, Lib.hid ?_, Lib.hid ?_⟩
              · have hC1 := hC.out
                first
                  | ((repeat (first | rw [if_pos (by omega)] | rw [if_neg (by omega)] | rw [hp_drew] | rw [hp_drewN] | rw [hp_alloc_size] | rw [hp_setCell_size] | rw [hp_alloc] | rw [hp_setCell] | rw [Option.map_some] | rw [upd_cells] | rw [List.set_cons_zero] | rw [List.set_cons_succ] | rfl)); done)
                  | ((repeat (first | rw [if_pos (by omega)] | rw [if_neg (by omega)] | rw [hp_drew] | rw [hp_drewN] | rw [hp_alloc_size] | rw [hp_setCell_size] | rw [hp_alloc] | rw [hp_setCell] | rw [Option.map_some] | rw [upd_cells] | rw [List.set_cons_zero] | rw [List.set_cons_succ] | rfl)); rw [hC1]; (repeat (first | rw [if_pos (by omega)] | rw [if_neg (by omega)] | rw [hp_drew] | rw [hp_drewN] | rw [hp_alloc_size] | rw [hp_setCell_size] | rw [hp_alloc] | rw [hp_setCell] | rw [Option.map_some] | rw [upd_cells] | rw [List.set_cons_zero] | rw [List.set_cons_succ] | rfl)))
              · refine Hr6.out.keep fun x hx hl => ?_
                have hlx := Hlo6.out.2 x hx
                have hsz := Hsz.out
                (try simp at hlx)
                (try simp at hsz)
                repeat (first | rw [setCell_else _ _ _ (by simp; omega)] | rw [heap_alloc_else _ _ _ hl] | rw [heap_alloc_else _ _ _ (by simp; omega)])
              · have := H46.out
                repeat (first | exact this | refine Fr.alloc ?_ _ | refine Fr.setCell ?_ (.inr (by first | (simp; done) | (simp; omega))) _)
          case rest =>
            obtain ⟨gd, tp, tc, rfl, rfl, HBd, HRe, HFd⟩ := hcut
            have hf := HFd.out
            have hfk := hf
            (try clear a0)
            (try clear a1)
            (try clear al)
            have ha_ := (hfk.block _ (lt_of_block Ha.out) (by simp)).trans Ha.out
            clear Ha
            have a0 := heap_eq_cell ha_ 0
            have a1 := heap_eq_cell ha_ 1
            have al := lt_of_block ha_
            have Ha := Lib.hid ha_
            clear ha_
            have Hf := Lib.hid (Hf.out.trans0 hf)
            have HA := Lib.hid (HA.out.fr hf)
            clear hf hfk p0 p1 pl
            have hB := HBd.out
            have q0 := heap_eq_cell hB 0
            have q1 := heap_eq_cell hB 1
            have ql := lt_of_block hB
            clear hB
            go_wp2_with fail
            refine (Same_calls (HRe.out.fr (by (repeat (first | exact Fr.refl _ _ | assumption | apply Fr.drewN | apply Fr.drew | apply Fr.alloc | refine Fr.setCell ?_ (Or.inr (by simp; try omega)) _)))) (HA.out.fr (by (repeat (first | exact Fr.refl _ _ | assumption | apply Fr.drewN | apply Fr.drew | apply Fr.alloc | refine Fr.setCell ?_ (Or.inr (by simp; try omega)) _)))) (by omega) (by omega)).mono ?_
            rintro e w10 ⟨rfl, hf⟩
            rw [same_self]
            have Hf := Lib.hid (Hf.out.trans0 (Fr.trans0 (by (repeat (first | exact Fr.refl _ _ | assumption | apply Fr.drewN | apply Fr.drew | apply Fr.alloc | refine Fr.setCell ?_ (Or.inr (by simp; try omega)) _))) hf))
            clear hf
            go_wp2_with fail
            refine (alive_calls _).mono ?_
            rintro e w9 ⟨rfl, hf⟩
            have Hf := Lib.hid (Hf.out.trans0 (Fr.trans0 (by (repeat (first | exact Fr.refl _ _ | assumption | apply Fr.drewN | apply Fr.drew | apply Fr.alloc | refine Fr.setCell ?_ (Or.inr (by simp; try omega)) _)) : Fr [] w10 _) hf))
            clear hf
            go_wp2
            go_ret
            exact ⟨rfl, Hf.out⟩
        · have hl1 := Hl1.out
          obtain rfl : m3 = 6 := hl1.resolve_left hm
          clear hm hl1
          go_wp2_with fail
          refine (alive_calls _).mono ?_
          rintro e w9 ⟨rfl, hf⟩
          have Hf := Lib.hid (Hf.out.trans0 (Fr.trans0 (by (repeat (first | exact Fr.refl _ _ | assumption | apply Fr.drewN | apply Fr.drew | apply Fr.alloc | refine Fr.setCell ?_ (Or.inr (by simp; try omega)) _)) : Fr [] wc _) hf))
          clear hf
          go_wp2
          go_ret
          exact ⟨rfl, Hf.out⟩
    ·
      go_wp2_with fail
      refine (alive_calls _).mono ?_
      rintro e w9 ⟨rfl, hf⟩
      have Hf := Lib.hid (Hf.out.trans0 (Fr.trans0 (by (repeat (first | exact Fr.refl _ _ | assumption | apply Fr.drewN | apply Fr.drew | apply Fr.alloc | refine Fr.setCell ?_ (Or.inr (by simp; try omega)) _)) : Fr [] w5 _) hf))
      clear hf
      go_wp2
      go_ret
      exact ⟨rfl, Hf.out⟩
  · have hd1 : decide (da.length ≤ 100) = false := by simpa using hla
    go_enter Tryd.func6, Tryd.ntmps6
    go_wp2_with fail
    refine short_calls.mono ?_
    rintro e w1 ⟨rfl, hf⟩
    have ha_ := (hf.block (w.heap.size) (by first | (simp; done) | (simp; omega)) (by simp)).trans (show _ = some (.cells #[.bool na, .slice a da.length ac] 24 (0, 0)) by (repeat (first | rw [if_pos (by omega)] | rw [if_neg (by omega)] | rw [hp_drew] | rw [hp_drewN] | rw [hp_alloc_size] | rw [hp_setCell_size] | rw [hp_alloc] | rw [hp_setCell] | rw [Option.map_some] | rw [upd_cells] | rw [List.set_cons_zero] | rw [List.set_cons_succ] | rfl)))
    have a0 := heap_eq_cell ha_ 0
    have a1 := heap_eq_cell ha_ 1
    have al := lt_of_block ha_
    have Ha := Lib.hid ha_
    clear ha_
    have hf01 : Fr [] w w1 := Fr.trans0 (by (repeat (first | exact Fr.refl _ _ | assumption | apply Fr.drewN | apply Fr.drew | apply Fr.alloc | refine Fr.setCell ?_ (Or.inr (by simp; try omega)) _))) hf
    have Hf := Lib.hid hf01
    have HA := Lib.hid (HA.out.fr hf01)
    clear hf hf01
    rw [hd1]
    clear hd1
    go_wp2_with fail
    refine (alive_calls _).mono ?_
    rintro e w9 ⟨rfl, hf⟩
    have Hf := Lib.hid (Hf.out.trans0 (Fr.trans0 (by (repeat (first | exact Fr.refl _ _ | assumption | apply Fr.drewN | apply Fr.drew | apply Fr.alloc | refine Fr.setCell ?_ (Or.inr (by simp; try omega)) _)) : Fr [] w1 _) hf))
    clear hf
    go_wp2
    go_ret
    exact ⟨rfl, Hf.out⟩
end Go.Proofs.YtbacamboknmppaaDoor
