/- The reference of big integers: Same. -/
import Derived.Test.YtbacamboknmppaaDoorKa
namespace Go.Proofs.YtbacamboknmppaaDoor
open Go Go.RowKit Go.Proofs.Rg Go.Proofs.Hp Go.Proofs.Bn
set_option linter.unusedVariables false
set_option linter.unusedSimpArgs false
theorem take_eq_succ {a b : List Nat} {i : Nat} (hi : i < a.length) (hl : a.length = b.length) (hd : a.take i = b.take i) (h : a.getD i 0 = b.getD i 0) : a.take (i + 1) = b.take (i + 1) := by
  rw [List.take_add_one, List.take_add_one, hd, List.getElem?_eq_getElem hi, List.getElem?_eq_getElem (by omega : i < b.length)]
  rw [List.getD_eq_getElem?_getD, List.getD_eq_getElem?_getD, List.getElem?_eq_getElem hi, List.getElem?_eq_getElem (by omega)] at h
  simp at h
  rw [h]
set_option maxHeartbeats 4000000 in
set_option maxRecDepth 100000 in
theorem Same_calls {w : World} {na nb : Bool} {da db : List Nat} {va vb : Value} (ha : Reads w va da.length 1 (u32s da)) (hb : Reads w vb db.length 1 (u32s db)) (hla : da.length ≤ 10000) (hlb : db.length ≤ 10000) :
    Calls Tryd.prog 15 #[.agg #[.bool na, va], .agg #[.bool nb, vb]] w fun e w' => e = .returned (.bool ((na == nb) && decide (da = db))) ∧ Fr [] w w' := by
  obtain ⟨_, a, ac, rfl, haa⟩ := ha
  obtain ⟨_, b, bc, rfl, hbb⟩ := hb
  have Ha := Lib.hid haa
  have Hb := Lib.hid hbb
  obtain ⟨r, hS⟩ : ∃ r, r = ((na == nb) && decide (da = db)) := ⟨_, rfl⟩
  rw [← hS]
  clear haa hbb
  by_cases hne : na = nb
  rotate_left
  · have hr : r = false := by rw [hS, beq_eq_false_iff_ne.2 hne]; rfl
    subst hr
    clear hS
    cases na <;> cases nb <;> first | (exact absurd rfl hne) | clear hne
    all_goals
      go_enter Tryd.func15, Tryd.ntmps15
      go_wp2
      go_ret
      exact ⟨rfl, by (repeat (first | exact Fr.refl _ _ | assumption | apply Fr.drewN | apply Fr.drew | apply Fr.alloc | refine Fr.setCell ?_ (Or.inr (by simp; try omega)) _))⟩
  · subst hne
    have hd : (na != na) = false := by simp
    rw [show (na == na) = true by simp, Bool.true_and] at hS
    by_cases hll : da.length = db.length
    rotate_left
    · have hd2 : ((da.length : Int) != db.length) = true := by rw [bne_iff_ne]; omega
      have hr : r = false := by rw [hS]; exact decide_eq_false fun e => hll (by rw [e])
      subst hr
      clear hS hll
      cases na
      all_goals
        go_enter Tryd.func15, Tryd.ntmps15
        go_wp2
        go_ret
        exact ⟨rfl, by (repeat (first | exact Fr.refl _ _ | assumption | apply Fr.drewN | apply Fr.drew | apply Fr.alloc | refine Fr.setCell ?_ (Or.inr (by simp; try omega)) _))⟩
    · have hd2 : ((da.length : Int) != db.length) = false := by simp; omega
      obtain ⟨n, hn⟩ : ∃ n, da.length = n := ⟨_, rfl⟩
      have hnb : db.length = n := by omega
      rw [hn] at Ha hd2 hla ⊢
      rw [hnb] at Hb hd2 ⊢
      have Hn := Lib.hid (And.intro hn hnb)
      have HS := Lib.hid hS
      clear hS hll hn hnb hlb
      go_enter Tryd.func15, Tryd.ntmps15
      cases na
      all_goals
        go_wp2_with fail
        go_loopw [5] (fun x5 wl => ∃ i : Nat, x5 = .int .i64 i ∧ i ≤ n ∧ da.take i = db.take i ∧ Fr [] w wl ∧ wl.heap[w.heap.size]? = some (.cells #[.bool _, .slice a n ac] 24 (0, 0)) ∧ wl.heap[w.heap.size + 1]? = some (.cells #[.bool _, .slice b n bc] 24 (0, 0))) (fun x5 _ => n - (intOf x5).toNat)
        case atStart => exact ⟨0, rfl, by omega, rfl, by (repeat (first | exact Fr.refl _ _ | assumption | apply Fr.drewN | apply Fr.drew | apply Fr.alloc | refine Fr.setCell ?_ (Or.inr (by simp; try omega)) _)), by (repeat (first | rw [if_pos (by omega)] | rw [if_neg (by omega)] | rw [hp_drew] | rw [hp_drewN] | rw [hp_alloc_size] | rw [hp_setCell_size] | rw [hp_alloc] | rw [hp_setCell] | rw [Option.map_some] | rw [upd_cells] | rw [List.set_cons_zero] | rw [List.set_cons_succ] | rfl)), by (repeat (first | rw [if_pos (by omega)] | rw [if_neg (by omega)] | rw [hp_drew] | rw [hp_drewN] | rw [hp_alloc_size] | rw [hp_setCell_size] | rw [hp_alloc] | rw [hp_setCell] | rw [Option.map_some] | rw [upd_cells] | rw [List.set_cons_zero] | rw [List.set_cons_succ] | rfl))⟩
        case round =>
          obtain ⟨i, rfl, hi, hT, hf, hA, hB⟩ := hrel
          have a0 := heap_eq_cell hA 0
          have a1 := heap_eq_cell hA 1
          have al := lt_of_block hA
          have b0 := heap_eq_cell hB 0
          have b1 := heap_eq_cell hB 1
          have bl := lt_of_block hB
          have HA := Lib.hid hA
          have HB := Lib.hid hB
          have HT := Lib.hid hT
          have Hf := Lib.hid hf
          clear hT hA hB
          by_cases hin : i < n
          · obtain ⟨g1, o1, rfl, hg1, hc1⟩ := Ha.out (by omega)
            obtain ⟨g2, o2, rfl, hg2, hc2⟩ := Hb.out (by omega)
            have e1 := (hf.cell (p := ⟨g1, o1 + i, none⟩) hg1 (by simp)).trans (hc1 i _ (u32s_get (by have := Hn.out; omega)))
            have e2 := (hf.cell (p := ⟨g2, o2 + i, none⟩) hg2 (by simp)).trans (hc2 i _ (u32s_get (by have := Hn.out; omega)))
            have Hst := Lib.hid (fun h => take_eq_succ (i := i) (by have := Hn.out; omega) (by have := Hn.out; omega) HT.out h)
            have Hne := Lib.hid (fun (h : da.getD i 0 ≠ db.getD i 0) => (fun e => h (by rw [e]) : da ≠ db))
            clear hc1 hc2 hf
            generalize da.getD i 0 = x at *
            generalize db.getD i 0 = y at *
            by_cases hxy : x = y
            · have hb : ((x : Int) != y) = false := by rw [hxy]; simp
              have Hxy := Lib.hid hxy
              clear hxy
              go_wp2
              (refine wp_region_text (by kernel_rfl) (by kernel_rfl) ?_)
              go_wp2
              refine Strict.intro rfl ?_
              go_wp2
              go_roundw
              case rel => exact ⟨i + 1, by go_num, by omega, Hst.out Hxy.out, Hf.out.drewN 1, HA.out, HB.out⟩
              case measure => simp [intOf]; omega
            · have hb : ((x : Int) != y) = true := by rw [bne_iff_ne]; omega
              have hr : r = false := by rw [HS.out]; exact decide_eq_false (Hne.out hxy)
              have Hr := Lib.hid hr
              clear hxy hr
              go_wp2
              (refine wp_region_text (by kernel_rfl) (by kernel_rfl) ?_)
              go_wp2
              refine Strict.intro rfl ?_
              go_wp2
              go_ret
              exact ⟨by rw [Hr.out]; rfl, Hf.out.drewN 1⟩
          · have hr : r = true := by
              rw [HS.out]
              have h := HT.out
              rw [List.take_of_length_le (by have := Hn.out; omega), List.take_of_length_le (by have := Hn.out; omega)] at h
              exact decide_eq_true h
            have Hr := Lib.hid hr
            obtain rfl : i = n := by omega
            clear hr hf
            go_wp2
            go_ret
            exact ⟨by rw [Hr.out]; rfl, Hf.out⟩
end Go.Proofs.YtbacamboknmppaaDoor
