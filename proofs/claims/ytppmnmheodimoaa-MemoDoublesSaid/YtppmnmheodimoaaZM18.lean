/- Own texts of this claim, part 19: no condition. -/
import Derived.Test.YtppmnmheodimoaaZM17
section
/- Rules: Right of package tree. -/
namespace Go.Proofs.Ev
open Go.Proofs.Qs
set_option linter.unusedVariables false
set_option linter.unusedSimpArgs false
theorem rightR_S {r : Rule} (h : ¬ (2 ≤ r.S ∧ r.S ≤ 8)) : rightR r = false := by
  unfold rightR
  rw [decide_eq_false h]; simp
theorem rightR_hood {r : Rule} (h : hoodR r.hood = false) : rightR r = false := by
  unfold rightR
  rw [h]; simp
theorem rightR_len {r : Rule} (h : ¬ (1 ≤ r.nodes.length ∧ r.nodes.length ≤ 4096)) : rightR r = false := by
  unfold rightR
  rw [decide_eq_false h]; simp
theorem rightR_root {r : Rule} (h : ¬ levelAt r (r.nodes.length - 1 : Int) = r.hood.length) : rightR r = false := by
  unfold rightR
  rw [decide_eq_false h]; simp
theorem rightR_node {r : Rule} {i : Nat} (hi : i < r.nodes.length) (h : nodeOK r i = false) : rightR r = false := by
  unfold rightR
  have : (List.range r.nodes.length).all (nodeOK r) = false := by
    rw [List.all_eq_false]
    exact ⟨i, List.mem_range.2 hi, by rw [h]; simp⟩
  rw [this, Bool.and_false]
theorem rightR_true {r : Rule} (h1 : 2 ≤ r.S ∧ r.S ≤ 8) (h2 : hoodR r.hood = true) (h3 : 1 ≤ r.nodes.length ∧ r.nodes.length ≤ 4096) (h4 : levelAt r (r.nodes.length - 1 : Int) = r.hood.length) (h5 : ∀ i, i < r.nodes.length → nodeOK r i = true) : rightR r = true := by
  unfold rightR
  rw [decide_eq_true h1, h2, decide_eq_true h3, decide_eq_true h4, Bool.true_and, Bool.true_and, Bool.true_and, Bool.true_and, List.all_eq_true]
  exact fun i hi => h5 i (List.mem_range.1 hi)
theorem levelAt_of {r : Rule} {i : Nat} {x : Int × List Int} (hx : r.nodes[i]? = some x) : levelAt r i = x.1 := by
  unfold levelAt
  rw [Int.toNat_natCast, List.getD_eq_getElem?_getD, hx]; rfl
theorem levelAt_last {r : Rule} {x : Int × List Int} (h : 1 ≤ r.nodes.length) (hx : r.nodes[r.nodes.length - 1]? = some x) : levelAt r (r.nodes.length - 1 : Int) = x.1 := by
  rw [show ((r.nodes.length : Int) - 1) = ((r.nodes.length - 1 : Nat) : Int) by omega]
  exact levelAt_of hx
theorem nodeOK_eq {r : Rule} {i : Nat} {x : Int × List Int} (hx : r.nodes[i]? = some x) : nodeOK r i = (decide (1 ≤ x.1 ∧ x.1 ≤ r.hood.length ∧ ((x.2.length : Nat) : Int) = r.S) && x.2.all (entOK r x.1 i)) := by
  unfold nodeOK
  rw [List.getD_eq_getElem?_getD, hx]; rfl
theorem all_false {α : Type} {l : List α} {f : α → Bool} {i : Nat} {x : α} (hx : l[i]? = some x) (h : f x = false) : l.all f = false := by
  rw [List.all_eq_false]
  exact ⟨x, List.mem_of_getElem? hx, by rw [h]; simp⟩
theorem all_true {α : Type} {l : List α} {f : α → Bool} (h : ∀ i x, l[i]? = some x → i < l.length → f x = true) : l.all f = true := by
  rw [List.all_eq_true]
  intro x hx
  obtain ⟨i, hi, rfl⟩ := List.mem_iff_getElem.1 hx
  exact h i _ (List.getElem?_eq_getElem hi) hi
theorem entOK_neg {r : Rule} {lv : Int} {i : Nat} {k : Int} (h : k < 0) : entOK r lv i k = false := by unfold entOK; rw [decide_eq_false (by omega)]; simp
theorem entOK_one {r : Rule} {lv : Int} {i : Nat} {k : Int} (h : 0 ≤ k) (h1 : lv = 1) : entOK r lv i k = decide (k < r.S) := by unfold entOK; rw [decide_eq_true h, if_pos h1, if_neg (by omega)]; simp
theorem entOK_more {r : Rule} {lv : Int} {i : Nat} {k : Int} (h : 0 ≤ k) (h1 : 1 < lv) : entOK r lv i k = decide (k < i ∧ levelAt r k = lv - 1) := by unfold entOK; rw [decide_eq_true h, if_pos h1, if_neg (by omega)]; simp
end Go.Proofs.Ev
namespace Go.Proofs.Ytppmnmheodimoaa
open Go Go.RowKit Go.Proofs.Rg Go.Proofs.Hp Go.Proofs.Ev
set_option linter.unusedVariables false
set_option maxHeartbeats 16000000 in
set_option maxRecDepth 100000 in
theorem TRight_calls {w : World} {r : Rule} {ha na : Option Addr} {hc nc : Nat} (hr : RuleAt w (.slice ha r.hood.length hc) (.slice na r.nodes.length nc) r) (hlh : r.hood.length ≤ 1000000) (hln : r.nodes.length ≤ 1000000) :
    Calls Try.prog 37 #[.agg #[.int .i64 r.S, .slice ha r.hood.length hc, .slice na r.nodes.length nc]] w fun e w' => e = .returned (.bool (rightR r)) ∧ Fr [] w w' := by
  have hh := fun w1 (hf : Fr [] w w1) => HRight_calls (hr.1.fr hf) hlh
  have HH := Lib.hid hh
  have Hr := Lib.hid hr.2
  clear hh hr
  by_cases hS : 2 ≤ r.S ∧ r.S ≤ 8
  · obtain ⟨hs1, hs2⟩ := hS
    cases hH : hoodR r.hood with
    | false =>
      have HN := Lib.hid (rightR_hood hH)
      rw [hH] at HH
      clear hH
      go_enter Try.func37, Try.ntmps37
      go_wp2
      (refine wp_region_text (by kernel_rfl) (by kernel_rfl) ?_)
      go_wp2_with fail
      refine (HH.out _ (by (repeat (first | exact Fr.refl _ _ | assumption | apply Fr.drewN | apply Fr.drew | apply Fr.alloc | refine Fr.setCell ?_ (Or.inr (by simp; try omega)) _)))).mono ?_
      rintro e w1 ⟨rfl, hf⟩
      have hb_ := (hf.block (w.heap.size) (by first | (simp; done) | (simp; omega)) (by simp)).trans (show _ = some (.cells #[.int .i64 r.S, .slice ha r.hood.length hc, .slice na r.nodes.length nc] 31 (0, 0)) by (repeat (first | rw [if_pos (by omega)] | rw [if_neg (by omega)] | rw [hp_drew] | rw [hp_drewN] | rw [hp_alloc_size] | rw [hp_setCell_size] | rw [hp_alloc] | rw [hp_setCell] | rw [Option.map_some] | rw [upd_cells] | rw [List.set_cons_zero] | rw [List.set_cons_succ] | rfl)))
      have b0 := heap_eq_cell hb_ 0
      have b1 := heap_eq_cell hb_ 1
      have b2 := heap_eq_cell hb_ 2
      have bl := lt_of_block hb_
      have Hb := Lib.hid hb_
      clear hb_
      have Hf := Lib.hid (Fr.trans0 (by (repeat (first | exact Fr.refl _ _ | assumption | apply Fr.drewN | apply Fr.drew | apply Fr.alloc | refine Fr.setCell ?_ (Or.inr (by simp; try omega)) _)) : Fr [] w _) hf)
      clear hf
      go_wp2
      all_goals
        refine Strict.intro rfl ?_
        go_wp2
        go_ret
        exact ⟨ret_bool' HN.out.symm, by first | ((repeat (first | exact Fr.refl _ _ | assumption | apply Fr.drewN | apply Fr.drew | apply Fr.alloc | refine Fr.setCell ?_ (Or.inr (by simp; try omega)) _)); done) | (have := Hf.out; (repeat (first | exact Fr.refl _ _ | assumption | apply Fr.drewN | apply Fr.drew | apply Fr.alloc | refine Fr.setCell ?_ (Or.inr (by simp; try omega)) _)); done)⟩
    | true =>
      rw [hH] at HH
      have HHT := Lib.hid hH
      clear hH
      by_cases hn : 1 ≤ r.nodes.length ∧ r.nodes.length ≤ 4096
      · obtain ⟨hn1, hn2⟩ := hn
        obtain ⟨⟨lv, nx⟩, hx⟩ : ∃ x, r.nodes[r.nodes.length - 1]? = some x := ⟨_, List.getElem?_eq_getElem (by omega)⟩
        have hroot := levelAt_last hn1 hx
        obtain ⟨m, hm⟩ : ∃ m, r.nodes.length - 1 = m := ⟨_, rfl⟩
        have hm' : (r.nodes.length : Int) - 1 = m := by omega
        rw [hm] at hx
        by_cases hl : lv = r.hood.length
        · have hlb : (lv != (r.hood.length : Int)) = false := by simp [hl]
          have HRT := Lib.hid (hroot.trans hl)
          clear hroot
          go_enter Try.func37, Try.ntmps37
          go_wp2
          (refine wp_region_text (by kernel_rfl) (by kernel_rfl) ?_)
          go_wp2_with fail
          refine (HH.out _ (by (repeat (first | exact Fr.refl _ _ | assumption | apply Fr.drewN | apply Fr.drew | apply Fr.alloc | refine Fr.setCell ?_ (Or.inr (by simp; try omega)) _)))).mono ?_
          rintro e w1 ⟨rfl, hf⟩
          have hb_ := (hf.block (w.heap.size) (by first | (simp; done) | (simp; omega)) (by simp)).trans (show _ = some (.cells #[.int .i64 r.S, .slice ha r.hood.length hc, .slice na r.nodes.length nc] 31 (0, 0)) by (repeat (first | rw [if_pos (by omega)] | rw [if_neg (by omega)] | rw [hp_drew] | rw [hp_drewN] | rw [hp_alloc_size] | rw [hp_setCell_size] | rw [hp_alloc] | rw [hp_setCell] | rw [Option.map_some] | rw [upd_cells] | rw [List.set_cons_zero] | rw [List.set_cons_succ] | rfl)))
          have b0 := heap_eq_cell hb_ 0
          have b1 := heap_eq_cell hb_ 1
          have b2 := heap_eq_cell hb_ 2
          have bl := lt_of_block hb_
          have Hb := Lib.hid hb_
          clear hb_
          have Hf := Lib.hid (Fr.trans0 (by (repeat (first | exact Fr.refl _ _ | assumption | apply Fr.drewN | apply Fr.drew | apply Fr.alloc | refine Fr.setCell ?_ (Or.inr (by simp; try omega)) _)) : Fr [] w _) hf)
          clear hf
          obtain ⟨g, off, ra, rc, rfl, hg, e0, _, _⟩ := (Hr.out.fr Hf.out).node hx
          simp only at e0
          have HX := Lib.hid hx
          have HL := Lib.hid hl
          clear hx hl
          go_wp2
          refine Strict.intro rfl ?_
          go_wp2
          go_loopw [49] (fun x wr => ∃ k : Nat, x = .int .i64 k ∧ k ≤ r.nodes.length ∧ (∀ j, j < k → nodeOK r j = true) ∧ Fr [] w wr ∧ wr.heap[w.heap.size]? = some (.cells #[.int .i64 r.S, .slice ha r.hood.length hc, .slice (some ⟨g, off, none⟩) r.nodes.length nc] 31 (0, 0))) (fun x _ => r.nodes.length - (intOf x).toNat)
          case atStart => exact ⟨0, rfl, by omega, by omega, by have := Hf.out; (repeat (first | exact Fr.refl _ _ | assumption | apply Fr.drewN | apply Fr.drew | apply Fr.alloc | refine Fr.setCell ?_ (Or.inr (by simp; try omega)) _)), by have := Hb.out; (repeat (first | rw [if_pos (by omega)] | rw [if_neg (by omega)] | rw [hp_drew] | rw [hp_drewN] | rw [hp_alloc_size] | rw [hp_setCell_size] | rw [hp_alloc] | rw [hp_setCell] | rw [Option.map_some] | rw [upd_cells] | rw [List.set_cons_zero] | rw [List.set_cons_succ] | rfl)); exact this⟩
          case round =>
            clear e0 hlb Hf Hb b0 b1 b2 bl HX hg HL hm hm'
            obtain ⟨k, rfl, hk, hok, hf, hb⟩ := hrel
            have Hok := Lib.hid hok
            have Hf := Lib.hid hf
            have b0 := heap_eq_cell hb 0
            have b1 := heap_eq_cell hb 1
            have b2 := heap_eq_cell hb 2
            have bl := lt_of_block hb
            simp at b0 b1 b2
            have Hb := Lib.hid hb
            clear hok hf hb
            by_cases hlt : k < r.nodes.length
            · obtain ⟨⟨lw, ny⟩, hx⟩ : ∃ x, r.nodes[k]? = some x := ⟨_, List.getElem?_eq_getElem hlt⟩
              obtain ⟨_, _, ra, rc, he, hg, e0, e1, hi⟩ := (Hr.out.fr Hf.out).node hx
              cases he
              have hnk := nodeOK_eq hx
              simp only at e0 e1 hi hnk
              have HX := Lib.hid hnk
              have HI := Lib.hid hi
              clear hx hi hnk
              by_cases hA : 1 ≤ lw ∧ lw ≤ r.hood.length ∧ ((ny.length : Nat) : Int) = r.S
              · obtain ⟨a1, a2, a3⟩ := hA
                have a4 : (((ny.length : Nat) : Int) != r.S) = false := by simp [a3]
                have HX := Lib.hid (show nodeOK r k = ny.all (entOK r lw k) by rw [HX.out, decide_eq_true ⟨a1, a2, a3⟩, Bool.true_and])
                have HA3 := Lib.hid a3
                have a5 : ny.length ≤ 8 := by omega
                clear a3
                go_wp2
                refine abs_world (fun W => Fr [] wr W ∧ W.heap[w.heap.size]? = some (.cells #[.int .i64 r.S, .slice ha r.hood.length hc, .slice (some ⟨g, off, none⟩) r.nodes.length nc] 31 (0, 0)) ∧ W.heap[wr.heap.size]? = some (.cells #[.int .i64 lw, .slice ra ny.length rc] 91 (0, 0))) ⟨by (repeat (first | exact Fr.refl _ _ | assumption | apply Fr.drewN | apply Fr.drew | apply Fr.alloc | refine Fr.setCell ?_ (Or.inr (by simp; try omega)) _)), by have := Hb.out; (repeat (first | rw [if_pos (by omega)] | rw [if_neg (by omega)] | rw [hp_drew] | rw [hp_drewN] | rw [hp_alloc_size] | rw [hp_setCell_size] | rw [hp_alloc] | rw [hp_setCell] | rw [Option.map_some] | rw [upd_cells] | rw [List.set_cons_zero] | rw [List.set_cons_succ] | rfl)); exact this, by (repeat (first | rw [if_pos (by omega)] | rw [if_neg (by omega)] | rw [hp_drew] | rw [hp_drewN] | rw [hp_alloc_size] | rw [hp_setCell_size] | rw [hp_alloc] | rw [hp_setCell] | rw [Option.map_some] | rw [upd_cells] | rw [List.set_cons_zero] | rw [List.set_cons_succ] | rfl))⟩ ?_
                rintro W ⟨hfW, hb, hp⟩
                have HfW := Lib.hid hfW
                have c0 := heap_eq_cell hb 0
                have c1 := heap_eq_cell hb 1
                have c2 := heap_eq_cell hb 2
                have p0 := heap_eq_cell hp 0
                have p1 := heap_eq_cell hp 1
                have cl := lt_of_block hb
                have pl := lt_of_block hp
                simp at c0 c1 c2 p0 p1
                have HbW := Lib.hid hb
                have HpW := Lib.hid hp
                clear hfW hb hp b0 b1 b2 bl e0 e1
                go_loopw [76] (fun x wl => ∃ j : Nat, x = .int .i64 j ∧ j ≤ ny.length ∧ (∀ i y, ny[i]? = some y → i < j → entOK r lw k y = true) ∧ Drew W wl) (fun x _ => ny.length - (intOf x).toNat)
                case atStart => exact ⟨0, rfl, by omega, fun i y h1 h2 => by omega, Drew.refl _⟩
                case round =>
                  obtain ⟨j, rfl, hj, hent, m, rfl⟩ := hrel
                  have Hent := Lib.hid hent
                  clear hent
                  by_cases hlt2 : j < ny.length
                  · obtain ⟨y, hy⟩ : ∃ y, ny[j]? = some y := ⟨_, List.getElem?_eq_getElem hlt2⟩
                    obtain ⟨g2, off2, rfl, hg2, d0⟩ := (HI.out.fr HfW.out).cell hy
                    have HY := Lib.hid hy
                    clear hy
                    by_cases hneg : y < 0
                    ·
                      have HN := Lib.hid (rightR_node hlt (by rw [HX.out, all_false HY.out (entOK_neg hneg)]))
                      go_wp2
                      (refine wp_region_text (by kernel_rfl) (by kernel_rfl) ?_)
                      go_wp2
                      refine Strict.intro rfl ?_
                      go_wp2
                      go_ret
                      exact ⟨ret_bool' HN.out.symm, by have := Hf.out.trans0 HfW.out; (repeat (first | exact Fr.refl _ _ | assumption | apply Fr.drewN | apply Fr.drew | apply Fr.alloc | refine Fr.setCell ?_ (Or.inr (by simp; try omega)) _))⟩
                    · obtain ⟨z, rfl⟩ : ∃ z : Nat, y = z := ⟨y.toNat, by omega⟩
                      clear hneg
                      by_cases hone : lw = 1
                      · have hone' : (lw == 1) = true := by simpa using hone
                        have hone2 : lw ≤ 1 := by omega
                        have HO := Lib.hid hone
                        clear hone
                        by_cases hz : (z : Int) < r.S
                        ·
                          have HE := Lib.hid (((entOK_one (by omega) HO.out).trans (decide_eq_true hz): entOK r lw k z = true))
                          go_wp2
                          (refine wp_region_text (by kernel_rfl) (by kernel_rfl) ?_)
                          go_wp2
                          refine Strict.intro rfl ?_
                          go_wp2
                          go_roundw
                          case rel =>
                            refine ⟨j + 1, by go_num, by omega, fun i u hu hi => ?_, ⟨m + 1, rfl⟩⟩
                            rcases Nat.lt_or_ge i j with h | h
                            · exact Hent.out i u hu h
                            · obtain rfl : i = j := by omega
                              obtain rfl := Option.some.inj (HY.out.symm.trans hu)
                              exact HE.out
                          case measure => simp [intOf]; omega
                        ·
                          have HN := Lib.hid (rightR_node hlt (by rw [HX.out, all_false HY.out ((entOK_one (by omega) HO.out).trans (decide_eq_false hz))]))
                          go_wp2
                          (refine wp_region_text (by kernel_rfl) (by kernel_rfl) ?_)
                          go_wp2
                          refine Strict.intro rfl ?_
                          go_wp2
                          go_ret
                          exact ⟨ret_bool' HN.out.symm, by have := Hf.out.trans0 HfW.out; (repeat (first | exact Fr.refl _ _ | assumption | apply Fr.drewN | apply Fr.drew | apply Fr.alloc | refine Fr.setCell ?_ (Or.inr (by simp; try omega)) _))⟩
                      · have hone' : (lw == 1) = false := by simpa using hone
                        by_cases hz : (z : Int) < k
                        · obtain ⟨⟨lz, nz⟩, hxz⟩ : ∃ x, r.nodes[z]? = some x := ⟨_, List.getElem?_eq_getElem (by omega)⟩
                          obtain ⟨_, _, rz, cz, he, _, f0, _, _⟩ := (Hr.out.fr (Hf.out.trans0 HfW.out)).node hxz
                          cases he
                          have hlz := levelAt_of hxz
                          simp only at f0 hlz
                          have HLZ := Lib.hid hlz
                          clear hxz hlz
                          by_cases hle : lz = lw - 1
                          · subst hle
                            have HE := Lib.hid (((entOK_more (by omega) (by omega)).trans (decide_eq_true ⟨hz, HLZ.out⟩): entOK r lw k z = true))
                            go_wp2
                            (refine wp_region_text (by kernel_rfl) (by kernel_rfl) ?_)
                            go_wp2
                            refine Strict.intro rfl ?_
                            go_wp2
                            go_roundw
                            case rel =>
                              refine ⟨j + 1, by go_num, by omega, fun i u hu hi => ?_, ⟨m + 1, rfl⟩⟩
                              rcases Nat.lt_or_ge i j with h | h
                              · exact Hent.out i u hu h
                              · obtain rfl : i = j := by omega
                                obtain rfl := Option.some.inj (HY.out.symm.trans hu)
                                exact HE.out
                            case measure => simp [intOf]; omega
                          · have hle' : (lz != lw - 1) = true := by simpa using hle
                            have HNE := Lib.hid (show ¬ ((z : Int) < k ∧ levelAt r z = lw - 1) from fun h => hle (HLZ.out.symm.trans h.2))
                            clear hle
                            have HN := Lib.hid (rightR_node hlt (by rw [HX.out, all_false HY.out ((entOK_more (by omega) (by omega)).trans (decide_eq_false HNE.out))]))
                            go_wp2
                            (refine wp_region_text (by kernel_rfl) (by kernel_rfl) ?_)
                            go_wp2
                            refine Strict.intro rfl ?_
                            go_wp2
                            go_ret
                            exact ⟨ret_bool' HN.out.symm, by have := Hf.out.trans0 HfW.out; (repeat (first | exact Fr.refl _ _ | assumption | apply Fr.drewN | apply Fr.drew | apply Fr.alloc | refine Fr.setCell ?_ (Or.inr (by simp; try omega)) _))⟩
                        · have HNE := Lib.hid (show ¬ ((z : Int) < k ∧ levelAt r z = lw - 1) from fun h => hz h.1)
                          have HN := Lib.hid (rightR_node hlt (by rw [HX.out, all_false HY.out ((entOK_more (by omega) (by omega)).trans (decide_eq_false HNE.out))]))
                          go_wp2
                          (refine wp_region_text (by kernel_rfl) (by kernel_rfl) ?_)
                          go_wp2
                          refine Strict.intro rfl ?_
                          go_wp2
                          go_ret
                          exact ⟨ret_bool' HN.out.symm, by have := Hf.out.trans0 HfW.out; (repeat (first | exact Fr.refl _ _ | assumption | apply Fr.drewN | apply Fr.drew | apply Fr.alloc | refine Fr.setCell ?_ (Or.inr (by simp; try omega)) _))⟩
                  · obtain rfl : j = ny.length := by omega
                    have Hall := Lib.hid (show nodeOK r k = true from HX.out.trans (all_true fun i y h1 h2 => Hent.out i y h1 h2))
                    go_wp2
                    go_roundw
                    case rel =>
                      refine ⟨k + 1, by go_num, by omega, fun i hi => ?_, by have := Hf.out.trans0 HfW.out; (repeat (first | exact Fr.refl _ _ | assumption | apply Fr.drewN | apply Fr.drew | apply Fr.alloc | refine Fr.setCell ?_ (Or.inr (by simp; try omega)) _)), by have := HbW.out; (repeat (first | rw [if_pos (by omega)] | rw [if_neg (by omega)] | rw [hp_drew] | rw [hp_drewN] | rw [hp_alloc_size] | rw [hp_setCell_size] | rw [hp_alloc] | rw [hp_setCell] | rw [Option.map_some] | rw [upd_cells] | rw [List.set_cons_zero] | rw [List.set_cons_succ] | rfl)); exact this⟩
                      rcases Nat.lt_or_ge i k with h | h
                      · exact Hok.out i h
                      · obtain rfl : i = k := by omega
                        exact Hall.out
                    case measure => simp [intOf]; omega
              · have hA' : lw < 1 ∨ r.hood.length < lw ∨ 1 ≤ lw ∧ lw ≤ r.hood.length ∧ (((ny.length : Nat) : Int) != r.S) = true := by
                  simp only [bne_iff_ne]; omega
                have HN := Lib.hid (rightR_node hlt (by rw [HX.out, decide_eq_false hA, Bool.false_and]))
                clear hA
                rcases hA' with h | h | ⟨h1, h2, h3⟩
                · go_wp2
                  go_ret
                  exact ⟨ret_bool' HN.out.symm, by have := Hf.out; (repeat (first | exact Fr.refl _ _ | assumption | apply Fr.drewN | apply Fr.drew | apply Fr.alloc | refine Fr.setCell ?_ (Or.inr (by simp; try omega)) _))⟩
                · go_wp2
                  all_goals
                    go_ret
                    exact ⟨ret_bool' HN.out.symm, by have := Hf.out; (repeat (first | exact Fr.refl _ _ | assumption | apply Fr.drewN | apply Fr.drew | apply Fr.alloc | refine Fr.setCell ?_ (Or.inr (by simp; try omega)) _))⟩
                · go_wp2
                  go_ret
                  exact ⟨ret_bool' HN.out.symm, by have := Hf.out; (repeat (first | exact Fr.refl _ _ | assumption | apply Fr.drewN | apply Fr.drew | apply Fr.alloc | refine Fr.setCell ?_ (Or.inr (by simp; try omega)) _))⟩
            · obtain rfl : k = r.nodes.length := by omega
              go_wp2
              go_ret
              exact ⟨ret_bool' (rightR_true ⟨hs1, hs2⟩ HHT.out ⟨hn1, hn2⟩ HRT.out Hok.out).symm, Hf.out⟩
        · have HN := Lib.hid (rightR_root (r := r) (by rw [hroot]; exact hl))
          clear hroot
          go_enter Try.func37, Try.ntmps37
          go_wp2
          (refine wp_region_text (by kernel_rfl) (by kernel_rfl) ?_)
          go_wp2_with fail
          refine (HH.out _ (by (repeat (first | exact Fr.refl _ _ | assumption | apply Fr.drewN | apply Fr.drew | apply Fr.alloc | refine Fr.setCell ?_ (Or.inr (by simp; try omega)) _)))).mono ?_
          rintro e w1 ⟨rfl, hf⟩
          have hb_ := (hf.block (w.heap.size) (by first | (simp; done) | (simp; omega)) (by simp)).trans (show _ = some (.cells #[.int .i64 r.S, .slice ha r.hood.length hc, .slice na r.nodes.length nc] 31 (0, 0)) by (repeat (first | rw [if_pos (by omega)] | rw [if_neg (by omega)] | rw [hp_drew] | rw [hp_drewN] | rw [hp_alloc_size] | rw [hp_setCell_size] | rw [hp_alloc] | rw [hp_setCell] | rw [Option.map_some] | rw [upd_cells] | rw [List.set_cons_zero] | rw [List.set_cons_succ] | rfl)))
          have b0 := heap_eq_cell hb_ 0
          have b1 := heap_eq_cell hb_ 1
          have b2 := heap_eq_cell hb_ 2
          have bl := lt_of_block hb_
          have Hb := Lib.hid hb_
          clear hb_
          have Hf := Lib.hid (Fr.trans0 (by (repeat (first | exact Fr.refl _ _ | assumption | apply Fr.drewN | apply Fr.drew | apply Fr.alloc | refine Fr.setCell ?_ (Or.inr (by simp; try omega)) _)) : Fr [] w _) hf)
          clear hf
          obtain ⟨g, off, ra, rc, rfl, hg, e0, _, _⟩ := (Hr.out.fr Hf.out).node hx
          simp only at e0
          have hlb : (lv == (r.hood.length : Int)) = false := by simpa using hl
          have hlc : (lv != (r.hood.length : Int)) = true := by simpa using hl
          have HX := Lib.hid hx
          have HL := Lib.hid hl
          clear hx hl
          go_wp2
          all_goals
            refine Strict.intro rfl ?_
            go_wp2
            go_ret
            exact ⟨ret_bool' HN.out.symm, by first | ((repeat (first | exact Fr.refl _ _ | assumption | apply Fr.drewN | apply Fr.drew | apply Fr.alloc | refine Fr.setCell ?_ (Or.inr (by simp; try omega)) _)); done) | (have := Hf.out; (repeat (first | exact Fr.refl _ _ | assumption | apply Fr.drewN | apply Fr.drew | apply Fr.alloc | refine Fr.setCell ?_ (Or.inr (by simp; try omega)) _)); done)⟩
      · have HN := Lib.hid (rightR_len hn)
        have hn' : r.nodes.length < 1 ∨ 4096 < r.nodes.length := by omega
        clear hn
        rcases hn' with h | h
        ·
          go_enter Try.func37, Try.ntmps37
          go_wp2
          (refine wp_region_text (by kernel_rfl) (by kernel_rfl) ?_)
          go_wp2_with fail
          refine (HH.out _ (by (repeat (first | exact Fr.refl _ _ | assumption | apply Fr.drewN | apply Fr.drew | apply Fr.alloc | refine Fr.setCell ?_ (Or.inr (by simp; try omega)) _)))).mono ?_
          rintro e w1 ⟨rfl, hf⟩
          have hb_ := (hf.block (w.heap.size) (by first | (simp; done) | (simp; omega)) (by simp)).trans (show _ = some (.cells #[.int .i64 r.S, .slice ha r.hood.length hc, .slice na r.nodes.length nc] 31 (0, 0)) by (repeat (first | rw [if_pos (by omega)] | rw [if_neg (by omega)] | rw [hp_drew] | rw [hp_drewN] | rw [hp_alloc_size] | rw [hp_setCell_size] | rw [hp_alloc] | rw [hp_setCell] | rw [Option.map_some] | rw [upd_cells] | rw [List.set_cons_zero] | rw [List.set_cons_succ] | rfl)))
          have b0 := heap_eq_cell hb_ 0
          have b1 := heap_eq_cell hb_ 1
          have b2 := heap_eq_cell hb_ 2
          have bl := lt_of_block hb_
          have Hb := Lib.hid hb_
          clear hb_
          have Hf := Lib.hid (Fr.trans0 (by (repeat (first | exact Fr.refl _ _ | assumption | apply Fr.drewN | apply Fr.drew | apply Fr.alloc | refine Fr.setCell ?_ (Or.inr (by simp; try omega)) _)) : Fr [] w _) hf)
          clear hf
          go_wp2
          all_goals
            refine Strict.intro rfl ?_
            go_wp2
            go_ret
            exact ⟨ret_bool' HN.out.symm, by first | ((repeat (first | exact Fr.refl _ _ | assumption | apply Fr.drewN | apply Fr.drew | apply Fr.alloc | refine Fr.setCell ?_ (Or.inr (by simp; try omega)) _)); done) | (have := Hf.out; (repeat (first | exact Fr.refl _ _ | assumption | apply Fr.drewN | apply Fr.drew | apply Fr.alloc | refine Fr.setCell ?_ (Or.inr (by simp; try omega)) _)); done)⟩
        ·
          go_enter Try.func37, Try.ntmps37
          go_wp2
          (refine wp_region_text (by kernel_rfl) (by kernel_rfl) ?_)
          go_wp2_with fail
          refine (HH.out _ (by (repeat (first | exact Fr.refl _ _ | assumption | apply Fr.drewN | apply Fr.drew | apply Fr.alloc | refine Fr.setCell ?_ (Or.inr (by simp; try omega)) _)))).mono ?_
          rintro e w1 ⟨rfl, hf⟩
          have hb_ := (hf.block (w.heap.size) (by first | (simp; done) | (simp; omega)) (by simp)).trans (show _ = some (.cells #[.int .i64 r.S, .slice ha r.hood.length hc, .slice na r.nodes.length nc] 31 (0, 0)) by (repeat (first | rw [if_pos (by omega)] | rw [if_neg (by omega)] | rw [hp_drew] | rw [hp_drewN] | rw [hp_alloc_size] | rw [hp_setCell_size] | rw [hp_alloc] | rw [hp_setCell] | rw [Option.map_some] | rw [upd_cells] | rw [List.set_cons_zero] | rw [List.set_cons_succ] | rfl)))
          have b0 := heap_eq_cell hb_ 0
          have b1 := heap_eq_cell hb_ 1
          have b2 := heap_eq_cell hb_ 2
          have bl := lt_of_block hb_
          have Hb := Lib.hid hb_
          clear hb_
          have Hf := Lib.hid (Fr.trans0 (by (repeat (first | exact Fr.refl _ _ | assumption | apply Fr.drewN | apply Fr.drew | apply Fr.alloc | refine Fr.setCell ?_ (Or.inr (by simp; try omega)) _)) : Fr [] w _) hf)
          clear hf
          go_wp2
          all_goals
            refine Strict.intro rfl ?_
            go_wp2
            go_ret
            exact ⟨ret_bool' HN.out.symm, by first | ((repeat (first | exact Fr.refl _ _ | assumption | apply Fr.drewN | apply Fr.drew | apply Fr.alloc | refine Fr.setCell ?_ (Or.inr (by simp; try omega)) _)); done) | (have := Hf.out; (repeat (first | exact Fr.refl _ _ | assumption | apply Fr.drewN | apply Fr.drew | apply Fr.alloc | refine Fr.setCell ?_ (Or.inr (by simp; try omega)) _)); done)⟩
  · have HN := Lib.hid (rightR_S hS)
    have hS' : r.S < 2 ∨ 8 < r.S := by omega
    clear hS
    rcases hS' with h | h
    · go_enter Try.func37, Try.ntmps37
      go_wp2
      (refine wp_region_text (by kernel_rfl) (by kernel_rfl) ?_)
      go_wp2
      all_goals
        refine Strict.intro rfl ?_
        go_wp2
        go_ret
        exact ⟨ret_bool' HN.out.symm, by first | ((repeat (first | exact Fr.refl _ _ | assumption | apply Fr.drewN | apply Fr.drew | apply Fr.alloc | refine Fr.setCell ?_ (Or.inr (by simp; try omega)) _)); done) | (have := Hf.out; (repeat (first | exact Fr.refl _ _ | assumption | apply Fr.drewN | apply Fr.drew | apply Fr.alloc | refine Fr.setCell ?_ (Or.inr (by simp; try omega)) _)); done)⟩
    · go_enter Try.func37, Try.ntmps37
      go_wp2
      (refine wp_region_text (by kernel_rfl) (by kernel_rfl) ?_)
      go_wp2
      all_goals
        refine Strict.intro rfl ?_
        go_wp2
        go_ret
        exact ⟨ret_bool' HN.out.symm, by first | ((repeat (first | exact Fr.refl _ _ | assumption | apply Fr.drewN | apply Fr.drew | apply Fr.alloc | refine Fr.setCell ?_ (Or.inr (by simp; try omega)) _)); done) | (have := Hf.out; (repeat (first | exact Fr.refl _ _ | assumption | apply Fr.drewN | apply Fr.drew | apply Fr.alloc | refine Fr.setCell ?_ (Or.inr (by simp; try omega)) _)); done)⟩
end Go.Proofs.Ytppmnmheodimoaa
end
