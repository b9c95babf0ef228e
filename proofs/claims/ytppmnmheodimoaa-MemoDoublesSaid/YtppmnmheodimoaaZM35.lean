/- Own texts of this claim, part 36: no condition. -/
import Derived.Test.YtppmnmheodimoaaZM18
section
/- The reference's check of a rule tree. -/
namespace Go.Proofs.Ytppmnmheodimoaa
open Go Go.RowKit Go.Proofs.Rg Go.Proofs.Hp Go.Proofs.Ev
set_option linter.unusedVariables false
set_option linter.unusedSimpArgs false
set_option maxHeartbeats 16000000 in
set_option maxRecDepth 100000 in
theorem RTRight_calls {w : World} {r : Rule} {ha na : Option Addr} {hc nc : Nat} (hr : RuleAt w (.slice ha r.hood.length hc) (.slice na r.nodes.length nc) r) (hlh : r.hood.length ≤ 1000000) (hln : r.nodes.length ≤ 1000000) :
    Calls Try.prog 45 #[.agg #[.int .i64 r.S, .slice ha r.hood.length hc, .slice na r.nodes.length nc]] w fun e w' => e = .returned (.bool (rightR r)) ∧ Fr [] w w' := by
  have hh := fun w1 (hf : Fr [] w w1) => RHRight_calls (hr.1.fr hf) hlh
  have HH := Lib.hid hh
  have Hr := Lib.hid hr.2
  clear hh hr
  by_cases hS : 2 ≤ r.S ∧ r.S ≤ 8
  · obtain ⟨hs1, hs2⟩ := hS
    cases hH : hoodR r.hood with
    | false =>
      have HN := Lib.hid (rightR_hood hH)
      rw [hH] at HH
      clear hH
      go_enter Try.func45, Try.ntmps45
      go_wp2_with fail
      refine (HH.out _ (by (repeat (first | exact Fr.refl _ _ | assumption | apply Fr.drewN | apply Fr.drew | apply Fr.alloc | refine Fr.setCell ?_ (Or.inr (by simp; try omega)) _)))).mono ?_
      rintro e w1 ⟨rfl, hf⟩
      have hb_ := (hf.block (w.heap.size) (by first | (simp; done) | (simp; omega)) (by simp)).trans (show _ = some (.cells #[.int .i64 r.S, .slice ha r.hood.length hc, .slice na r.nodes.length nc] 31 (0, 0)) by (repeat (first | rw [if_pos (by omega)] | rw [if_neg (by omega)] | rw [hp_drew] | rw [hp_drewN] | rw [hp_alloc_size] | rw [hp_setCell_size] | rw [hp_alloc] | rw [hp_setCell] | rw [Option.map_some] | rw [upd_cells] | rw [List.set_cons_zero] | rw [List.set_cons_succ] | rfl)))
      have b0 := heap_eq_cell hb_ 0
      have b1 := heap_eq_cell hb_ 1
      have b2 := heap_eq_cell hb_ 2
      have bl := lt_of_block hb_
      have Hb := Lib.hid hb_
      clear hb_
      have Hf := Lib.hid (Fr.trans0 (by (repeat (first | exact Fr.refl _ _ | assumption | apply Fr.drewN | apply Fr.drew | apply Fr.alloc | refine Fr.setCell ?_ (Or.inr (by simp; try omega)) _)) : Fr [] w _) hf)
      clear hf
      go_wp2
      all_goals
        go_ret
        exact ⟨ret_bool' HN.out.symm, by first | ((repeat (first | exact Fr.refl _ _ | assumption | apply Fr.drewN | apply Fr.drew | apply Fr.alloc | refine Fr.setCell ?_ (Or.inr (by simp; try omega)) _)); done) | (have := Hf.out; (repeat (first | exact Fr.refl _ _ | assumption | apply Fr.drewN | apply Fr.drew | apply Fr.alloc | refine Fr.setCell ?_ (Or.inr (by simp; try omega)) _)); done)⟩
    | true =>
      rw [hH] at HH
      have HHT := Lib.hid hH
      clear hH
      by_cases hn : 1 ≤ r.nodes.length ∧ r.nodes.length ≤ 4096
      · obtain ⟨hn1, hn2⟩ := hn
        go_enter Try.func45, Try.ntmps45
        go_wp2_with fail
        refine (HH.out _ (by (repeat (first | exact Fr.refl _ _ | assumption | apply Fr.drewN | apply Fr.drew | apply Fr.alloc | refine Fr.setCell ?_ (Or.inr (by simp; try omega)) _)))).mono ?_
        rintro e w1 ⟨rfl, hf⟩
        have hb_ := (hf.block (w.heap.size) (by first | (simp; done) | (simp; omega)) (by simp)).trans (show _ = some (.cells #[.int .i64 r.S, .slice ha r.hood.length hc, .slice na r.nodes.length nc] 31 (0, 0)) by (repeat (first | rw [if_pos (by omega)] | rw [if_neg (by omega)] | rw [hp_drew] | rw [hp_drewN] | rw [hp_alloc_size] | rw [hp_setCell_size] | rw [hp_alloc] | rw [hp_setCell] | rw [Option.map_some] | rw [upd_cells] | rw [List.set_cons_zero] | rw [List.set_cons_succ] | rfl)))
        have b0 := heap_eq_cell hb_ 0
        have b1 := heap_eq_cell hb_ 1
        have b2 := heap_eq_cell hb_ 2
        have bl := lt_of_block hb_
        have Hb := Lib.hid hb_
        clear hb_
        have Hf := Lib.hid (Fr.trans0 (by (repeat (first | exact Fr.refl _ _ | assumption | apply Fr.drewN | apply Fr.drew | apply Fr.alloc | refine Fr.setCell ?_ (Or.inr (by simp; try omega)) _)) : Fr [] w _) hf)
        clear hf
        go_wp2
        go_loopw [4] (fun x wr => ∃ k : Nat, x = .int .i64 k ∧ k ≤ r.nodes.length ∧ (∀ j, j < k → nodeOK r j = true) ∧ Fr [] w wr ∧ wr.heap[w.heap.size]? = some (.cells #[.int .i64 r.S, .slice ha r.hood.length hc, .slice na r.nodes.length nc] 31 (0, 0))) (fun x _ => r.nodes.length - (intOf x).toNat)
        case atStart => exact ⟨0, rfl, by omega, by omega, by have := Hf.out; (repeat (first | exact Fr.refl _ _ | assumption | apply Fr.drewN | apply Fr.drew | apply Fr.alloc | refine Fr.setCell ?_ (Or.inr (by simp; try omega)) _)), by have := Hb.out; (repeat (first | rw [if_pos (by omega)] | rw [if_neg (by omega)] | rw [hp_drew] | rw [hp_drewN] | rw [hp_alloc_size] | rw [hp_setCell_size] | rw [hp_alloc] | rw [hp_setCell] | rw [Option.map_some] | rw [upd_cells] | rw [List.set_cons_zero] | rw [List.set_cons_succ] | rfl)); exact this⟩
        case round =>
          clear Hf Hb b0 b1 b2 bl
          obtain ⟨k, rfl, hk, hok, hf, hb⟩ := hrel
          have Hok := Lib.hid hok
          have Hf := Lib.hid hf
          have b0 := heap_eq_cell hb 0
          have b1 := heap_eq_cell hb 1
          have b2 := heap_eq_cell hb 2
          have bl := lt_of_block hb
          simp at b0 b1 b2
          have Hb := Lib.hid hb
          clear hok hf hb
          by_cases hlt : k < r.nodes.length
          · obtain ⟨⟨lw, ny⟩, hx⟩ : ∃ x, r.nodes[k]? = some x := ⟨_, List.getElem?_eq_getElem hlt⟩
            obtain ⟨g, off, ra, rc, rfl, hg, e0, e1, hi⟩ := (Hr.out.fr Hf.out).node hx
            have hnk := nodeOK_eq hx
            simp only at e0 e1 hi hnk
            have HX := Lib.hid hnk
            have HI := Lib.hid hi
            clear hx hi hnk
            by_cases hA : 1 ≤ lw ∧ lw ≤ r.hood.length ∧ ((ny.length : Nat) : Int) = r.S
            · obtain ⟨a1, a2, a3⟩ := hA
              have a4 : (((ny.length : Nat) : Int) != r.S) = false := by simp [a3]
              have HX := Lib.hid (show nodeOK r k = ny.all (entOK r lw k) by rw [HX.out, decide_eq_true ⟨a1, a2, a3⟩, Bool.true_and])
              have HA3 := Lib.hid a3
              have a5 : ny.length ≤ 8 := by omega
              clear a3
              go_wp2
              refine abs_world (fun W => Fr [] wr W ∧ W.heap[w.heap.size]? = some (.cells #[.int .i64 r.S, .slice ha r.hood.length hc, .slice (some ⟨g, off, none⟩) r.nodes.length nc] 31 (0, 0)) ∧ W.heap[wr.heap.size]? = some (.cells #[.int .i64 lw, .slice ra ny.length rc] 91 (0, 0))) ⟨by (repeat (first | exact Fr.refl _ _ | assumption | apply Fr.drewN | apply Fr.drew | apply Fr.alloc | refine Fr.setCell ?_ (Or.inr (by simp; try omega)) _)), by have := Hb.out; (repeat (first | rw [if_pos (by omega)] | rw [if_neg (by omega)] | rw [hp_drew] | rw [hp_drewN] | rw [hp_alloc_size] | rw [hp_setCell_size] | rw [hp_alloc] | rw [hp_setCell] | rw [Option.map_some] | rw [upd_cells] | rw [List.set_cons_zero] | rw [List.set_cons_succ] | rfl)); exact this, by (repeat (first | rw [if_pos (by omega)] | rw [if_neg (by omega)] | rw [hp_drew] | rw [hp_drewN] | rw [hp_alloc_size] | rw [hp_setCell_size] | rw [hp_alloc] | rw [hp_setCell] | rw [Option.map_some] | rw [upd_cells] | rw [List.set_cons_zero] | rw [List.set_cons_succ] | rfl))⟩ ?_
              rintro W ⟨hfW, hb, hp⟩
              have HfW := Lib.hid hfW
              have c0 := heap_eq_cell hb 0
              have c1 := heap_eq_cell hb 1
              have c2 := heap_eq_cell hb 2
              have p0 := heap_eq_cell hp 0
              have p1 := heap_eq_cell hp 1
              have cl := lt_of_block hb
              have pl := lt_of_block hp
              simp at c0 c1 c2 p0 p1
              have HbW := Lib.hid hb
              have HpW := Lib.hid hp
              clear hfW hb hp b0 b1 b2 bl e0 e1
              go_loopw [6] (fun x wl => ∃ j : Nat, x = .int .i64 j ∧ j ≤ ny.length ∧ (∀ i y, ny[i]? = some y → i < j → entOK r lw k y = true) ∧ Drew W wl) (fun x _ => ny.length - (intOf x).toNat)
              case atStart => exact ⟨0, rfl, by omega, fun i y h1 h2 => by omega, Drew.refl _⟩
              case round =>
                obtain ⟨j, rfl, hj, hent, m, rfl⟩ := hrel
                have Hent := Lib.hid hent
                clear hent
                by_cases hlt2 : j < ny.length
                · obtain ⟨y, hy⟩ : ∃ y, ny[j]? = some y := ⟨_, List.getElem?_eq_getElem hlt2⟩
                  obtain ⟨g2, off2, rfl, hg2, d0⟩ := (HI.out.fr HfW.out).cell hy
                  have HY := Lib.hid hy
                  have hdj : decide ((j : Int) < r.S) = true := by have := HA3.out; simp; omega
                  clear hy
                  by_cases hneg : y < 0
                  ·
                    have HN := Lib.hid (rightR_node hlt (by rw [HX.out, all_false HY.out (entOK_neg hneg)]))
                    go_wp2
                    go_ret
                    exact ⟨ret_bool' HN.out.symm, by have := Hf.out.trans0 HfW.out; (repeat (first | exact Fr.refl _ _ | assumption | apply Fr.drewN | apply Fr.drew | apply Fr.alloc | refine Fr.setCell ?_ (Or.inr (by simp; try omega)) _))⟩
                  · obtain ⟨z, rfl⟩ : ∃ z : Nat, y = z := ⟨y.toNat, by omega⟩
                    clear hneg
                    by_cases hone : lw = 1
                    · have hone' : (lw == 1) = true := by simpa using hone
                      have hone2 : lw ≤ 1 := by omega
                      have HO := Lib.hid hone
                      clear hone
                      by_cases hz : (z : Int) < r.S
                      ·
                        have HE := Lib.hid (((entOK_one (by omega) HO.out).trans (decide_eq_true hz): entOK r lw k z = true))
                        go_wp2
                        (refine wp_region_text (by kernel_rfl) (by kernel_rfl) ?_)
                        go_wp2
                        refine Strict.intro rfl ?_
                        go_wp2
                        go_roundw
                        case rel =>
                          refine ⟨j + 1, by go_num, by omega, fun i u hu hi => ?_, ⟨m + 1, rfl⟩⟩
                          rcases Nat.lt_or_ge i j with h | h
                          · exact Hent.out i u hu h
                          · obtain rfl : i = j := by omega
                            obtain rfl := Option.some.inj (HY.out.symm.trans hu)
                            exact HE.out
                        case measure => simp [intOf]; omega
                      ·
                        have HN := Lib.hid (rightR_node hlt (by rw [HX.out, all_false HY.out ((entOK_one (by omega) HO.out).trans (decide_eq_false hz))]))
                        go_wp2
                        go_ret
                        exact ⟨ret_bool' HN.out.symm, by have := Hf.out.trans0 HfW.out; (repeat (first | exact Fr.refl _ _ | assumption | apply Fr.drewN | apply Fr.drew | apply Fr.alloc | refine Fr.setCell ?_ (Or.inr (by simp; try omega)) _))⟩
                    · have hone' : (lw == 1) = false := by simpa using hone
                      by_cases hz : (z : Int) < k
                      · obtain ⟨⟨lz, nz⟩, hxz⟩ : ∃ x, r.nodes[z]? = some x := ⟨_, List.getElem?_eq_getElem (by omega)⟩
                        obtain ⟨_, _, rz, cz, he, _, f0, _, _⟩ := (Hr.out.fr (Hf.out.trans0 HfW.out)).node hxz
                        cases he
                        have hlz := levelAt_of hxz
                        simp only at f0 hlz
                        have HLZ := Lib.hid hlz
                        clear hxz hlz
                        by_cases hle : lz = lw - 1
                        · subst hle
                          have HE := Lib.hid (((entOK_more (by omega) (by omega)).trans (decide_eq_true ⟨hz, HLZ.out⟩): entOK r lw k z = true))
                          go_wp2
                          (refine wp_region_text (by kernel_rfl) (by kernel_rfl) ?_)
                          go_wp2
                          refine Strict.intro rfl ?_
                          go_wp2
                          go_roundw
                          case rel =>
                            refine ⟨j + 1, by go_num, by omega, fun i u hu hi => ?_, ⟨m + 1, rfl⟩⟩
                            rcases Nat.lt_or_ge i j with h | h
                            · exact Hent.out i u hu h
                            · obtain rfl : i = j := by omega
                              obtain rfl := Option.some.inj (HY.out.symm.trans hu)
                              exact HE.out
                          case measure => simp [intOf]; omega
                        · have hle' : (lz != lw - 1) = true := by simpa using hle
                          have HNE := Lib.hid (show ¬ ((z : Int) < k ∧ levelAt r z = lw - 1) from fun h => hle (HLZ.out.symm.trans h.2))
                          clear hle
                          have HN := Lib.hid (rightR_node hlt (by rw [HX.out, all_false HY.out ((entOK_more (by omega) (by omega)).trans (decide_eq_false HNE.out))]))
                          go_wp2
                          (refine wp_region_text (by kernel_rfl) (by kernel_rfl) ?_)
                          go_wp2
                          refine Strict.intro rfl ?_
                          go_wp2
                          go_ret
                          exact ⟨ret_bool' HN.out.symm, by have := Hf.out.trans0 HfW.out; (repeat (first | exact Fr.refl _ _ | assumption | apply Fr.drewN | apply Fr.drew | apply Fr.alloc | refine Fr.setCell ?_ (Or.inr (by simp; try omega)) _))⟩
                      · have HNE := Lib.hid (show ¬ ((z : Int) < k ∧ levelAt r z = lw - 1) from fun h => hz h.1)
                        have HN := Lib.hid (rightR_node hlt (by rw [HX.out, all_false HY.out ((entOK_more (by omega) (by omega)).trans (decide_eq_false HNE.out))]))
                        go_wp2
                        (refine wp_region_text (by kernel_rfl) (by kernel_rfl) ?_)
                        go_wp2
                        refine Strict.intro rfl ?_
                        go_wp2
                        go_ret
                        exact ⟨ret_bool' HN.out.symm, by have := Hf.out.trans0 HfW.out; (repeat (first | exact Fr.refl _ _ | assumption | apply Fr.drewN | apply Fr.drew | apply Fr.alloc | refine Fr.setCell ?_ (Or.inr (by simp; try omega)) _))⟩
                · obtain rfl : j = ny.length := by omega
                  have Hall := Lib.hid (show nodeOK r k = true from HX.out.trans (all_true fun i y h1 h2 => Hent.out i y h1 h2))
                  have hdj : decide ((ny.length : Int) < r.S) = false := by have := HA3.out; simp; omega
                  go_wp2
                  go_roundw
                  case rel =>
                    refine ⟨k + 1, by go_num, by omega, fun i hi => ?_, by have := Hf.out.trans0 HfW.out; (repeat (first | exact Fr.refl _ _ | assumption | apply Fr.drewN | apply Fr.drew | apply Fr.alloc | refine Fr.setCell ?_ (Or.inr (by simp; try omega)) _)), by have := HbW.out; (repeat (first | rw [if_pos (by omega)] | rw [if_neg (by omega)] | rw [hp_drew] | rw [hp_drewN] | rw [hp_alloc_size] | rw [hp_setCell_size] | rw [hp_alloc] | rw [hp_setCell] | rw [Option.map_some] | rw [upd_cells] | rw [List.set_cons_zero] | rw [List.set_cons_succ] | rfl)); exact this⟩
                    rcases Nat.lt_or_ge i k with h | h
                    · exact Hok.out i h
                    · obtain rfl : i = k := by omega
                      exact Hall.out
                  case measure => simp [intOf]; omega
            · have hA' : lw < 1 ∨ r.hood.length < lw ∨ 1 ≤ lw ∧ lw ≤ r.hood.length ∧ (((ny.length : Nat) : Int) != r.S) = true := by
                simp only [bne_iff_ne]; omega
              have HN := Lib.hid (rightR_node hlt (by rw [HX.out, decide_eq_false hA, Bool.false_and]))
              clear hA
              rcases hA' with h | h | ⟨h1, h2, h3⟩
              all_goals
                go_wp2
                all_goals
                  go_ret
                  exact ⟨ret_bool' HN.out.symm, by have := Hf.out; (repeat (first | exact Fr.refl _ _ | assumption | apply Fr.drewN | apply Fr.drew | apply Fr.alloc | refine Fr.setCell ?_ (Or.inr (by simp; try omega)) _))⟩
          · obtain rfl : k = r.nodes.length := by omega
            obtain ⟨⟨lv, nx⟩, hx⟩ : ∃ x, r.nodes[r.nodes.length - 1]? = some x := ⟨_, List.getElem?_eq_getElem (by omega)⟩
            have hroot := levelAt_last hn1 hx
            obtain ⟨g, off, ra, rc, rfl, hg, e0, _, _⟩ := (Hr.out.fr Hf.out).node hx
            obtain ⟨m, hm⟩ : ∃ m, r.nodes.length - 1 = m := ⟨_, rfl⟩
            have hm' : (r.nodes.length : Int) - 1 = m := by omega
            rw [hm] at hx e0
            simp only at e0
            have HRES := Lib.hid (show rightR r = (lv == (r.hood.length : Int)) by
              by_cases hl : lv = r.hood.length
              · rw [show (lv == (r.hood.length : Int)) = true by simpa using hl]
                exact rightR_true ⟨hs1, hs2⟩ HHT.out ⟨hn1, hn2⟩ (hroot.trans hl) Hok.out
              · rw [show (lv == (r.hood.length : Int)) = false by simpa using hl]
                exact rightR_root (r := r) (by rw [hroot]; exact hl))
            clear hx hroot hm
            go_wp2
            (refine wp_region_text (by kernel_rfl) (by kernel_rfl) ?_)
            go_wp2
            refine Strict.intro rfl ?_
            go_wp2
            go_ret
            exact ⟨ret_bool' HRES.out.symm, by have := Hf.out; (repeat (first | exact Fr.refl _ _ | assumption | apply Fr.drewN | apply Fr.drew | apply Fr.alloc | refine Fr.setCell ?_ (Or.inr (by simp; try omega)) _))⟩
      · have HN := Lib.hid (rightR_len hn)
        have hn' : r.nodes.length < 1 ∨ 4096 < r.nodes.length := by omega
        clear hn
        rcases hn' with h | h
        ·
          go_enter Try.func45, Try.ntmps45
          go_wp2_with fail
          refine (HH.out _ (by (repeat (first | exact Fr.refl _ _ | assumption | apply Fr.drewN | apply Fr.drew | apply Fr.alloc | refine Fr.setCell ?_ (Or.inr (by simp; try omega)) _)))).mono ?_
          rintro e w1 ⟨rfl, hf⟩
          have hb_ := (hf.block (w.heap.size) (by first | (simp; done) | (simp; omega)) (by simp)).trans (show _ = some (.cells #[.int .i64 r.S, .slice ha r.hood.length hc, .slice na r.nodes.length nc] 31 (0, 0)) by (repeat (first | rw [if_pos (by omega)] | rw [if_neg (by omega)] | rw [hp_drew] | rw [hp_drewN] | rw [hp_alloc_size] | rw [hp_setCell_size] | rw [hp_alloc] | rw [hp_setCell] | rw [Option.map_some] | rw [upd_cells] | rw [List.set_cons_zero] | rw [List.set_cons_succ] | rfl)))
          have b0 := heap_eq_cell hb_ 0
          have b1 := heap_eq_cell hb_ 1
          have b2 := heap_eq_cell hb_ 2
          have bl := lt_of_block hb_
          have Hb := Lib.hid hb_
          clear hb_
          have Hf := Lib.hid (Fr.trans0 (by (repeat (first | exact Fr.refl _ _ | assumption | apply Fr.drewN | apply Fr.drew | apply Fr.alloc | refine Fr.setCell ?_ (Or.inr (by simp; try omega)) _)) : Fr [] w _) hf)
          clear hf
          go_wp2
          all_goals
            go_ret
            exact ⟨ret_bool' HN.out.symm, by first | ((repeat (first | exact Fr.refl _ _ | assumption | apply Fr.drewN | apply Fr.drew | apply Fr.alloc | refine Fr.setCell ?_ (Or.inr (by simp; try omega)) _)); done) | (have := Hf.out; (repeat (first | exact Fr.refl _ _ | assumption | apply Fr.drewN | apply Fr.drew | apply Fr.alloc | refine Fr.setCell ?_ (Or.inr (by simp; try omega)) _)); done)⟩
        ·
          go_enter Try.func45, Try.ntmps45
          go_wp2_with fail
          refine (HH.out _ (by (repeat (first | exact Fr.refl _ _ | assumption | apply Fr.drewN | apply Fr.drew | apply Fr.alloc | refine Fr.setCell ?_ (Or.inr (by simp; try omega)) _)))).mono ?_
          rintro e w1 ⟨rfl, hf⟩
          have hb_ := (hf.block (w.heap.size) (by first | (simp; done) | (simp; omega)) (by simp)).trans (show _ = some (.cells #[.int .i64 r.S, .slice ha r.hood.length hc, .slice na r.nodes.length nc] 31 (0, 0)) by (repeat (first | rw [if_pos (by omega)] | rw [if_neg (by omega)] | rw [hp_drew] | rw [hp_drewN] | rw [hp_alloc_size] | rw [hp_setCell_size] | rw [hp_alloc] | rw [hp_setCell] | rw [Option.map_some] | rw [upd_cells] | rw [List.set_cons_zero] | rw [List.set_cons_succ] | rfl)))
          have b0 := heap_eq_cell hb_ 0
          have b1 := heap_eq_cell hb_ 1
          have b2 := heap_eq_cell hb_ 2
          have bl := lt_of_block hb_
          have Hb := Lib.hid hb_
          clear hb_
          have Hf := Lib.hid (Fr.trans0 (by (repeat (first | exact Fr.refl _ _ | assumption | apply Fr.drewN | apply Fr.drew | apply Fr.alloc | refine Fr.setCell ?_ (Or.inr (by simp; try omega)) _)) : Fr [] w _) hf)
          clear hf
          go_wp2
          all_goals
            go_ret
            exact ⟨ret_bool' HN.out.symm, by first | ((repeat (first | exact Fr.refl _ _ | assumption | apply Fr.drewN | apply Fr.drew | apply Fr.alloc | refine Fr.setCell ?_ (Or.inr (by simp; try omega)) _)); done) | (have := Hf.out; (repeat (first | exact Fr.refl _ _ | assumption | apply Fr.drewN | apply Fr.drew | apply Fr.alloc | refine Fr.setCell ?_ (Or.inr (by simp; try omega)) _)); done)⟩
  · have HN := Lib.hid (rightR_S hS)
    have hS' : r.S < 2 ∨ 8 < r.S := by omega
    clear hS
    rcases hS' with h | h
    · go_enter Try.func45, Try.ntmps45
      go_wp2
      all_goals
        go_ret
        exact ⟨ret_bool' HN.out.symm, by first | ((repeat (first | exact Fr.refl _ _ | assumption | apply Fr.drewN | apply Fr.drew | apply Fr.alloc | refine Fr.setCell ?_ (Or.inr (by simp; try omega)) _)); done) | (have := Hf.out; (repeat (first | exact Fr.refl _ _ | assumption | apply Fr.drewN | apply Fr.drew | apply Fr.alloc | refine Fr.setCell ?_ (Or.inr (by simp; try omega)) _)); done)⟩
    · go_enter Try.func45, Try.ntmps45
      go_wp2
      all_goals
        go_ret
        exact ⟨ret_bool' HN.out.symm, by first | ((repeat (first | exact Fr.refl _ _ | assumption | apply Fr.drewN | apply Fr.drew | apply Fr.alloc | refine Fr.setCell ?_ (Or.inr (by simp; try omega)) _)); done) | (have := Hf.out; (repeat (first | exact Fr.refl _ _ | assumption | apply Fr.drewN | apply Fr.drew | apply Fr.alloc | refine Fr.setCell ?_ (Or.inr (by simp; try omega)) _)); done)⟩
end Go.Proofs.Ytppmnmheodimoaa
end
