/- The law package of layer 28: load, example, alive. -/
import Derived.Test.YtgeomalefpjfdaaVf
import Derived.Test.YtgeomalefpjfdaaRv
import Derived.Test.YtgeomalefpjfdaaQt
namespace Go.Proofs.Ytgeomalefpjfdaa
open Go Go.RowKit Go.Proofs.Rg Go.Proofs.Mp Go.Proofs.Hp Go.Proofs.Qs
set_option linter.unusedVariables false
def LLoadPost (w : World) (s : Int) (ns : List K4) (e : Ending) (w' : World) : Prop :=
  (ns.length ≤ 200 ∧ GoodQ s ns → ∃ b F, e = .returned (.tuple #[.pointer (some ⟨b, 0, none⟩), .bool true]) ∧ StoreAt w' b s ns F ∧ Fr [] w w' ∧ ∀ x ∈ F, w.heap.size ≤ x) ∧
  (¬ (ns.length ≤ 200 ∧ GoodQ s ns) → e = .returned (.tuple #[.pointer none, .bool false]) ∧ Fr [] w w')
set_option maxHeartbeats 4000000 in
theorem load_calls {w : World} {s : Int} {ns : List K4} {v : Value} (hv : Reads w v ns.length 4 (flat ns)) :
    Calls Try.prog 9 #[.agg #[.int .i64 s, v]] w (LLoadPost w s ns) := by
  have hvk := hv
  obtain ⟨_, a, c, rfl, _⟩ := hv
  have Hv := Lib.hid hvk
  clear hvk
  by_cases hl : 200 < ns.length
  · have hd : decide ((200 : Int) < ↑ns.length) = true := by simp; omega
    have hd2 : decide (200 < ns.length) = true := by simpa using hl
    have Hl := Lib.hid hl
    clear hl
    go_enter Try.func9, Try.ntmps9
    go_wp2
    go_ret2
    exact ⟨fun h => by have := Hl.out; omega, fun _ => ⟨rfl, by (repeat (first | exact Fr.refl _ _ | assumption | apply Fr.drewN | apply Fr.drew | apply Fr.alloc | refine Fr.setCell ?_ (Or.inr (by simp; try omega)) _))⟩⟩
  have hd : decide ((200 : Int) < ↑ns.length) = false := by simp; omega
  have hd2 : decide (200 < ns.length) = false := by simpa using hl
  have Hl := Lib.hid hl
  clear hl
  by_cases hg : GoodQ s ns
  · have Hg := Lib.hid hg
    clear hg
    go_enter Try.func9, Try.ntmps9
    go_wp2_with fail
    refine (RRight_calls (s := s) (by have := Hl.out; omega) (Hv.out.fr (by (repeat (first | exact Fr.refl _ _ | assumption | apply Fr.drewN | apply Fr.drew | apply Fr.alloc | refine Fr.setCell ?_ (Or.inr (by simp; try omega)) _))))).mono ?_
    rintro e w1 ⟨rfl, hf⟩
    rw [decide_eq_true Hg.out]
    have hb := (hf.block w.heap.size (by simp) (by simp)).trans (show _ = some (.cells #[.int .i64 s, .slice a ns.length c] 24 (0, 0)) by (repeat (first | rw [if_pos (by omega)] | rw [if_neg (by omega)] | rw [hp_drew] | rw [hp_drewN] | rw [hp_alloc_size] | rw [hp_setCell_size] | rw [hp_alloc] | rw [hp_setCell] | rw [Option.map_some] | rw [upd_cells] | rw [List.set_cons_zero] | rw [List.set_cons_succ] | rfl)))
    have c0 := heap_eq_cell hb 0
    have c1 := heap_eq_cell hb 1
    have hbl := lt_of_block hb
    have Hf := Lib.hid (Fr.trans0 (by (repeat (first | exact Fr.refl _ _ | assumption | apply Fr.drewN | apply Fr.drew | apply Fr.alloc | refine Fr.setCell ?_ (Or.inr (by simp; try omega)) _)) : Fr [] w _) hf)
    clear hf hb
    go_wp2_with fail
    refine (Load_calls (s := s) (by have := Hl.out; omega) (Hv.out.fr Hf.out)).mono ?_
    rintro e w2 ⟨h1, _⟩
    obtain ⟨b, F, rfl, hS, hf, hF⟩ := h1 Hg.out
    have HS := Lib.hid hS
    have Hf2 := Lib.hid (Hf.out.trans0 hf)
    have HF := Lib.hid hF
    clear h1 hS hf hF
    go_wp2
    go_ret2
    exact ⟨fun _ => ⟨b, F, rfl, HS.out, Hf2.out, fun x hx => by have := HF.out x hx; have := Hf.out.size; omega⟩, fun h => absurd ⟨by have := Hl.out; omega, Hg.out⟩ h⟩
  · have Hg := Lib.hid hg
    clear hg
    go_enter Try.func9, Try.ntmps9
    go_wp2_with fail
    refine (RRight_calls (s := s) (by have := Hl.out; omega) (Hv.out.fr (by (repeat (first | exact Fr.refl _ _ | assumption | apply Fr.drewN | apply Fr.drew | apply Fr.alloc | refine Fr.setCell ?_ (Or.inr (by simp; try omega)) _))))).mono ?_
    rintro e w1 ⟨rfl, hf⟩
    rw [decide_eq_false Hg.out]
    have Hf := Lib.hid (Fr.trans0 (by (repeat (first | exact Fr.refl _ _ | assumption | apply Fr.drewN | apply Fr.drew | apply Fr.alloc | refine Fr.setCell ?_ (Or.inr (by simp; try omega)) _)) : Fr [] w _) hf)
    clear hf
    go_wp2
    go_ret2
    exact ⟨fun h => absurd h.2 Hg.out, fun _ => ⟨rfl, Hf.out⟩⟩
def exQ : List K4 := [⟨0, 1, 0, 0⟩, ⟨1, 1, 0, 0⟩, ⟨0, 0, 0, 0⟩, ⟨2, 4, 4, 4⟩]
def exW : List K4 := [⟨0, 1, 0, 0⟩, ⟨0, 0, 0, 0⟩, ⟨2, 3, 3, 3⟩]
def exM : List Bool := [true, true, true, false, true, true]
theorem example_result {tmps : Array Value} {b : Nat} {w' : World} {x y : Value} (h0 : tmps.getD 0 undef = .pointer (some ⟨b, 0, none⟩)) (hb : w'.heap[b]? = some (.cells #[x, y] 24 (0, 0))) :
    (results Try.f26 tmps).run Try.prog w' = .ok (.agg #[x, y]) w' := by
  rw [results_cell1 rfl, h0]
  simp only [asAddr, Sem.run_pure, Result.andThen]
  rw [run_loadVar_row w' b _ _ _ _ _ hb Try.underlying24 rfl (by kernel_rfl)]
theorem example_calls (w : World) : Calls Try.prog 26 #[] w fun e w' => ∃ b c, e = .returned (.agg #[.int .i64 2, .slice (some ⟨b, 0, none⟩) 4 c]) ∧ Reads w' (.slice (some ⟨b, 0, none⟩) 4 c) 4 4 (flat exQ) ∧ Fr [] w w' := by
  go_enter Try.func26, Try.ntmps26
  go_wp2
  (try simp only [Exit.inBlock, Exit.then])
  refine bodyPost_ret (example_result (b := w.heap.size) rfl (by (repeat (first | rw [if_pos (by omega)] | rw [if_neg (by omega)] | rw [hp_drew] | rw [hp_drewN] | rw [hp_alloc_size] | rw [hp_setCell_size] | rw [hp_alloc] | rw [hp_setCell] | rw [Option.map_some] | rw [upd_cells] | rw [List.set_cons_zero] | rw [List.set_cons_succ] | rfl)))) rfl ⟨w.heap.size + 1, 4, rfl, ?_, by (repeat (first | exact Fr.refl _ _ | assumption | apply Fr.drewN | apply Fr.drew | apply Fr.alloc | refine Fr.setCell ?_ (Or.inr (by simp; try omega)) _))⟩
  exact reads_blk (cs := flat exQ) (by (repeat (first | rw [if_pos (by omega)] | rw [if_neg (by omega)] | rw [hp_drew] | rw [hp_drewN] | rw [hp_alloc_size] | rw [hp_setCell_size] | rw [hp_alloc] | rw [hp_setCell] | rw [Option.map_some] | rw [upd_cells] | rw [List.set_cons_zero] | rw [List.set_cons_succ] | rfl))) rfl
theorem range_blk {w : World} {b : Nat} {cs : List Value} {t : TypeId} {fr : Nat × Nat} (h : w.heap[b]? = some (.cells cs.toArray t fr)) : w.rangeAt b 0 cs := fun j v hj => by rw [Nat.zero_add, heap_eq_cell h]; simpa using hj
theorem same_fr {w w' : World} (h : ∃ o1 o2 n, w' = ((w.alloc o1).alloc o2).drewN n) : Fr [] w w' := by
  obtain ⟨o1, o2, n, rfl⟩ := h
  exact (((Fr.refl _ _).alloc _).alloc _).drewN _
set_option maxHeartbeats 16000000 in
set_option maxRecDepth 100000 in
theorem alive_calls (w : World) : Calls Try.prog 10 #[] w fun e w' => e = .returned (.bool true) ∧ Fr [] w w' := by
  have hM : marks 2 exQ [5] = some exM := by decide
  have hM6 : marks 2 exQ [6] = none := by decide
  have HM := Lib.hid hM
  have HM6 := Lib.hid hM6
  clear hM hM6
  go_enter Try.func10, Try.ntmps10
  go_wp2_with fail
  refine (example_calls _).mono ?_
  rintro e w1 ⟨b0, c0, rfl, hr, hf⟩
  have Hr := Lib.hid hr
  have Hf1 := Lib.hid hf
  clear hr hf
  go_wp2_with fail
  refine (Load_calls (s := 2) (ns := exQ) (by decide) Hr.out).mono ?_
  rintro e w2 ⟨h1, _⟩
  obtain ⟨b, F, rfl, hS, hf, hF⟩ := h1 (by decide)
  have HS2 := Lib.hid hS
  have Hf2 := Lib.hid (Hf1.out.trans0 hf)
  clear h1 hS hf hF
  go_wp2_with fail
  refine (Needed_calls (roots := [5]) (HS2.out.fr (by (repeat (first | exact Fr.refl _ _ | assumption | apply Fr.drewN | apply Fr.drew | apply Fr.alloc | refine Fr.setCell ?_ (Or.inr (by simp; try omega)) _)) : Fr [] w2 _) (by simp)) (reads_blk (cs := i64s [5]) (by (repeat (first | rw [if_pos (by omega)] | rw [if_neg (by omega)] | rw [hp_drew] | rw [hp_drewN] | rw [hp_alloc_size] | rw [hp_setCell_size] | rw [hp_alloc] | rw [hp_setCell] | rw [Option.map_some] | rw [upd_cells] | rw [List.set_cons_zero] | rw [List.set_cons_succ] | rfl))) rfl) (by decide)).mono ?_
  rintro e w3 ⟨_, h2⟩
  obtain ⟨lv, rfl, ho, hf⟩ := h2 exM HM.out
  rw [show nl exM (2 + (exQ.length : Int)).toNat = [0, 1, 2, 4, 5] by decide] at ho
  obtain ⟨la, lc, rfl, _, _⟩ := owns_form ho
  have hf23 : Fr [] w2 w3 := Fr.trans0 (by (repeat (first | exact Fr.refl _ _ | assumption | apply Fr.drewN | apply Fr.drew | apply Fr.alloc | refine Fr.setCell ?_ (Or.inr (by simp; try omega)) _))) hf
  have Hl3 := Lib.hid (Reads.of_owns ho)
  have HS3 := Lib.hid (HS2.out.fr hf23 (by simp))
  have Hf3 := Lib.hid (Hf2.out.trans0 hf23)
  clear h2 ho hf hf23
  go_wp2_with fail
  refine (Sweep_calls (roots := [5]) (HS3.out.fr (by (repeat (first | exact Fr.refl _ _ | assumption | apply Fr.drewN | apply Fr.drew | apply Fr.alloc | refine Fr.setCell ?_ (Or.inr (by simp; try omega)) _)) : Fr [] w3 _) (by simp)) (reads_blk (cs := i64s [5]) (by (repeat (first | rw [if_pos (by omega)] | rw [if_neg (by omega)] | rw [hp_drew] | rw [hp_drewN] | rw [hp_alloc_size] | rw [hp_setCell_size] | rw [hp_alloc] | rw [hp_setCell] | rw [Option.map_some] | rw [upd_cells] | rw [List.set_cons_zero] | rw [List.set_cons_succ] | rfl))) rfl) (by decide)).mono ?_
  rintro e w4 ⟨_, h2⟩
  obtain ⟨bt, G, mv, rfl, hT, ho, hf, hG, hGm⟩ := h2 exM HM.out
  rw [show (sw 2 exQ exM exQ.length).2 = exW by decide] at hT
  rw [show ([5] : List Int).map (geti (sw 2 exQ exM exQ.length).1) = [4] by decide] at ho
  obtain ⟨ma, mc, rfl, _, _⟩ := owns_form ho
  have hf34 : Fr [] w3 w4 := Fr.trans0 (by (repeat (first | exact Fr.refl _ _ | assumption | apply Fr.drewN | apply Fr.drew | apply Fr.alloc | refine Fr.setCell ?_ (Or.inr (by simp; try omega)) _))) hf
  have Hm4 := Lib.hid (Reads.of_owns ho)
  have HT4 := Lib.hid hT
  have HS4 := Lib.hid (HS3.out.fr hf34 (by simp))
  have Hl4 := Lib.hid (Hl3.out.fr hf34)
  have Hf4 := Lib.hid (Hf3.out.trans0 hf34)
  clear h2 hT ho hf hG hGm hf34
  go_wp2_with fail
  refine (New_ok 2 _ (by decide) (by decide)).mono ?_
  rintro e w5 ⟨be, E, rfl, hE, hf, hEn⟩
  have HE5 := Lib.hid hE
  have HEn := Lib.hid hEn
  have H45 := Lib.hid hf
  have Hm5 := Lib.hid (Hm4.out.fr hf)
  have HT5 := Lib.hid (HT4.out.fr hf (by simp))
  have HS5 := Lib.hid (HS4.out.fr hf (by simp))
  have Hl5 := Lib.hid (Hl4.out.fr hf)
  have Hf5 := Lib.hid (Hf4.out.trans0 hf)
  clear hE hf hEn
  go_wp2_with fail
  refine (Copy_calls HS5.out HE5.out (by decide) 5).mono ?_
  rintro e w6 ⟨_, h2⟩
  obtain ⟨rfl, E', hE, hf, hEn⟩ := (h2 exM HM.out).2 rfl
  rw [show (cp 2 exQ [] exM exQ.length).2 = exW by decide] at hE
  rw [show geti (cp 2 exQ [] exM exQ.length).1 5 = 4 by decide]
  have hk : ∀ x, x < w4.heap.size → w6.heap[x]? = w4.heap[x]? := fun x hx => (hf.block x (by have := H45.out.size; omega) (fun h => by have := HEn.out x h; omega)).trans (H45.out.block x hx (by simp))
  have HE6 := Lib.hid hE
  have Hm6 := Lib.hid (Hm4.out.keep fun x _ hx => hk x hx)
  have HT6 := Lib.hid (HT4.out.keep fun x hx => hk x (HT4.out.lt x hx))
  have HS6 := Lib.hid (HS4.out.keep fun x hx => hk x (HS4.out.lt x hx))
  have Hl6 := Lib.hid (Hl4.out.keep fun x _ hx => hk x hx)
  have Hf6 := Lib.hid (Hf5.out.trans hf fun x hx => .inr (by have := HEn.out x hx; have := Hf4.out.size; omega))
  clear h2 hE hf hEn hk
  go_wp2_with fail
  refine (Sweep_calls (roots := [6]) (HS6.out.fr (by (repeat (first | exact Fr.refl _ _ | assumption | apply Fr.drewN | apply Fr.drew | apply Fr.alloc | refine Fr.setCell ?_ (Or.inr (by simp; try omega)) _)) : Fr [] w6 _) (by simp)) (reads_blk (cs := i64s [6]) (by (repeat (first | rw [if_pos (by omega)] | rw [if_neg (by omega)] | rw [hp_drew] | rw [hp_drewN] | rw [hp_alloc_size] | rw [hp_setCell_size] | rw [hp_alloc] | rw [hp_setCell] | rw [Option.map_some] | rw [upd_cells] | rw [List.set_cons_zero] | rw [List.set_cons_succ] | rfl))) rfl) (by decide)).mono ?_
  rintro e w7 ⟨h1, _⟩
  obtain ⟨rfl, hf⟩ := h1 HM6.out
  have hf' : Fr [] w6 w7 := Fr.trans0 (by (repeat (first | exact Fr.refl _ _ | assumption | apply Fr.drewN | apply Fr.drew | apply Fr.alloc | refine Fr.setCell ?_ (Or.inr (by simp; try omega)) _))) hf
  have HE7 := Lib.hid (HE6.out.fr hf' (by simp))
  have Hm7 := Lib.hid (Hm6.out.fr hf')
  have HT7 := Lib.hid (HT6.out.fr hf' (by simp))
  have HS7 := Lib.hid (HS6.out.fr hf' (by simp))
  have Hl7 := Lib.hid (Hl6.out.fr hf')
  have Hf7 := Lib.hid (Hf6.out.trans0 hf')
  clear h1 hf hf'
  go_wp2_with fail
  refine (Needed_nil _ _).mono ?_
  rintro e w8 ⟨rfl, hf⟩
  have HE8 := Lib.hid (HE7.out.fr hf (by simp))
  have Hm8 := Lib.hid (Hm7.out.fr hf)
  have HT8 := Lib.hid (HT7.out.fr hf (by simp))
  have HS8 := Lib.hid (HS7.out.fr hf (by simp))
  have Hl8 := Lib.hid (Hl7.out.fr hf)
  have Hf8 := Lib.hid (Hf7.out.trans0 hf)
  clear hf
  go_wp2_with fail
  refine wp_region_segs [([0, 1, 2, 3, 4, 5, 6, 7, 8, 9, 11, 10], [11]), ([12, 13, 14, 15, 16, 17, 18, 19, 20, 21, 22, 23, 25, 24], [25]), ([26, 27, 28, 29, 30, 31, 32, 33, 34, 35, 36, 37, 38, 39, 40, 41, 42, 43, 44, 45, 46, 47], [])] (by kernel_rfl) (by kernel_rfl) ?_
  (simp only [wpSegs, pick, Array.getD_eq_getD_getElem?, List.getElem?_toArray, List.getElem?_cons_succ, List.getElem?_cons_zero, Option.getD_some])
  go_wp2_with fail
  refine (RSame_calls (L1 := [0, 1, 2, 4, 5]) (L2 := [0, 1, 2, 4, 5]) (Hl8.out.fr (by (repeat (first | exact Fr.refl _ _ | assumption | apply Fr.drewN | apply Fr.drew | apply Fr.alloc | refine Fr.setCell ?_ (Or.inr (by simp; try omega)) _)))) (reads_blk (cs := i64s [0, 1, 2, 4, 5]) (by (repeat (first | rw [if_pos (by omega)] | rw [if_neg (by omega)] | rw [hp_drew] | rw [hp_drewN] | rw [hp_alloc_size] | rw [hp_setCell_size] | rw [hp_alloc] | rw [hp_setCell] | rw [Option.map_some] | rw [upd_cells] | rw [List.set_cons_zero] | rw [List.set_cons_succ] | rfl))) rfl) (by decide)).mono ?_
  rintro e w9 ⟨rfl, hd⟩
  have hf9 : Fr [] w8 w9 := Fr.trans0 (by (repeat (first | exact Fr.refl _ _ | assumption | apply Fr.drewN | apply Fr.drew | apply Fr.alloc | refine Fr.setCell ?_ (Or.inr (by simp; try omega)) _))) (hd.fr [])
  have hw := ((hd.fr []).block (w8.heap.size + 1) (by simp) (by simp)).trans (show _ = some (.cells #[.int .i64 2, .slice (some ⟨w8.heap.size, 0, none⟩) 3 3] 24 (0, 0)) by (repeat (first | rw [if_pos (by omega)] | rw [if_neg (by omega)] | rw [hp_drew] | rw [hp_drewN] | rw [hp_alloc_size] | rw [hp_setCell_size] | rw [hp_alloc] | rw [hp_setCell] | rw [Option.map_some] | rw [upd_cells] | rw [List.set_cons_zero] | rw [List.set_cons_succ] | rfl)))
  have hc := ((hd.fr []).block w8.heap.size (by simp; omega) (by simp)).trans (show _ = some (.cells (flat exW).toArray 59 (0, 0)) by (repeat (first | rw [if_pos (by omega)] | rw [if_neg (by omega)] | rw [hp_drew] | rw [hp_drewN] | rw [hp_alloc_size] | rw [hp_setCell_size] | rw [hp_alloc] | rw [hp_setCell] | rw [Option.map_some] | rw [upd_cells] | rw [List.set_cons_zero] | rw [List.set_cons_succ] | rfl)))
  have Hf9 := Lib.hid hf9
  have Hw9 := Lib.hid hw
  have Hc9 := Lib.hid hc
  clear hd hf9 hw hc
  rw [show decide (([0, 1, 2, 4, 5] : List Int) = [0, 1, 2, 4, 5]) = true by decide]
  go_wp2_with fail
  refine (RSame_calls (L1 := [4]) (L2 := [4]) (Hm8.out.fr (by have := Hf9.out; (repeat (first | exact Fr.refl _ _ | assumption | apply Fr.drewN | apply Fr.drew | apply Fr.alloc | refine Fr.setCell ?_ (Or.inr (by simp; try omega)) _)))) (reads_blk (cs := i64s [4]) (by (repeat (first | rw [if_pos (by omega)] | rw [if_neg (by omega)] | rw [hp_drew] | rw [hp_drewN] | rw [hp_alloc_size] | rw [hp_setCell_size] | rw [hp_alloc] | rw [hp_setCell] | rw [Option.map_some] | rw [upd_cells] | rw [List.set_cons_zero] | rw [List.set_cons_succ] | rfl))) rfl) (by decide)).mono ?_
  rintro e w10 ⟨rfl, hd⟩
  have hf : Fr [] w9 w10 := Fr.trans0 (by (repeat (first | exact Fr.refl _ _ | assumption | apply Fr.drewN | apply Fr.drew | apply Fr.alloc | refine Fr.setCell ?_ (Or.inr (by simp; try omega)) _))) (hd.fr [])
  have hw := (hf.block (w8.heap.size + 1) (lt_of_block Hw9.out) (by simp)).trans Hw9.out
  have hc := (hf.block w8.heap.size (lt_of_block Hc9.out) (by simp)).trans Hc9.out
  have Hf10 := Lib.hid (Hf9.out.trans0 hf)
  have Hw10 := Lib.hid hw
  have Hc10 := Lib.hid hc
  have k0 := heap_eq_cell hw 0
  have k1 := heap_eq_cell hw 1
  have kl := lt_of_block hw
  clear hd hf hw hc
  rw [show decide (([4] : List Int) = [4]) = true by decide]
  go_wp2_with fail
  refine (Data_calls (HT8.out.fr (by have := Hf10.out; (repeat (first | exact Fr.refl _ _ | assumption | apply Fr.drewN | apply Fr.drew | apply Fr.alloc | refine Fr.setCell ?_ (Or.inr (by simp; try omega)) _))) (by simp))).mono ?_
  rintro e w11 ⟨tv, rfl, ho, hf0⟩
  obtain ⟨ta, tc, rfl, _, _⟩ := owns_form ho
  have hf : Fr [] w10 w11 := Fr.trans0 (by (repeat (first | exact Fr.refl _ _ | assumption | apply Fr.drewN | apply Fr.drew | apply Fr.alloc | refine Fr.setCell ?_ (Or.inr (by simp; try omega)) _))) hf0
  have hw := (hf.block (w8.heap.size + 1) (lt_of_block Hw10.out) (by simp)).trans Hw10.out
  have hc := (hf.block w8.heap.size (lt_of_block Hc10.out) (by simp)).trans Hc10.out
  have Hf11 := Lib.hid (Hf10.out.trans0 hf)
  have Hw11 := Lib.hid hw
  have Hc11 := Lib.hid hc
  have k0' := heap_eq_cell hw 0
  have k1' := heap_eq_cell hw 1
  have kl' := lt_of_block hw
  have Hr11 := Lib.hid (Reads.of_owns ho)
  clear ho hf hf0 hw hc k0 k1 kl
  go_wp2
  refine Mid.intro ⟨⟨again_row (T := 24) (cs := [.int .i64 2, .slice (some ⟨w8.heap.size, 0, none⟩) 3 3]) rfl rfl rfl Try.underlying24 rfl (by kernel_rfl) (range_blk Hw11.out) rfl, trivial⟩, ?_⟩
  go_wp2_with fail
  refine (Same_ref (n1 := exW) (n2 := exW) (by decide) Hr11.out (reads_blk (cs := flat exW) Hc11.out rfl)).mono ?_
  rintro e w12 ⟨rfl, hs⟩
  have hf := same_fr hs
  have hw := (hf.block (w8.heap.size + 1) (lt_of_block Hw11.out) (by simp)).trans Hw11.out
  have hc := (hf.block w8.heap.size (lt_of_block Hc11.out) (by simp)).trans Hc11.out
  have Hf12 := Lib.hid (Hf11.out.trans0 hf)
  have Hw12 := Lib.hid hw
  have Hc12 := Lib.hid hc
  have k0 := heap_eq_cell hw 0
  have k1 := heap_eq_cell hw 1
  have kl := lt_of_block hw
  clear hs hf hw hc k0' k1' kl'
  rw [show sameQ 2 2 exW exW = true by decide]
  go_wp2_with fail
  refine (Data_calls (HE8.out.fr (by have := Hf12.out; (repeat (first | exact Fr.refl _ _ | assumption | apply Fr.drewN | apply Fr.drew | apply Fr.alloc | refine Fr.setCell ?_ (Or.inr (by simp; try omega)) _))) (by simp))).mono ?_
  rintro e w13 ⟨tv, rfl, ho, hf0⟩
  obtain ⟨ua, uc, rfl, _, _⟩ := owns_form ho
  have hf : Fr [] w12 w13 := Fr.trans0 (by (repeat (first | exact Fr.refl _ _ | assumption | apply Fr.drewN | apply Fr.drew | apply Fr.alloc | refine Fr.setCell ?_ (Or.inr (by simp; try omega)) _))) hf0
  have hw := (hf.block (w8.heap.size + 1) (lt_of_block Hw12.out) (by simp)).trans Hw12.out
  have hc := (hf.block w8.heap.size (lt_of_block Hc12.out) (by simp)).trans Hc12.out
  have Hf13 := Lib.hid (Hf12.out.trans0 hf)
  have Hw13 := Lib.hid hw
  have Hc13 := Lib.hid hc
  have k0' := heap_eq_cell hw 0
  have k1' := heap_eq_cell hw 1
  have kl' := lt_of_block hw
  have Hr13 := Lib.hid (Reads.of_owns ho)
  clear ho hf hf0 hw hc k0 k1 kl
  go_wp2
  refine Mid.intro ⟨⟨again_row (T := 24) (cs := [.int .i64 2, .slice (some ⟨w8.heap.size, 0, none⟩) 3 3]) rfl rfl rfl Try.underlying24 rfl (by kernel_rfl) (range_blk Hw13.out) rfl, trivial⟩, ?_⟩
  go_wp2_with fail
  refine (Same_ref (n1 := exW) (n2 := exW) (by decide) Hr13.out (reads_blk (cs := flat exW) Hc13.out rfl)).mono ?_
  rintro e w14 ⟨rfl, hs⟩
  have hf := same_fr hs
  have Hf14 := Lib.hid (Hf13.out.trans0 hf)
  clear hs hf k0' k1' kl'
  rw [show sameQ 2 2 exW exW = true by decide]
  go_wp2_with fail
  refine (Alike_calls (HS8.out.fr (by have := Hf14.out; (repeat (first | exact Fr.refl _ _ | assumption | apply Fr.drewN | apply Fr.drew | apply Fr.alloc | refine Fr.setCell ?_ (Or.inr (by simp; try omega)) _))) (by simp)) (HT8.out.fr (by have := Hf14.out; (repeat (first | exact Fr.refl _ _ | assumption | apply Fr.drewN | apply Fr.drew | apply Fr.alloc | refine Fr.setCell ?_ (Or.inr (by simp; try omega)) _))) (by simp)) 5 4).mono ?_
  rintro e w15 ⟨rfl, hf⟩
  have Hf15 := Lib.hid (Hf14.out.trans0 (Fr.trans0 (by (repeat (first | exact Fr.refl _ _ | assumption | apply Fr.drewN | apply Fr.drew | apply Fr.alloc | refine Fr.setCell ?_ (Or.inr (by simp; try omega)) _)) : Fr [] w14 _) hf))
  clear hf
  rw [show decide (Alk 2 exQ 5 2 exW 4) = true by decide]
  go_wp2_with fail
  refine (Alike_calls (HS8.out.fr (by have := Hf15.out; (repeat (first | exact Fr.refl _ _ | assumption | apply Fr.drewN | apply Fr.drew | apply Fr.alloc | refine Fr.setCell ?_ (Or.inr (by simp; try omega)) _))) (by simp)) (HT8.out.fr (by have := Hf15.out; (repeat (first | exact Fr.refl _ _ | assumption | apply Fr.drewN | apply Fr.drew | apply Fr.alloc | refine Fr.setCell ?_ (Or.inr (by simp; try omega)) _))) (by simp)) 5 3).mono ?_
  rintro e w16 ⟨rfl, hf⟩
  have Hf16 := Lib.hid (Hf15.out.trans0 (Fr.trans0 (by (repeat (first | exact Fr.refl _ _ | assumption | apply Fr.drewN | apply Fr.drew | apply Fr.alloc | refine Fr.setCell ?_ (Or.inr (by simp; try omega)) _)) : Fr [] w15 _) hf))
  clear hf
  rw [show decide (Alk 2 exQ 5 2 exW 3) = false by decide]
  go_wp2
  refine Mid.intro ⟨trivial, Strict.intro rfl ?_⟩
  go_wp2
  go_ret
  exact ⟨rfl, Hf8.out.trans0 Hf16.out⟩
end Go.Proofs.Ytgeomalefpjfdaa
