/- SweepCompares: what the law's function returns. -/
import Derived.Test.YtgeomalefpjfdaaYb
namespace Go.Proofs.Ytgeomalefpjfdaa
open Go Go.RowKit Go.Proofs.Rg Go.Proofs.Mp Go.Proofs.Hp Go.Proofs.Qs
set_option linter.unusedVariables false
theorem range_two {w : World} {b : Nat} {x y p q r u : Value} {T : TypeId} {fr : Nat × Nat} (h : w.heap[b]? = some (.cells #[x, y, p, q, r, u] T fr)) : w.rangeAt b 0 [x, y] := fun j v hj => by
  rw [Nat.zero_add, heap_eq_cell h]
  match j with
  | 0 => exact hj
  | 1 => exact hj
  | n + 2 => simp at hj
theorem Alk_symm {s t : Int} {ns ms : List K4} {x y : Int} : Alk t ms y s ns x ↔ Alk s ns x t ms y := ⟨fun ⟨a, b, c⟩ => ⟨b, a, c.symm⟩, fun ⟨a, b, c⟩ => ⟨b, a, c.symm⟩⟩
theorem Alk_self {s : Int} {ns : List K4} {x : Int} : Alk s ns x s ns x ↔ Kn s ns x := ⟨fun h => h.1, fun h => ⟨h, h, rfl⟩⟩
set_option maxHeartbeats 16000000 in
set_option maxRecDepth 100000 in
theorem SweepCompares_calls {w : World} {s t X Y : Int} {ns ms : List K4} {a a' : Option Addr} {c c' : Nat} (hv : Reads w (.slice a ns.length c) ns.length 4 (flat ns)) (hu : Reads w (.slice a' ms.length c') ms.length 4 (flat ms)) (hz : a' = none → c' = 0) :
    Calls Try.prog 7 #[.agg #[.int .i64 s, .slice a ns.length c, .int .i64 t, .slice a' ms.length c', .int .i64 X, .int .i64 Y]] w fun e w' => e = .returned (.bool true) ∧ Fr [] w w' := by
  have Hv := Lib.hid hv
  have Hu := Lib.hid hu
  have Hz := Lib.hid hz
  clear hv hu hz
  by_cases hg : ns.length ≤ 200 ∧ GoodQ s ns
  rotate_left
  · have Hg := Lib.hid hg
    clear hg
    go_enter Try.func7, Try.ntmps7
    go_wp2_with fail
    refine (load_calls (s := s) (Hv.out.fr (by (repeat (first | exact Fr.refl _ _ | assumption | apply Fr.drewN | apply Fr.drew | apply Fr.alloc | refine Fr.setCell ?_ (Or.inr (by simp; try omega)) _))))).mono ?_
    rintro e w1 ⟨_, h1⟩
    obtain ⟨rfl, hf0⟩ := h1 Hg.out
    have hf : Fr [] w w1 := Fr.trans0 (by (repeat (first | exact Fr.refl _ _ | assumption | apply Fr.drewN | apply Fr.drew | apply Fr.alloc | refine Fr.setCell ?_ (Or.inr (by simp; try omega)) _))) hf0
    have hb := (hf0.block w.heap.size (by simp) (by simp)).trans (show _ = some (.cells #[.int .i64 s, .slice a ns.length c, .int .i64 t, .slice a' ms.length c', .int .i64 X, .int .i64 Y] 45 (0, 0)) by (repeat (first | rw [if_pos (by omega)] | rw [if_neg (by omega)] | rw [hp_drew] | rw [hp_drewN] | rw [hp_alloc_size] | rw [hp_setCell_size] | rw [hp_alloc] | rw [hp_setCell] | rw [Option.map_some] | rw [upd_cells] | rw [List.set_cons_zero] | rw [List.set_cons_succ] | rfl)))
    have c10 := heap_eq_cell hb 0
    have c11 := heap_eq_cell hb 1
    have c12 := heap_eq_cell hb 2
    have c13 := heap_eq_cell hb 3
    have c14 := heap_eq_cell hb 4
    have c15 := heap_eq_cell hb 5
    have c1l := lt_of_block hb
    have Hf1 := Lib.hid hf
    clear h1 hf hf0 hb
    go_wp2_with fail
    refine (load_calls (s := t) (ns := ms) (Hu.out.fr Hf1.out)).mono ?_
    rintro e w2 ⟨h1, h2⟩
    have hg2 : ∃ p bo, e = .returned (.tuple #[.pointer p, .bool bo]) ∧ Fr [] w1 w2 := by
      by_cases h : ms.length ≤ 200 ∧ GoodQ t ms
      · obtain ⟨b, F, he, _, hf, _⟩ := h1 h
        exact ⟨_, _, he, hf⟩
      · obtain ⟨he, hf⟩ := h2 h
        exact ⟨_, _, he, hf⟩
    obtain ⟨p, bo, rfl, hf⟩ := hg2
    have Hf2 := Lib.hid (Hf1.out.trans0 hf)
    clear h1 h2 hf c10 c11 c12 c13 c14 c15
    go_wp2_with fail
    refine (alive_calls _).mono ?_
    rintro e w3 ⟨rfl, hf⟩
    have Hf3 := Lib.hid (Hf2.out.trans0 (Fr.trans0 (by (repeat (first | exact Fr.refl _ _ | assumption | apply Fr.drewN | apply Fr.drew | apply Fr.alloc | refine Fr.setCell ?_ (Or.inr (by simp; try omega)) _)) : Fr [] w2 _) hf))
    clear hf
    go_wp2
    go_ret
    exact ⟨rfl, Hf3.out⟩
  have Hg := Lib.hid hg
  clear hg
  by_cases hg : ms.length ≤ 200 ∧ GoodQ t ms
  rotate_left
  · have Hg' := Lib.hid hg
    clear hg
    go_enter Try.func7, Try.ntmps7
    go_wp2_with fail
    refine (load_calls (s := s) (Hv.out.fr (by (repeat (first | exact Fr.refl _ _ | assumption | apply Fr.drewN | apply Fr.drew | apply Fr.alloc | refine Fr.setCell ?_ (Or.inr (by simp; try omega)) _))))).mono ?_
    rintro e w1 ⟨h1, _⟩
    obtain ⟨b, F, rfl, _, hf0, _⟩ := h1 Hg.out
    have hf : Fr [] w w1 := Fr.trans0 (by (repeat (first | exact Fr.refl _ _ | assumption | apply Fr.drewN | apply Fr.drew | apply Fr.alloc | refine Fr.setCell ?_ (Or.inr (by simp; try omega)) _))) hf0
    have hb := (hf0.block w.heap.size (by simp) (by simp)).trans (show _ = some (.cells #[.int .i64 s, .slice a ns.length c, .int .i64 t, .slice a' ms.length c', .int .i64 X, .int .i64 Y] 45 (0, 0)) by (repeat (first | rw [if_pos (by omega)] | rw [if_neg (by omega)] | rw [hp_drew] | rw [hp_drewN] | rw [hp_alloc_size] | rw [hp_setCell_size] | rw [hp_alloc] | rw [hp_setCell] | rw [Option.map_some] | rw [upd_cells] | rw [List.set_cons_zero] | rw [List.set_cons_succ] | rfl)))
    have c10 := heap_eq_cell hb 0
    have c11 := heap_eq_cell hb 1
    have c12 := heap_eq_cell hb 2
    have c13 := heap_eq_cell hb 3
    have c14 := heap_eq_cell hb 4
    have c15 := heap_eq_cell hb 5
    have c1l := lt_of_block hb
    have Hf1 := Lib.hid hf
    clear h1 hf hf0 hb
    go_wp2_with fail
    refine (load_calls (s := t) (ns := ms) (Hu.out.fr Hf1.out)).mono ?_
    rintro e w2 ⟨_, h2⟩
    obtain ⟨rfl, hf⟩ := h2 Hg'.out
    have Hf2 := Lib.hid (Hf1.out.trans0 hf)
    clear h2 hf c10 c11 c12 c13 c14 c15
    go_wp2_with fail
    refine (alive_calls _).mono ?_
    rintro e w3 ⟨rfl, hf⟩
    have Hf3 := Lib.hid (Hf2.out.trans0 (Fr.trans0 (by (repeat (first | exact Fr.refl _ _ | assumption | apply Fr.drewN | apply Fr.drew | apply Fr.alloc | refine Fr.setCell ?_ (Or.inr (by simp; try omega)) _)) : Fr [] w2 _) hf))
    clear hf
    go_wp2
    go_ret
    exact ⟨rfl, Hf3.out⟩
  have Hg' := Lib.hid hg
  clear hg
  have hs1 := Hg.out.2.1
  have hs2 := Hg.out.2.2.1
  obtain ⟨S, rfl⟩ : ∃ S : Nat, s = S := ⟨s.toNat, by omega⟩
  have hKn : ∀ w1, Calls Try.prog 23 #[.agg #[.int .i64 S, .slice a ns.length c], .int .i64 X] w1 fun e w' => e = .returned (.bool (decide (Kn S ns X))) ∧ Fr [] w1 w' := fun w1 => Known_calls (by omega) (by have := Hg.out.1; omega)
  have HKn := Lib.hid hKn
  clear hKn
  go_enter Try.func7, Try.ntmps7
  go_wp2_with fail
  refine (load_calls (s := S) (Hv.out.fr (by (repeat (first | exact Fr.refl _ _ | assumption | apply Fr.drewN | apply Fr.drew | apply Fr.alloc | refine Fr.setCell ?_ (Or.inr (by simp; try omega)) _))))).mono ?_
  rintro e w1 ⟨h1, _⟩
  obtain ⟨b1, F1, rfl, hS, hf0, hF⟩ := h1 Hg.out
  have hf : Fr [] w w1 := Fr.trans0 (by (repeat (first | exact Fr.refl _ _ | assumption | apply Fr.drewN | apply Fr.drew | apply Fr.alloc | refine Fr.setCell ?_ (Or.inr (by simp; try omega)) _))) hf0
  have hb := (hf0.block w.heap.size (by simp) (by simp)).trans (show _ = some (.cells #[.int .i64 S, .slice a ns.length c, .int .i64 t, .slice a' ms.length c', .int .i64 X, .int .i64 Y] 45 (0, 0)) by (repeat (first | rw [if_pos (by omega)] | rw [if_neg (by omega)] | rw [hp_drew] | rw [hp_drewN] | rw [hp_alloc_size] | rw [hp_setCell_size] | rw [hp_alloc] | rw [hp_setCell] | rw [Option.map_some] | rw [upd_cells] | rw [List.set_cons_zero] | rw [List.set_cons_succ] | rfl)))
  have c10 := heap_eq_cell hb 0
  have c11 := heap_eq_cell hb 1
  have c12 := heap_eq_cell hb 2
  have c13 := heap_eq_cell hb 3
  have c14 := heap_eq_cell hb 4
  have c15 := heap_eq_cell hb 5
  have c1l := lt_of_block hb
  have Hb1 := Lib.hid hb
  have Hf1 := Lib.hid hf
  have HA1 := Lib.hid hS
  have hFn : ∀ x ∈ F1, w.heap.size + 1 ≤ x := fun x hx => by have := hF x hx; simpa using this
  have HF1 := Lib.hid hFn
  clear h1 hf hf0 hb hS hF hFn
  go_wp2_with fail
  refine (load_calls (s := t) (ns := ms) (Hu.out.fr Hf1.out)).mono ?_
  rintro e w2 ⟨h1, _⟩
  obtain ⟨b2, F2, rfl, hS, hf, hF⟩ := h1 Hg'.out
  have hb := (hf.block w.heap.size (lt_of_block Hb1.out) (by simp)).trans Hb1.out
  have c20 := heap_eq_cell hb 0
  have c21 := heap_eq_cell hb 1
  have c22 := heap_eq_cell hb 2
  have c23 := heap_eq_cell hb 3
  have c24 := heap_eq_cell hb 4
  have c25 := heap_eq_cell hb 5
  have c2l := lt_of_block hb
  have Hb2 := Lib.hid hb
  have Hf2 := Lib.hid (Hf1.out.trans0 hf)
  have HA2 := Lib.hid (HA1.out.fr hf (by simp))
  have HB2 := Lib.hid hS
  have HF2 := Lib.hid hF
  have h12 : w1.heap.size ≤ w2.heap.size := hf.size
  clear h1 hf hb hS hF c10 c11 c12 c13 c14 c15
  go_wp2_with fail
  refine (Alike_calls HA2.out HB2.out X Y).mono ?_
  rintro e w3 ⟨rfl, hf⟩
  have hb := (hf.block w.heap.size (lt_of_block Hb2.out) (by simp)).trans Hb2.out
  have c30 := heap_eq_cell hb 0
  have c31 := heap_eq_cell hb 1
  have c32 := heap_eq_cell hb 2
  have c33 := heap_eq_cell hb 3
  have c34 := heap_eq_cell hb 4
  have c35 := heap_eq_cell hb 5
  have c3l := lt_of_block hb
  have Hb3 := Lib.hid hb
  have Hf3 := Lib.hid (Hf2.out.trans0 hf)
  have HA3 := Lib.hid (HA2.out.fr hf (by simp))
  have HB3 := Lib.hid (HB2.out.fr hf (by simp))
  have hR := fun w4 (hf4 : Fr [] w3 w4) => RAlike_calls (w := w4) Hg.out.2 Hg'.out.2 ((Hv.out.fr Hf3.out).fr hf4) ((Hu.out.fr Hf3.out).fr hf4) X Y
  have hS := fun w4 (hf4 : Fr [] w3 w4) => Alike_calls (HB3.out.fr hf4 (by simp)) (HA3.out.fr hf4 (by simp)) Y X
  rw [show decide (Alk t ms Y S ns X) = decide (Alk S ns X t ms Y) from decide_eq_decide.2 Alk_symm] at hS
  have hT := fun w4 (hf4 : Fr [] w3 w4) => Alike_calls (HA3.out.fr hf4 (by simp)) (HA3.out.fr hf4 (by simp)) X X
  rw [show decide (Alk S ns X S ns X) = decide (Kn S ns X) from decide_eq_decide.2 Alk_self] at hT
  have hKn := HKn.out
  have HR := Lib.hid hR
  have HS := Lib.hid hS
  have HT := Lib.hid hT
  have HK := Lib.hid hKn
  clear hf hb hR hS hT hKn HKn c20 c21 c22 c23 c24 c25
  generalize decide (Alk S ns X t ms Y) = ba at *
  generalize decide (Kn S ns X) = bk at *
  go_wp2
  refine wp_region_segs [([0, 1, 2, 3, 4, 5, 6, 7, 8, 9, 10, 11, 12, 13, 14, 15, 16, 17, 18, 19, 20, 21, 22, 23, 24, 25, 26, 27, 28, 30, 31, 32, 33, 29], [31, 33]), ([34, 35, 36, 37, 38, 39, 40, 41, 42, 43, 44, 45, 46, 47, 48, 49, 50, 51, 52, 53, 54, 55, 56, 57, 58], [])] (by kernel_rfl) (by kernel_rfl) ?_
  (simp only [wpSegs, pick, Array.getD_eq_getD_getElem?, List.getElem?_toArray, List.getElem?_cons_succ, List.getElem?_cons_zero, Option.getD_some])
  go_wp2_with fail
  refine (HR.out _ (by (repeat (first | exact Fr.refl _ _ | assumption | apply Fr.drewN | apply Fr.drew | apply Fr.alloc | refine Fr.setCell ?_ (Or.inr (by simp; try omega)) _)))).mono ?_
  rintro e w4 ⟨rfl, hf0⟩
  have hf : Fr [] w3 w4 := Fr.trans0 (by (repeat (first | exact Fr.refl _ _ | assumption | apply Fr.drewN | apply Fr.drew | apply Fr.alloc | refine Fr.setCell ?_ (Or.inr (by simp; try omega)) _))) hf0
  have hb := (hf.block w.heap.size (lt_of_block Hb3.out) (by simp)).trans Hb3.out
  have c40 := heap_eq_cell hb 0
  have c41 := heap_eq_cell hb 1
  have c42 := heap_eq_cell hb 2
  have c43 := heap_eq_cell hb 3
  have c44 := heap_eq_cell hb 4
  have c45 := heap_eq_cell hb 5
  have c4l := lt_of_block hb
  have Hb4 := Lib.hid hb
  have Hf4 := Lib.hid (Hf3.out.trans0 hf)
  have H34 := Lib.hid hf
  clear hf hf0 hb c30 c31 c32 c33 c34 c35
  have hbb : (ba == ba) = true := by simp
  have hbk : (bk == bk) = true := by simp
  go_wp2_with fail
  refine (HS.out _ H34.out).mono ?_
  rintro e w5 ⟨rfl, hf⟩
  have hb := (hf.block w.heap.size (lt_of_block Hb4.out) (by simp)).trans Hb4.out
  have c50 := heap_eq_cell hb 0
  have c51 := heap_eq_cell hb 1
  have c52 := heap_eq_cell hb 2
  have c53 := heap_eq_cell hb 3
  have c54 := heap_eq_cell hb 4
  have c55 := heap_eq_cell hb 5
  have c5l := lt_of_block hb
  have Hb5 := Lib.hid hb
  have Hf5 := Lib.hid (Hf4.out.trans0 hf)
  have H35 := Lib.hid (H34.out.trans0 hf)
  clear hf hb c40 c41 c42 c43 c44 c45
  go_wp2_with fail
  refine (HT.out _ H35.out).mono ?_
  rintro e w6 ⟨rfl, hf⟩
  have hb := (hf.block w.heap.size (lt_of_block Hb5.out) (by simp)).trans Hb5.out
  have c60 := heap_eq_cell hb 0
  have c61 := heap_eq_cell hb 1
  have c62 := heap_eq_cell hb 2
  have c63 := heap_eq_cell hb 3
  have c64 := heap_eq_cell hb 4
  have c65 := heap_eq_cell hb 5
  have c6l := lt_of_block hb
  have Hb6 := Lib.hid hb
  have Hf6 := Lib.hid (Hf5.out.trans0 hf)
  clear hf hb c50 c51 c52 c53 c54 c55
  go_wp2
  refine Mid.intro ⟨⟨again_row (T := 24) (cs := [.int .i64 S, .slice a ns.length c]) rfl rfl rfl Try.underlying24 rfl (by kernel_rfl) (range_two Hb6.out) rfl, again_cell (T := 3) rfl rfl rfl Try.underlying3 rfl c64 rfl, trivial⟩, ?_⟩
  go_wp2_with fail
  refine (HK.out _).mono ?_
  rintro e w7 ⟨rfl, hf⟩
  have hb := (hf.block w.heap.size (lt_of_block Hb6.out) (by simp)).trans Hb6.out
  have c70 := heap_eq_cell hb 0
  have c71 := heap_eq_cell hb 1
  have c72 := heap_eq_cell hb 2
  have c73 := heap_eq_cell hb 3
  have c74 := heap_eq_cell hb 4
  have c75 := heap_eq_cell hb 5
  have c7l := lt_of_block hb
  have Hb7 := Lib.hid hb
  have Hf7 := Lib.hid (Hf6.out.trans0 hf)
  clear hf hb c60 c61 c62 c63 c64 c65
  go_wp2_with fail
  refine (Alike_nil1 _ _ _ _).mono ?_
  rintro e w8 ⟨rfl, hf⟩
  have hb := (hf.block w.heap.size (lt_of_block Hb7.out) (by simp)).trans Hb7.out
  have c80 := heap_eq_cell hb 0
  have c81 := heap_eq_cell hb 1
  have c82 := heap_eq_cell hb 2
  have c83 := heap_eq_cell hb 3
  have c84 := heap_eq_cell hb 4
  have c85 := heap_eq_cell hb 5
  have c8l := lt_of_block hb
  have Hb8 := Lib.hid hb
  have Hf8 := Lib.hid (Hf7.out.trans0 hf)
  clear hf hb c70 c71 c72 c73 c74 c75
  go_wp2_with fail
  refine (Alike_nil2 _ _ _ _).mono ?_
  rintro e w9 ⟨rfl, hf⟩
  have Hf9 := Lib.hid (Hf8.out.trans0 hf)
  clear hf c80 c81 c82 c83 c84 c85
  go_wp2_with fail
  refine (alive_calls _).mono ?_
  rintro e w10 ⟨rfl, hf⟩
  have Hf10 := Lib.hid (Hf9.out.trans0 (Fr.trans0 (by (repeat (first | exact Fr.refl _ _ | assumption | apply Fr.drewN | apply Fr.drew | apply Fr.alloc | refine Fr.setCell ?_ (Or.inr (by simp; try omega)) _)) : Fr [] w9 _) hf))
  clear hf
  go_wp2
  refine Mid.intro ⟨trivial, Strict.intro rfl ?_⟩
  go_wp2
  go_ret
  exact ⟨rfl, Hf10.out⟩
end Go.Proofs.Ytgeomalefpjfdaa
