/- SweepSelf: what the law's function returns. -/
import Derived.Test.YtgeomalefpjfdaaYb
namespace Go.Proofs.Qs
theorem marks_one {s : Int} {ns : List K4} {id : Int} (h : Kn s ns id) : ∃ m, marks s ns [id] = some m := by
  cases hm : marks s ns [id] with
  | none =>
    obtain ⟨r, hr, hno⟩ := marks_none.1 hm
    rw [List.mem_singleton] at hr
    subst hr
    exact absurd h hno
  | some m => exact ⟨m, rfl⟩
theorem marks_not {s : Int} {ns : List K4} {id : Int} (h : ¬ Kn s ns id) : marks s ns [id] = none := marks_none.2 ⟨id, by simp, h⟩
theorem copy_self {s : Int} {ns : List K4} {m : List Bool} {id : Int} (hg : GoodQ s ns) (hl : ns.length ≤ 200) (hm : marks s ns [id] = some m) : (cp s ns ns m ns.length).2 = ns ∧ geti (cp s ns ns m ns.length).1 id = id := by
  have hM := marks_marked hg hm
  obtain ⟨hk, ha⟩ := hM.root id (by simp)
  have h2 := cp_there hg hg (by omega) hM.down (fun j h1 h2 _ => ⟨j, ⟨h1, h2⟩, rfl⟩) ns.length (Nat.le_refl _)
  have hN := cp_named hg hg (by omega) hM.down ns.length (Nat.le_refl _)
  rw [h2] at hN
  obtain ⟨k1, t1⟩ := hN.tree id hk.1 hk.2 (.inr ha)
  exact ⟨h2, tr_inj hg ns.length (by have := k1.2; omega) k1 hk t1⟩
end Go.Proofs.Qs
namespace Go.Proofs.Ytgeomalefpjfdaa
open Go Go.RowKit Go.Proofs.Rg Go.Proofs.Mp Go.Proofs.Hp Go.Proofs.Qs
set_option linter.unusedVariables false
set_option maxHeartbeats 16000000 in
set_option maxRecDepth 100000 in
theorem SweepSelf_calls {w : World} {s : Int} {ns : List K4} {v : Value} (hv : Reads w v ns.length 4 (flat ns)) (id : Int) :
    Calls Try.prog 8 #[.agg #[.int .i64 s, v], .int .i64 id] w fun e w' => e = .returned (.bool true) ∧ Fr [] w w' := by
  have hvk := hv
  obtain ⟨_, a, c, rfl, _⟩ := hv
  have Hv := Lib.hid hvk
  clear hvk
  by_cases hg : ns.length ≤ 200 ∧ GoodQ s ns
  rotate_left
  · have Hg := Lib.hid hg
    clear hg
    go_enter Try.func8, Try.ntmps8
    go_wp2_with fail
    refine (load_calls (s := s) (Hv.out.fr (by (repeat (first | exact Fr.refl _ _ | assumption | apply Fr.drewN | apply Fr.drew | apply Fr.alloc | refine Fr.setCell ?_ (Or.inr (by simp; try omega)) _))))).mono ?_
    rintro e w1 ⟨_, h1⟩
    obtain ⟨rfl, hf⟩ := h1 Hg.out
    have Hf1 := Lib.hid (Fr.trans0 (by (repeat (first | exact Fr.refl _ _ | assumption | apply Fr.drewN | apply Fr.drew | apply Fr.alloc | refine Fr.setCell ?_ (Or.inr (by simp; try omega)) _)) : Fr [] w _) hf)
    clear h1 hf
    go_wp2_with fail
    refine (alive_calls _).mono ?_
    rintro e w2 ⟨rfl, hf⟩
    have Hf2 := Lib.hid (Hf1.out.trans0 (Fr.trans0 (by (repeat (first | exact Fr.refl _ _ | assumption | apply Fr.drewN | apply Fr.drew | apply Fr.alloc | refine Fr.setCell ?_ (Or.inr (by simp; try omega)) _)) : Fr [] w1 _) hf))
    clear hf
    go_wp2
    go_ret
    exact ⟨rfl, Hf2.out⟩
  have hs1 := hg.2.1
  have hs2 := hg.2.2.1
  obtain ⟨S, rfl⟩ : ∃ S : Nat, s = S := ⟨s.toNat, by omega⟩
  have Hg := Lib.hid hg
  clear hg
  have hKn : ∀ w1, Calls Try.prog 23 #[.agg #[.int .i64 S, .slice a ns.length c], .int .i64 id] w1 fun e w' => e = .returned (.bool (decide (Kn S ns id))) ∧ Fr [] w1 w' := fun w1 => Known_calls (by omega) (by have := Hg.out.1; omega)
  have HKn := Lib.hid hKn
  clear hKn
  obtain ⟨n, q, hnq, hcall⟩ : ∃ n q : Int, (Kn S ns id ∧ n = id ∧ q = 0 ∨ ¬ Kn S ns id ∧ n = 0 ∧ q = 13) ∧ ∀ {w1 : World} {b : Nat} {F : List Nat}, StoreAt w1 b S ns F →
      Calls Try.prog 20 #[.pointer (some ⟨b, 0, none⟩), .int .i64 id, .pointer (some ⟨b, 0, none⟩)] w1 fun e w' => e = .returned (.tuple #[.int .i64 n, .int .i64 q]) ∧ ∃ F', StoreAt w' b S ns F' ∧ Fr F w1 w' := by
    by_cases hk : Kn S ns id
    · obtain ⟨m, hm⟩ := marks_one hk
      obtain ⟨h2, h3⟩ := copy_self Hg.out.2 Hg.out.1 hm
      refine ⟨id, 0, .inl ⟨hk, rfl, rfl⟩, fun hS => (Copy_calls hS hS (by have := Hg.out.1; omega) id).mono ?_⟩
      rintro e w' ⟨_, h⟩
      obtain ⟨he, F', hS', hf, _⟩ := (h m hm).2 rfl
      rw [h3] at he
      rw [h2] at hS'
      exact ⟨he, F', hS', hf⟩
    · have hm := marks_not hk
      refine ⟨0, 13, .inr ⟨hk, rfl, rfl⟩, fun {w1 b F} hS => (Copy_calls hS hS (by have := Hg.out.1; omega) id).mono ?_⟩
      rintro e w' ⟨h, _⟩
      obtain ⟨he, hf⟩ := h hm
      exact ⟨he, F, hS.fr hf (by simp), hf.mono (by simp)⟩
  have Hnq := Lib.hid hnq
  clear hnq
  go_enter Try.func8, Try.ntmps8
  go_wp2_with fail
  refine (load_calls (s := S) (Hv.out.fr (by (repeat (first | exact Fr.refl _ _ | assumption | apply Fr.drewN | apply Fr.drew | apply Fr.alloc | refine Fr.setCell ?_ (Or.inr (by simp; try omega)) _))))).mono ?_
  rintro e w1 ⟨h1, _⟩
  obtain ⟨b, F, rfl, hS, hf, hF⟩ := h1 Hg.out
  have hb := (hf.block w.heap.size (by simp) (by simp)).trans (show _ = some (.cells #[.int .i64 S, .slice a ns.length c] 24 (0, 0)) by (repeat (first | rw [if_pos (by omega)] | rw [if_neg (by omega)] | rw [hp_drew] | rw [hp_drewN] | rw [hp_alloc_size] | rw [hp_setCell_size] | rw [hp_alloc] | rw [hp_setCell] | rw [Option.map_some] | rw [upd_cells] | rw [List.set_cons_zero] | rw [List.set_cons_succ] | rfl)))
  have Hb1 := Lib.hid hb
  have HS1 := Lib.hid hS
  have Hf1 := Lib.hid (Fr.trans0 (by (repeat (first | exact Fr.refl _ _ | assumption | apply Fr.drewN | apply Fr.drew | apply Fr.alloc | refine Fr.setCell ?_ (Or.inr (by simp; try omega)) _)) : Fr [] w _) hf)
  have hFn : ∀ x ∈ F, w.heap.size + 1 ≤ x := fun x hx => by have := hF x hx; simpa using this
  have HF := Lib.hid hFn
  clear h1 hf hb hS hF hFn
  have Hcall := Lib.hid (hcall HS1.out)
  clear hcall
  go_wp2_with fail
  refine Hcall.out.mono ?_
  rintro e w2 ⟨rfl, F', hS, hf⟩
  have hb := (hf.block w.heap.size (lt_of_block Hb1.out) (fun h => by have := HF.out _ h; omega)).trans Hb1.out
  have Hb2 := Lib.hid hb
  have HS2 := Lib.hid hS
  have Hf2 := Lib.hid (Hf1.out.trans hf fun x hx => .inr (by have := HF.out x hx; omega))
  clear hf hb hS
  go_wp2_with fail
  refine (Copy_nil1 _ _ _).mono ?_
  rintro e w3 ⟨rfl, hf⟩
  have Hb3 := Lib.hid ((hf.block w.heap.size (lt_of_block Hb2.out) (by simp)).trans Hb2.out)
  have HS3 := Lib.hid (HS2.out.fr hf (by simp))
  have Hf3 := Lib.hid (Hf2.out.trans0 hf)
  clear hf
  go_wp2_with fail
  refine (Copy_nil2 _ _ _).mono ?_
  rintro e w4 ⟨rfl, hf⟩
  have Hb4 := Lib.hid ((hf.block w.heap.size (lt_of_block Hb3.out) (by simp)).trans Hb3.out)
  have HS4 := Lib.hid (HS3.out.fr hf (by simp))
  have Hf4 := Lib.hid (Hf3.out.trans0 hf)
  clear hf
  go_wp2_with fail
  refine (Sweep_nil _ _).mono ?_
  rintro e w5 ⟨rfl, hf0⟩
  have hf : Fr [] w4 w5 := Fr.trans0 (by (repeat (first | exact Fr.refl _ _ | assumption | apply Fr.drewN | apply Fr.drew | apply Fr.alloc | refine Fr.setCell ?_ (Or.inr (by simp; try omega)) _))) hf0
  have hb := (hf.block w.heap.size (lt_of_block Hb4.out) (by simp)).trans Hb4.out
  have b0 := heap_eq_cell hb 0
  have b1 := heap_eq_cell hb 1
  have bl := lt_of_block hb
  have Hb5 := Lib.hid hb
  have HS5 := Lib.hid (HS4.out.fr hf (by simp))
  have Hf5 := Lib.hid (Hf4.out.trans0 hf)
  clear hf hf0 hb
  go_wp2
  refine wp_region_segs [([0, 1, 2, 3, 4, 5, 6, 7, 8, 9, 10, 11, 13, 12], [13]), ([14, 15, 16], [])] (by kernel_rfl) (by kernel_rfl) ?_
  (simp only [wpSegs, pick, Array.getD_eq_getD_getElem?, List.getElem?_toArray, List.getElem?_cons_succ, List.getElem?_cons_zero, Option.getD_some])
  go_wp2_with fail
  refine (Data_calls (HS5.out.fr (by (repeat (first | exact Fr.refl _ _ | assumption | apply Fr.drewN | apply Fr.drew | apply Fr.alloc | refine Fr.setCell ?_ (Or.inr (by simp; try omega)) _)) : Fr [] w5 _) (by simp))).mono ?_
  rintro e w6 ⟨dv, rfl, ho, hf0⟩
  obtain ⟨da, dc, rfl, _, _⟩ := owns_form ho
  have hf : Fr [] w5 w6 := Fr.trans0 (by (repeat (first | exact Fr.refl _ _ | assumption | apply Fr.drewN | apply Fr.drew | apply Fr.alloc | refine Fr.setCell ?_ (Or.inr (by simp; try omega)) _))) hf0
  have Hb6 := Lib.hid ((hf.block w.heap.size bl (by simp)).trans Hb5.out)
  have Hf6 := Lib.hid (Hf5.out.trans0 hf)
  have Hd6 := Lib.hid (Reads.of_owns ho)
  clear ho hf hf0 b0 b1 bl
  go_wp2
  refine Mid.intro ⟨⟨again_row (T := 24) (cs := [.int .i64 S, .slice a ns.length c]) rfl rfl rfl Try.underlying24 rfl (by kernel_rfl) (range_blk Hb6.out) rfl, trivial⟩, ?_⟩
  go_wp2_with fail
  refine (Same_ref (n1 := ns) (n2 := ns) (by have := Hg.out.1; omega) Hd6.out (Hv.out.fr Hf6.out)).mono ?_
  rintro e w7 ⟨rfl, hs⟩
  rw [show sameQ (S : Int) S ns ns = true by simp [sameQ]]
  have hf := same_fr hs
  have hb := (hf.block w.heap.size (lt_of_block Hb6.out) (by simp)).trans Hb6.out
  have b0 := heap_eq_cell hb 0
  have b1 := heap_eq_cell hb 1
  have bl := lt_of_block hb
  have Hf7 := Lib.hid (Hf6.out.trans0 hf)
  clear hs hf hb
  go_wp2
  refine Mid.intro ⟨trivial, Strict.intro rfl ?_⟩
  go_wp2_with fail
  refine (HKn.out _).mono ?_
  rintro e w8 ⟨rfl, hf⟩
  have Hf8 := Lib.hid (Hf7.out.trans0 hf)
  clear hf b0 b1 bl
  rcases Hnq.out with ⟨hk, rfl, rfl⟩ | ⟨hk, rfl, rfl⟩
  · rw [decide_eq_true hk]
    clear hk
    go_wp2_with fail
    refine (alive_calls _).mono ?_
    rintro e w9 ⟨rfl, hf⟩
    have Hf9 := Lib.hid (Hf8.out.trans0 (Fr.trans0 (by (repeat (first | exact Fr.refl _ _ | assumption | apply Fr.drewN | apply Fr.drew | apply Fr.alloc | refine Fr.setCell ?_ (Or.inr (by simp; try omega)) _)) : Fr [] w8 _) hf))
    clear hf
    go_wp2
    go_ret
    exact ⟨rfl, Hf9.out⟩
  · rw [decide_eq_false hk]
    clear hk
    go_wp2_with fail
    refine (alive_calls _).mono ?_
    rintro e w9 ⟨rfl, hf⟩
    have Hf9 := Lib.hid (Hf8.out.trans0 (Fr.trans0 (by (repeat (first | exact Fr.refl _ _ | assumption | apply Fr.drewN | apply Fr.drew | apply Fr.alloc | refine Fr.setCell ?_ (Or.inr (by simp; try omega)) _)) : Fr [] w8 _) hf))
    clear hf
    go_wp2
    go_ret
    exact ⟨rfl, Hf9.out⟩
end Go.Proofs.Ytgeomalefpjfdaa
