/- Own texts of this claim, part 45: no condition. -/
import Derived.Test.YtppmnmheodimoaaZM43
section
/- MemoDoubles: the walk. -/
namespace Go.Proofs.Ytppmnmheodimoaa
open Go Go.RowKit Go.Proofs.Rg Go.Proofs.Mp Go.Proofs.Hp Go.Proofs.Qs Go.Proofs.Ev
set_option linter.unusedVariables false
set_option linter.unusedSimpArgs false
set_option maxHeartbeats 8000000 in
set_option maxRecDepth 100000 in
theorem MemoDoubles_calls {w : World} {r : Rule} {ha na : Option Addr} {hc nc : Nat} (hru : RuleAt w (.slice ha r.hood.length hc) (.slice na r.nodes.length nc) r) {s id : Int} {k : Nat} {a : Option Addr} {c : Nat} {ns : List K4} (hv : Reads w (.slice a ns.length c) ns.length 4 (flat ns)) :
    Calls Try.prog 5 #[.agg #[.int .i64 r.S, .slice ha r.hood.length hc, .slice na r.nodes.length nc], .agg #[.int .i64 s, .slice a ns.length c, .int .i64 id], .int .u8 k] w fun e w' => e = .returned (.bool true) ∧ Fr [] w w' := by
  have Hru := Lib.hid hru
  have HV := Lib.hid hv
  clear hru hv
  cases hfew : few12 r with
  | false =>
    go_enter Try.func5, Try.ntmps5
    go_wp2_with fail
    refine (LFew12_calls (Hru.out.fr (by (repeat (first | exact Fr.refl _ _ | assumption | apply Fr.drewN | apply Fr.drew | apply Fr.alloc | refine Fr.setCell ?_ (Or.inr (by simp; try omega)) _))))).mono ?_
    rintro e w1 ⟨rfl, hf⟩
    have ht_ := (hf.block (w.heap.size) (by first | (simp; done) | (simp; omega)) (by simp)).trans (show _ = some (.cells #[.int .i64 r.S, .slice ha r.hood.length hc, .slice na r.nodes.length nc] 31 (0, 0)) by (repeat (first | rw [if_pos (by omega)] | rw [if_neg (by omega)] | rw [hp_drew] | rw [hp_drewN] | rw [hp_alloc_size] | rw [hp_setCell_size] | rw [hp_alloc] | rw [hp_setCell] | rw [Option.map_some] | rw [upd_cells] | rw [List.set_cons_zero] | rw [List.set_cons_succ] | rfl)))
    have t0 := heap_eq_cell ht_ 0
    have t1 := heap_eq_cell ht_ 1
    have t2 := heap_eq_cell ht_ 2
    have tl := lt_of_block ht_
    have Ht := Lib.hid ht_
    clear ht_
    have hx_ := (hf.block ((w.heap.size + 1)) (by first | (simp; done) | (simp; omega)) (by simp)).trans (show _ = some (.cells #[.int .i64 s, .slice a ns.length c, .int .i64 id] 41 (0, 0)) by (repeat (first | rw [if_pos (by omega)] | rw [if_neg (by omega)] | rw [hp_drew] | rw [hp_drewN] | rw [hp_alloc_size] | rw [hp_setCell_size] | rw [hp_alloc] | rw [hp_setCell] | rw [Option.map_some] | rw [upd_cells] | rw [List.set_cons_zero] | rw [List.set_cons_succ] | rfl)))
    have x0 := heap_eq_cell hx_ 0
    have x1 := heap_eq_cell hx_ 1
    have x2 := heap_eq_cell hx_ 2
    have xl := lt_of_block hx_
    have Hx := Lib.hid hx_
    clear hx_
    have Hf := Lib.hid (Fr.trans0 (by (repeat (first | exact Fr.refl _ _ | assumption | apply Fr.drewN | apply Fr.drew | apply Fr.alloc | refine Fr.setCell ?_ (Or.inr (by simp; try omega)) _)) : Fr [] w _) hf)
    clear hf
    rw [hfew]
    go_wp2_with fail
    refine LAwake_calls.mono ?_
    rintro e w9 ⟨rfl, hf⟩
    have Hf := Lib.hid (Hf.out.trans0 (Fr.trans0 (by (repeat (first | exact Fr.refl _ _ | assumption | apply Fr.drewN | apply Fr.drew | apply Fr.alloc | refine Fr.setCell ?_ (Or.inr (by simp; try omega)) _))) hf))
    clear hf
    go_wp2
    go_ret
    exact ⟨rfl, by have := Hf.out; (repeat (first | exact Fr.refl _ _ | assumption | apply Fr.drewN | apply Fr.drew | apply Fr.alloc | refine Fr.setCell ?_ (Or.inr (by simp; try omega)) _))⟩
  | true =>
    have HLE := Lib.hid (few_len hfew)
    go_enter Try.func5, Try.ntmps5
    go_wp2_with fail
    refine (LFew12_calls (Hru.out.fr (by (repeat (first | exact Fr.refl _ _ | assumption | apply Fr.drewN | apply Fr.drew | apply Fr.alloc | refine Fr.setCell ?_ (Or.inr (by simp; try omega)) _))))).mono ?_
    rintro e w1 ⟨rfl, hf⟩
    have ht_ := (hf.block (w.heap.size) (by first | (simp; done) | (simp; omega)) (by simp)).trans (show _ = some (.cells #[.int .i64 r.S, .slice ha r.hood.length hc, .slice na r.nodes.length nc] 31 (0, 0)) by (repeat (first | rw [if_pos (by omega)] | rw [if_neg (by omega)] | rw [hp_drew] | rw [hp_drewN] | rw [hp_alloc_size] | rw [hp_setCell_size] | rw [hp_alloc] | rw [hp_setCell] | rw [Option.map_some] | rw [upd_cells] | rw [List.set_cons_zero] | rw [List.set_cons_succ] | rfl)))
    have t0 := heap_eq_cell ht_ 0
    have t1 := heap_eq_cell ht_ 1
    have t2 := heap_eq_cell ht_ 2
    have tl := lt_of_block ht_
    have Ht := Lib.hid ht_
    clear ht_
    have hx_ := (hf.block ((w.heap.size + 1)) (by first | (simp; done) | (simp; omega)) (by simp)).trans (show _ = some (.cells #[.int .i64 s, .slice a ns.length c, .int .i64 id] 41 (0, 0)) by (repeat (first | rw [if_pos (by omega)] | rw [if_neg (by omega)] | rw [hp_drew] | rw [hp_drewN] | rw [hp_alloc_size] | rw [hp_setCell_size] | rw [hp_alloc] | rw [hp_setCell] | rw [Option.map_some] | rw [upd_cells] | rw [List.set_cons_zero] | rw [List.set_cons_succ] | rfl)))
    have x0 := heap_eq_cell hx_ 0
    have x1 := heap_eq_cell hx_ 1
    have x2 := heap_eq_cell hx_ 2
    have xl := lt_of_block hx_
    have Hx := Lib.hid hx_
    clear hx_
    have Hf := Lib.hid (Fr.trans0 (by (repeat (first | exact Fr.refl _ _ | assumption | apply Fr.drewN | apply Fr.drew | apply Fr.alloc | refine Fr.setCell ?_ (Or.inr (by simp; try omega)) _)) : Fr [] w _) hf)
    clear hf
    rw [hfew]
    clear hfew
    go_wp2_with fail
    refine (LFew27_calls (s := s) (id := id) (HV.out.fr (Hf.out.trans0 (by (repeat (first | exact Fr.refl _ _ | assumption | apply Fr.drewN | apply Fr.drew | apply Fr.alloc | refine Fr.setCell ?_ (Or.inr (by simp; try omega)) _)))))).mono ?_
    rintro e w2 ⟨few, rfl, hfew, hf⟩
    have hfk := hf
    (try clear t0)
    (try clear t1)
    (try clear t2)
    (try clear tl)
    have ht_ := (hfk.block _ (lt_of_block Ht.out) (by simp)).trans Ht.out
    clear Ht
    have t0 := heap_eq_cell ht_ 0
    have t1 := heap_eq_cell ht_ 1
    have t2 := heap_eq_cell ht_ 2
    have tl := lt_of_block ht_
    have Ht := Lib.hid ht_
    clear ht_
    (try clear x0)
    (try clear x1)
    (try clear x2)
    (try clear xl)
    have hx_ := (hfk.block _ (lt_of_block Hx.out) (by simp)).trans Hx.out
    clear Hx
    have x0 := heap_eq_cell hx_ 0
    have x1 := heap_eq_cell hx_ 1
    have x2 := heap_eq_cell hx_ 2
    have xl := lt_of_block hx_
    have Hx := Lib.hid hx_
    clear hx_
    clear hfk
    have Hf := Lib.hid (Hf.out.trans0 (Fr.trans0 (by (repeat (first | exact Fr.refl _ _ | assumption | apply Fr.drewN | apply Fr.drew | apply Fr.alloc | refine Fr.setCell ?_ (Or.inr (by simp; try omega)) _))) hf))
    clear hf
    cases few with
    | false =>
      go_wp2_with fail
      refine LAwake_calls.mono ?_
      rintro e w9 ⟨rfl, hf⟩
      have Hf := Lib.hid (Hf.out.trans0 (Fr.trans0 (by (repeat (first | exact Fr.refl _ _ | assumption | apply Fr.drewN | apply Fr.drew | apply Fr.alloc | refine Fr.setCell ?_ (Or.inr (by simp; try omega)) _))) hf))
      clear hf
      go_wp2
      go_ret
      exact ⟨rfl, by have := Hf.out; (repeat (first | exact Fr.refl _ _ | assumption | apply Fr.drewN | apply Fr.drew | apply Fr.alloc | refine Fr.setCell ?_ (Or.inr (by simp; try omega)) _))⟩
    | true =>
    by_cases hk8 : 8 < k
    ·
      go_wp2_with fail
      refine LAwake_calls.mono ?_
      rintro e w9 ⟨rfl, hf⟩
      have Hf := Lib.hid (Hf.out.trans0 (Fr.trans0 (by (repeat (first | exact Fr.refl _ _ | assumption | apply Fr.drewN | apply Fr.drew | apply Fr.alloc | refine Fr.setCell ?_ (Or.inr (by simp; try omega)) _))) hf))
      clear hf
      go_wp2
      go_ret
      exact ⟨rfl, by have := Hf.out; (repeat (first | exact Fr.refl _ _ | assumption | apply Fr.drewN | apply Fr.drew | apply Fr.alloc | refine Fr.setCell ?_ (Or.inr (by simp; try omega)) _))⟩
    · have HF := Lib.hid (hfew.1 rfl)
      clear hfew
      have H := Lib.hid (show Has w w2 [argR w.heap.size r ha na hc nc s a ns.length c id] from has_two Hf.out Ht.out Hx.out (Nat.le_refl _) (by omega))
      clear Ht Hx
      go_wp2_with fail
      refine (Load_calls (s := s) (ns := ns) (by have := HF.out.1; omega) (HV.out.fr (Hf.out.trans0 (by (repeat (first | exact Fr.refl _ _ | assumption | apply Fr.drewN | apply Fr.drew | apply Fr.alloc | refine Fr.setCell ?_ (Or.inr (by simp; try omega)) _)))))).mono ?_
      rintro e w3 ⟨hpos, hneg⟩
      by_cases hg : GoodQ s ns
      · obtain ⟨b1, F1, rfl, hS, hf, hF⟩ := hpos hg
        have H := Lib.hid ((H.out.step (by (repeat (first | exact Fr.refl _ _ | assumption | apply Fr.drewN | apply Fr.drew | apply Fr.alloc | refine Fr.setCell ?_ (Or.inr (by simp; try omega)) _)))).new (P := storeR b1 s ns) hf hS hF)
        have HG := Lib.hid hg
        clear hf hpos hneg hS hF Hf hg
        (try clear t0)
        (try clear t1)
        (try clear t2)
        (try clear tl)
        (try clear x0)
        (try clear x1)
        (try clear x2)
        (try clear xl)
        obtain ⟨_, ⟨hT_, hX_⟩, _⟩ := has_mem (P := argR w.heap.size r ha na hc nc s a ns.length c id) H.out (by simp [memoL, rmemoL])
        have t0 := heap_eq_cell hT_ 0
        have t1 := heap_eq_cell hT_ 1
        have t2 := heap_eq_cell hT_ 2
        have tl := lt_of_block hT_
        have x0 := heap_eq_cell hX_ 0
        have x1 := heap_eq_cell hX_ 1
        have x2 := heap_eq_cell hX_ 2
        have xl := lt_of_block hX_
        clear hT_ hX_
        cases hR : rightR r with
        | false =>
          go_wp2_with fail
          refine (MNew_bad (Hru.out.fr (H.out.fr.trans0 (by (repeat (first | exact Fr.refl _ _ | assumption | apply Fr.drewN | apply Fr.drew | apply Fr.alloc | refine Fr.setCell ?_ (Or.inr (by simp; try omega)) _))))) HLE.out.1 HLE.out.2 hR _).mono ?_
          rintro e w4 ⟨rfl, hf⟩
          have H := Lib.hid (H.out.step (Fr.trans0 (by (repeat (first | exact Fr.refl _ _ | assumption | apply Fr.drewN | apply Fr.drew | apply Fr.alloc | refine Fr.setCell ?_ (Or.inr (by simp; try omega)) _))) hf))
          clear hf
          go_wp2_with fail
          refine LAwake_calls.mono ?_
          rintro e w9 ⟨rfl, hf⟩
          have Hf := Lib.hid (H.out.fr.trans0 (Fr.trans0 (by (repeat (first | exact Fr.refl _ _ | assumption | apply Fr.drewN | apply Fr.drew | apply Fr.alloc | refine Fr.setCell ?_ (Or.inr (by simp; try omega)) _))) hf))
          clear hf
          go_wp2
          go_ret
          exact ⟨rfl, by have := Hf.out; (repeat (first | exact Fr.refl _ _ | assumption | apply Fr.drewN | apply Fr.drew | apply Fr.alloc | refine Fr.setCell ?_ (Or.inr (by simp; try omega)) _))⟩
        | true =>
          go_wp2_with fail
          refine (MNew_calls (Hru.out.fr (H.out.fr.trans0 (by (repeat (first | exact Fr.refl _ _ | assumption | apply Fr.drewN | apply Fr.drew | apply Fr.alloc | refine Fr.setCell ?_ (Or.inr (by simp; try omega)) _))))) HLE.out.1 HLE.out.2 hR (H.out.step (by (repeat (first | exact Fr.refl _ _ | assumption | apply Fr.drewN | apply Fr.drew | apply Fr.alloc | refine Fr.setCell ?_ (Or.inr (by simp; try omega)) _))))).mono ?_
          rintro e w5 (⟨hne, rfl, h5⟩ | ⟨heq, mb, rb, rfl, h5⟩)
          · have H := Lib.hid h5
            clear h5
            go_wp2_with fail
            refine LAwake_calls.mono ?_
            rintro e w9 ⟨rfl, hf⟩
            have Hf := Lib.hid (H.out.fr.trans0 (Fr.trans0 (by (repeat (first | exact Fr.refl _ _ | assumption | apply Fr.drewN | apply Fr.drew | apply Fr.alloc | refine Fr.setCell ?_ (Or.inr (by simp; try omega)) _))) hf))
            clear hf
            go_wp2
            go_ret
            exact ⟨rfl, by have := Hf.out; (repeat (first | exact Fr.refl _ _ | assumption | apply Fr.drewN | apply Fr.drew | apply Fr.alloc | refine Fr.setCell ?_ (Or.inr (by simp; try omega)) _))⟩
          · subst heq
            have H := Lib.hid h5
            clear h5
            (try clear t0)
            (try clear t1)
            (try clear t2)
            (try clear tl)
            (try clear x0)
            (try clear x1)
            (try clear x2)
            (try clear xl)
            obtain ⟨_, ⟨hT_, hX_⟩, _⟩ := has_mem (P := argR w.heap.size r ha na hc nc r.S a ns.length c id) H.out (by simp [memoL, rmemoL])
            have t0 := heap_eq_cell hT_ 0
            have t1 := heap_eq_cell hT_ 1
            have t2 := heap_eq_cell hT_ 2
            have tl := lt_of_block hT_
            have x0 := heap_eq_cell hX_ 0
            have x1 := heap_eq_cell hX_ 1
            have x2 := heap_eq_cell hX_ 2
            have xl := lt_of_block hX_
            clear hT_ hX_
            obtain ⟨L, hroom, hL⟩ := double_list k HG.out HF.out.1 (HF.out.2 HG.out)
            have HLL := Lib.hid (And.intro hroom hL)
            clear hroom hL
            go_wp2_with fail
            refine (MStep_calls (L := L) hR (RuleSrc.base Hru.out) (H.out.step (by (repeat (first | exact Fr.refl _ _ | assumption | apply Fr.drewN | apply Fr.drew | apply Fr.alloc | refine Fr.setCell ?_ (Or.inr (by simp; try omega)) _)))) HLL.out.1 (fun id k v h => by simp [get?] at h) id ((k : Int) + 1) (fun n k' t h1 h2 h3 h4 => by
              obtain rfl : k' = k + 1 := by omega
              have h := HLL.out.2 n t h1 h3
              exact ⟨by omega, (h.2.2 h4).1⟩)).mono ?_
            rintro e w6 hend
            have hend1 := hend.kept HLL.out.1 (fun id k v h => by simp [get?] at h)
            by_cases hok : ∃ (n : Nat) (t : Tr), Is r.S ns n id t ∧ k + 1 + lostOf (radius r.hood) ≤ n
            · obtain ⟨n, t, hi, hkl⟩ := hok
              have hlst := lost_le (radius_le r.hood).1 (radius_le r.hood).2
              have hb := HLL.out.2 n t hi (by omega)
              obtain ⟨res, ns6, mm6, rfl, h6, hp6, hr6, hkp6, hres, _⟩ := hend.ok HG.out hi (show ((k : Int) + 1) = ((k + 1 : Nat) : Int) by omega) (by omega) (by omega) hb.1
              have H := Lib.hid h6
              have HI := Lib.hid hi
              have HB := Lib.hid hb
              have HP := Lib.hid hp6
              have HR := Lib.hid (And.intro hr6 hkp6)
              have HRES := Lib.hid hres
              clear h6 hi hb hp6 hr6 hkp6 hres hend1 hend
              (try clear t0)
              (try clear t1)
              (try clear t2)
              (try clear tl)
              (try clear x0)
              (try clear x1)
              (try clear x2)
              (try clear xl)
              obtain ⟨_, ⟨hT_, hX_⟩, _⟩ := has_mem (P := argR w.heap.size r ha na hc nc r.S a ns.length c id) H.out (by simp [memoL, rmemoL])
              have t0 := heap_eq_cell hT_ 0
              have t1 := heap_eq_cell hT_ 1
              have t2 := heap_eq_cell hT_ 2
              have tl := lt_of_block hT_
              have x0 := heap_eq_cell hX_ 0
              have x1 := heap_eq_cell hX_ 1
              have x2 := heap_eq_cell hX_ 2
              have xl := lt_of_block hX_
              clear hT_ hX_
              go_wp2_with fail
              refine (MStep_calls (L := L) hR (RuleSrc.base Hru.out) (H.out.step (by (repeat (first | exact Fr.refl _ _ | assumption | apply Fr.drewN | apply Fr.drew | apply Fr.alloc | refine Fr.setCell ?_ (Or.inr (by simp; try omega)) _)))) HR.out.1 HR.out.2 id (k : Int) (fun n2 k2 t2 h1 h2 h3 h4 => by
                obtain ⟨e1, e2⟩ := Is.same (has_good H.out) (HI.out.grow HP.out) h1
                subst e1
                subst e2
                obtain rfl : k2 = k := by omega
                exact ⟨by have := HB.out.1; omega, HB.out.2.1 h4⟩)).mono ?_
              rintro e w7 hend
              obtain ⟨res2, ns7, mm7, rfl, h7, hp7, hr7, hkp7, hres2, _⟩ := hend.ok (has_good H.out) (HI.out.grow HP.out) rfl (by omega) (by omega) HB.out.1
              have H := Lib.hid h7
              have HP := Lib.hid (HP.out.trans hp7)
              have HR := Lib.hid (And.intro hr7 hkp7)
              have HRES := Lib.hid (HRES.out.grow hp7)
              have HRES2 := Lib.hid hres2
              clear h7 hp7 hr7 hkp7 hres2 hend
              (try clear t0)
              (try clear t1)
              (try clear t2)
              (try clear tl)
              (try clear x0)
              (try clear x1)
              (try clear x2)
              (try clear xl)
              obtain ⟨_, ⟨hT_, hX_⟩, _⟩ := has_mem (P := argR w.heap.size r ha na hc nc r.S a ns.length c id) H.out (by simp [memoL, rmemoL])
              have t0 := heap_eq_cell hT_ 0
              have t1 := heap_eq_cell hT_ 1
              have t2 := heap_eq_cell hT_ 2
              have tl := lt_of_block hT_
              have x0 := heap_eq_cell hX_ 0
              have x1 := heap_eq_cell hX_ 1
              have x2 := heap_eq_cell hX_ 2
              have xl := lt_of_block hX_
              clear hT_ hX_
              go_wp2_with fail
              refine (MStep_calls (L := L) hR (RuleSrc.base Hru.out) (H.out.step (by (repeat (first | exact Fr.refl _ _ | assumption | apply Fr.drewN | apply Fr.drew | apply Fr.alloc | refine Fr.setCell ?_ (Or.inr (by simp; try omega)) _)))) HR.out.1 HR.out.2 res2 (k : Int) (fun n2 k2 t2 h1 h2 h3 h4 => by
                obtain ⟨e1, e2⟩ := Is.same (has_good H.out) HRES2.out h1
                subst e1
                subst e2
                obtain rfl : k2 = k := by omega
                exact ⟨by have := HB.out.1; omega, (HB.out.2.2 (by omega)).2⟩)).mono ?_
              rintro e w8 hend
              obtain ⟨res3, ns8, mm8, rfl, h8, hp8, hr8, _, hres3, _⟩ := hend.ok (has_good H.out) HRES2.out rfl (by omega) (by omega) (by have := HB.out.1; omega)
              have H := Lib.hid h8
              have HRES := Lib.hid (HRES.out.grow hp8)
              have HRES3 := Lib.hid (show Is r.S ns8 (n - 2) res3 (stp (gen r) (n - 1) k (stp (gen r) n k t)) by
                have h := hres3
                rwa [show n - 1 - 1 = n - 2 by omega] at h)
              have HRM := Lib.hid hr8.len
              obtain ⟨q, hq⟩ : ∃ q, 2 ^ (n - 3) = q := ⟨_, rfl⟩
              have HDC := Lib.hid (double_cells hR (t := t) hkl hq)
              have hq1 : 1 ≤ q := by rw [← hq]; exact Nat.one_le_two_pow
              have hq2 : q ≤ 8 := by rw [← hq]; exact Nat.pow_le_pow_right (by omega) (by have := HB.out.1; omega : n - 3 ≤ 3)
              have hn6 := HB.out.1
              have h4q : 2 ^ (n - 1) = 4 * q := by
                obtain ⟨n3, hn3⟩ : ∃ n3, n = n3 + 3 := ⟨n - 3, by omega⟩
                rw [← hq, hn3, show n3 + 3 - 1 = n3 + 1 + 1 by omega, show n3 + 3 - 3 = n3 by omega, Nat.pow_succ, Nat.pow_succ]; omega
              obtain ⟨m1, hm1⟩ : ∃ m, 2 ^ (n - 2) = m := ⟨_, rfl⟩
              obtain ⟨m2, hm2⟩ : ∃ m, 2 ^ (n - 1) = m := ⟨_, rfl⟩
              have H4Q := Lib.hid (hm2.symm.trans h4q)
              have HW1 := Lib.hid (show ∀ w1 Qs, Has w w1 (storeR b1 r.S ns8 :: Qs) → _ from fun w1 Qs h => (hm1 ▸ LRows_calls h HRES3.out (by omega) HRM.out : Calls Try.prog 23 #[.pointer (some ⟨b1, 0, none⟩), .int .i64 res3] w1 fun e w' => ∃ a c, e = .returned (.slice a m1 c) ∧ Gath w' w1.heap.size (ge w1.heap.size) (.slice a m1 c) (cellsL (n - 2) (stp (gen r) (n - 1) k (stp (gen r) n k t))) ∧ Fr [] w1 w'))
              have HW2 := Lib.hid (show ∀ w1 Qs, Has w w1 (storeR b1 r.S ns8 :: Qs) → _ from fun w1 Qs h => (hm2 ▸ LRows_calls h HRES.out (by omega) HRM.out : Calls Try.prog 23 #[.pointer (some ⟨b1, 0, none⟩), .int .i64 res] w1 fun e w' => ∃ a c, e = .returned (.slice a m2 c) ∧ Gath w' w1.heap.size (ge w1.heap.size) (.slice a m2 c) (cellsL (n - 1) (stp (gen r) n (k + 1) t)) ∧ Fr [] w1 w'))
              clear h8 hp8 hr8 hres3 hend hq h4q hm1 hm2
              (try clear t0)
              (try clear t1)
              (try clear t2)
              (try clear tl)
              (try clear x0)
              (try clear x1)
              (try clear x2)
              (try clear xl)
              obtain ⟨_, ⟨hT_, hX_⟩, _⟩ := has_mem (P := argR w.heap.size r ha na hc nc r.S a ns.length c id) H.out (by simp [memoL, rmemoL])
              have t0 := heap_eq_cell hT_ 0
              have t1 := heap_eq_cell hT_ 1
              have t2 := heap_eq_cell hT_ 2
              have tl := lt_of_block hT_
              have x0 := heap_eq_cell hX_ 0
              have x1 := heap_eq_cell hX_ 1
              have x2 := heap_eq_cell hX_ 2
              have xl := lt_of_block hX_
              clear hT_ hX_
              go_wp2_with fail
              refine (HW1.out _ _ (H.out.step (by (repeat (first | exact Fr.refl _ _ | assumption | apply Fr.drewN | apply Fr.drew | apply Fr.alloc | refine Fr.setCell ?_ (Or.inr (by simp; try omega)) _))))).mono ?_
              rintro e w9 ⟨ra, rc, rfl, hg9, hf⟩
              have H := Lib.hid (H.out.step (Fr.trans0 (by (repeat (first | exact Fr.refl _ _ | assumption | apply Fr.drewN | apply Fr.drew | apply Fr.alloc | refine Fr.setCell ?_ (Or.inr (by simp; try omega)) _))) hf))
              have HR1 := Lib.hid hg9.rows
              clear hg9 hf
              (try clear t0)
              (try clear t1)
              (try clear t2)
              (try clear tl)
              (try clear x0)
              (try clear x1)
              (try clear x2)
              (try clear xl)
              obtain ⟨_, ⟨hT_, hX_⟩, _⟩ := has_mem (P := argR w.heap.size r ha na hc nc r.S a ns.length c id) H.out (by simp [memoL, rmemoL])
              have t0 := heap_eq_cell hT_ 0
              have t1 := heap_eq_cell hT_ 1
              have t2 := heap_eq_cell hT_ 2
              have tl := lt_of_block hT_
              have x0 := heap_eq_cell hX_ 0
              have x1 := heap_eq_cell hX_ 1
              have x2 := heap_eq_cell hX_ 2
              have xl := lt_of_block hX_
              clear hT_ hX_
              go_wp2_with fail
              refine (HW2.out _ _ (H.out.step (by (repeat (first | exact Fr.refl _ _ | assumption | apply Fr.drewN | apply Fr.drew | apply Fr.alloc | refine Fr.setCell ?_ (Or.inr (by simp; try omega)) _))))).mono ?_
              rintro e w10 ⟨qa, qc, rfl, hg9, hf⟩
              have hfk : Fr [] w9 w10 := Fr.trans0 (by (repeat (first | exact Fr.refl _ _ | assumption | apply Fr.drewN | apply Fr.drew | apply Fr.alloc | refine Fr.setCell ?_ (Or.inr (by simp; try omega)) _))) hf
              have H := Lib.hid (H.out.step hfk)
              have HR1 := Lib.hid (HR1.out.fr hfk)
              have hfit := hg9.fit
              rw [HDC.out.1, ← H4Q.out] at hfit
              have HR2 := Lib.hid hfit
              clear hg9 hf hfk hfit
              (try clear t0)
              (try clear t1)
              (try clear t2)
              (try clear tl)
              (try clear x0)
              (try clear x1)
              (try clear x2)
              (try clear xl)
              obtain ⟨_, ⟨hT_, hX_⟩, _⟩ := has_mem (P := argR w.heap.size r ha na hc nc r.S a ns.length c id) H.out (by simp [memoL, rmemoL])
              have t0 := heap_eq_cell hT_ 0
              have t1 := heap_eq_cell hT_ 1
              have t2 := heap_eq_cell hT_ 2
              have tl := lt_of_block hT_
              have x0 := heap_eq_cell hX_ 0
              have x1 := heap_eq_cell hX_ 1
              have x2 := heap_eq_cell hX_ 2
              have xl := lt_of_block hX_
              clear hT_ hX_
              go_wp2_with fail
              refine (LCentre_calls (q := q) (HR2.out.fr (by (repeat (first | exact Fr.refl _ _ | assumption | apply Fr.drewN | apply Fr.drew | apply Fr.alloc | refine Fr.setCell ?_ (Or.inr (by simp; try omega)) _)))) H4Q.out hq1 (by omega)).mono ?_
              rintro e w11 ⟨cv, rfl, hcv, hf⟩
              have hfk : Fr [] w10 w11 := Fr.trans0 (by (repeat (first | exact Fr.refl _ _ | assumption | apply Fr.drewN | apply Fr.drew | apply Fr.alloc | refine Fr.setCell ?_ (Or.inr (by simp; try omega)) _))) hf
              have H := Lib.hid (H.out.step hfk)
              have HR1 := Lib.hid (HR1.out.fr hfk)
              rw [← HDC.out.2] at hcv
              have HCV := Lib.hid hcv
              clear hcv hf hfk HR2
              (try clear t0)
              (try clear t1)
              (try clear t2)
              (try clear tl)
              (try clear x0)
              (try clear x1)
              (try clear x2)
              (try clear xl)
              obtain ⟨_, ⟨hT_, hX_⟩, _⟩ := has_mem (P := argR w.heap.size r ha na hc nc r.S a ns.length c id) H.out (by simp [memoL, rmemoL])
              have t0 := heap_eq_cell hT_ 0
              have t1 := heap_eq_cell hT_ 1
              have t2 := heap_eq_cell hT_ 2
              have tl := lt_of_block hT_
              have x0 := heap_eq_cell hX_ 0
              have x1 := heap_eq_cell hX_ 1
              have x2 := heap_eq_cell hX_ 2
              have xl := lt_of_block hX_
              clear hT_ hX_
              go_wp2_with fail
              refine (LSame_calls (HR1.out.fr (by (repeat (first | exact Fr.refl _ _ | assumption | apply Fr.drewN | apply Fr.drew | apply Fr.alloc | refine Fr.setCell ?_ (Or.inr (by simp; try omega)) _)))) (HCV.out.fr (by (repeat (first | exact Fr.refl _ _ | assumption | apply Fr.drewN | apply Fr.drew | apply Fr.alloc | refine Fr.setCell ?_ (Or.inr (by simp; try omega)) _)))) (cells_small (by omega) _).1 (cells_small (by omega) _).1 (cells_small (by omega) _).2 (cells_small (by omega) _).2).mono ?_
              rintro e w12 ⟨rfl, hf⟩
              rw [decide_eq_true rfl]
              have H := Lib.hid (H.out.step (Fr.trans0 (by (repeat (first | exact Fr.refl _ _ | assumption | apply Fr.drewN | apply Fr.drew | apply Fr.alloc | refine Fr.setCell ?_ (Or.inr (by simp; try omega)) _))) hf))
              clear hf HR1 HCV
              go_wp2_with fail
              refine LAwake_calls.mono ?_
              rintro e w9 ⟨rfl, hf⟩
              have Hf := Lib.hid (H.out.fr.trans0 (Fr.trans0 (by (repeat (first | exact Fr.refl _ _ | assumption | apply Fr.drewN | apply Fr.drew | apply Fr.alloc | refine Fr.setCell ?_ (Or.inr (by simp; try omega)) _))) hf))
              clear hf
              go_wp2
              go_ret
              exact ⟨rfl, by have := Hf.out; (repeat (first | exact Fr.refl _ _ | assumption | apply Fr.drewN | apply Fr.drew | apply Fr.alloc | refine Fr.setCell ?_ (Or.inr (by simp; try omega)) _))⟩
            · have hbad : ∃ ec : Int, (ec != 0) = true ∧ e = .returned (.tuple #[.int .i64 0, .int .i64 ec]) ∧ Has w w6 (memoL r (.slice ha r.hood.length hc) (.slice na r.nodes.length nc) mb b1 rb ns [] [argR w.heap.size r ha na hc nc r.S a ns.length c id]) := by
                rcases hend with ⟨_, h, h2⟩ | ⟨_, _, _, _, h, h2⟩ | ⟨n, t, k', hi, hk, h1, h2, _⟩
                · exact ⟨13, by decide, h, h2⟩
                · exact ⟨18, by decide, h, h2⟩
                · exact absurd ⟨n, t, hi, by omega⟩ hok
              obtain ⟨ec, hec, rfl, h6⟩ := hbad
              have H := Lib.hid h6
              clear h6 hend hend1 hok
              (try clear t0)
              (try clear t1)
              (try clear t2)
              (try clear tl)
              (try clear x0)
              (try clear x1)
              (try clear x2)
              (try clear xl)
              obtain ⟨_, ⟨hT_, hX_⟩, _⟩ := has_mem (P := argR w.heap.size r ha na hc nc r.S a ns.length c id) H.out (by simp [memoL, rmemoL])
              have t0 := heap_eq_cell hT_ 0
              have t1 := heap_eq_cell hT_ 1
              have t2 := heap_eq_cell hT_ 2
              have tl := lt_of_block hT_
              have x0 := heap_eq_cell hX_ 0
              have x1 := heap_eq_cell hX_ 1
              have x2 := heap_eq_cell hX_ 2
              have xl := lt_of_block hX_
              clear hT_ hX_
              go_wp2_with fail
              refine (MStep_calls (L := L) hR (RuleSrc.base Hru.out) (H.out.step (by (repeat (first | exact Fr.refl _ _ | assumption | apply Fr.drewN | apply Fr.drew | apply Fr.alloc | refine Fr.setCell ?_ (Or.inr (by simp; try omega)) _)))) HLL.out.1 (fun id k v h => by simp [get?] at h) id (k : Int) (fun n2 k2 t2 h1 h2 h3 h4 => by
                obtain rfl : k2 = k := by omega
                have h := HLL.out.2 n2 t2 h1 h3
                exact ⟨by omega, h.2.1 h4⟩)).mono ?_
              rintro e w7 hend
              obtain ⟨x, y, ns7, mm7, rfl, h7, _⟩ := hend.kept HLL.out.1 (fun id k v h => by simp [get?] at h)
              have H := Lib.hid h7
              clear h7 hend
              go_wp2_with fail
              refine LAwake_calls.mono ?_
              rintro e w9 ⟨rfl, hf⟩
              have Hf := Lib.hid (H.out.fr.trans0 (Fr.trans0 (by (repeat (first | exact Fr.refl _ _ | assumption | apply Fr.drewN | apply Fr.drew | apply Fr.alloc | refine Fr.setCell ?_ (Or.inr (by simp; try omega)) _))) hf))
              clear hf
              go_wp2
              go_ret
              exact ⟨rfl, by have := Hf.out; (repeat (first | exact Fr.refl _ _ | assumption | apply Fr.drewN | apply Fr.drew | apply Fr.alloc | refine Fr.setCell ?_ (Or.inr (by simp; try omega)) _))⟩
      · obtain ⟨rfl, hf⟩ := hneg hg
        have Hf := Lib.hid (Hf.out.trans0 (Fr.trans0 (by (repeat (first | exact Fr.refl _ _ | assumption | apply Fr.drewN | apply Fr.drew | apply Fr.alloc | refine Fr.setCell ?_ (Or.inr (by simp; try omega)) _))) hf))
        clear hf
        go_wp2_with fail
        refine LAwake_calls.mono ?_
        rintro e w9 ⟨rfl, hf⟩
        have Hf := Lib.hid (Hf.out.trans0 (Fr.trans0 (by (repeat (first | exact Fr.refl _ _ | assumption | apply Fr.drewN | apply Fr.drew | apply Fr.alloc | refine Fr.setCell ?_ (Or.inr (by simp; try omega)) _))) hf))
        clear hf
        go_wp2
        go_ret
        exact ⟨rfl, by have := Hf.out; (repeat (first | exact Fr.refl _ _ | assumption | apply Fr.drewN | apply Fr.drew | apply Fr.alloc | refine Fr.setCell ?_ (Or.inr (by simp; try omega)) _))⟩
end Go.Proofs.Ytppmnmheodimoaa
end
