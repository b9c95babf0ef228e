/- Own texts of this claim, part 42: no condition. -/
import Derived.Test.YtppmnmheodimoaaZM40
section
/- MemoAgain: the walk. -/
namespace Go.Proofs.Ytppmnmheodimoaa
open Go Go.RowKit Go.Proofs.Rg Go.Proofs.Mp Go.Proofs.Hp Go.Proofs.Qs Go.Proofs.Ev
set_option linter.unusedVariables false
set_option linter.unusedSimpArgs false
def arg3 (b : Nat) (r : Rule) (ha na : Option Addr) (hc nc : Nat) (s : Int) (a : Option Addr) (n c : Nat) (id k l : Int) : Res :=
  blks [(b, .cells #[.int .i64 r.S, .slice ha r.hood.length hc, .slice na r.nodes.length nc] 31 (0, 0)), (b + 1, .cells #[.int .i64 s, .slice a n c, .int .i64 id] 41 (0, 0)), (b + 2, .cells #[.int .i64 k, .int .i64 l] 74 (0, 0))]
set_option maxHeartbeats 8000000 in
set_option maxRecDepth 100000 in
theorem MemoAgain_calls {w : World} {r : Rule} {ha na : Option Addr} {hc nc : Nat} (hru : RuleAt w (.slice ha r.hood.length hc) (.slice na r.nodes.length nc) r) {s id k l : Int} {a : Option Addr} {c : Nat} {ns : List K4} (hv : Reads w (.slice a ns.length c) ns.length 4 (flat ns)) :
    Calls Try.prog 7 #[.agg #[.int .i64 r.S, .slice ha r.hood.length hc, .slice na r.nodes.length nc], .agg #[.int .i64 s, .slice a ns.length c, .int .i64 id], .agg #[.int .i64 k, .int .i64 l]] w fun e w' => e = .returned (.bool true) ∧ Fr [] w w' := by
  have Hru := Lib.hid hru
  have HV := Lib.hid hv
  clear hru hv
  cases hfew : few12 r with
  | false =>
    go_enter Try.func7, Try.ntmps7
    go_wp2_with fail
    refine (LFew12_calls (Hru.out.fr (by (repeat (first | exact Fr.refl _ _ | assumption | apply Fr.drewN | apply Fr.drew | apply Fr.alloc | refine Fr.setCell ?_ (Or.inr (by simp; try omega)) _))))).mono ?_
    rintro e w1 ⟨rfl, hf⟩
    have ht_ := (hf.block (w.heap.size) (by first | (simp; done) | (simp; omega)) (by simp)).trans (show _ = some (.cells #[.int .i64 r.S, .slice ha r.hood.length hc, .slice na r.nodes.length nc] 31 (0, 0)) by (repeat (first | rw [if_pos (by omega)] | rw [if_neg (by omega)] | rw [hp_drew] | rw [hp_drewN] | rw [hp_alloc_size] | rw [hp_setCell_size] | rw [hp_alloc] | rw [hp_setCell] | rw [Option.map_some] | rw [upd_cells] | rw [List.set_cons_zero] | rw [List.set_cons_succ] | rfl)))
    have t0 := heap_eq_cell ht_ 0
    have t1 := heap_eq_cell ht_ 1
    have t2 := heap_eq_cell ht_ 2
    have tl := lt_of_block ht_
    have Ht := Lib.hid ht_
    clear ht_
    have hx_ := (hf.block ((w.heap.size + 1)) (by first | (simp; done) | (simp; omega)) (by simp)).trans (show _ = some (.cells #[.int .i64 s, .slice a ns.length c, .int .i64 id] 41 (0, 0)) by (repeat (first | rw [if_pos (by omega)] | rw [if_neg (by omega)] | rw [hp_drew] | rw [hp_drewN] | rw [hp_alloc_size] | rw [hp_setCell_size] | rw [hp_alloc] | rw [hp_setCell] | rw [Option.map_some] | rw [upd_cells] | rw [List.set_cons_zero] | rw [List.set_cons_succ] | rfl)))
    have x0 := heap_eq_cell hx_ 0
    have x1 := heap_eq_cell hx_ 1
    have x2 := heap_eq_cell hx_ 2
    have xl := lt_of_block hx_
    have Hx := Lib.hid hx_
    clear hx_
    have hk_ := (hf.block ((w.heap.size + 2)) (by first | (simp; done) | (simp; omega)) (by simp)).trans (show _ = some (.cells #[.int .i64 k, .int .i64 l] 74 (0, 0)) by (repeat (first | rw [if_pos (by omega)] | rw [if_neg (by omega)] | rw [hp_drew] | rw [hp_drewN] | rw [hp_alloc_size] | rw [hp_setCell_size] | rw [hp_alloc] | rw [hp_setCell] | rw [Option.map_some] | rw [upd_cells] | rw [List.set_cons_zero] | rw [List.set_cons_succ] | rfl)))
    have k0 := heap_eq_cell hk_ 0
    have k1 := heap_eq_cell hk_ 1
    have kl := lt_of_block hk_
    have Hk := Lib.hid hk_
    clear hk_
    have Hf := Lib.hid (Fr.trans0 (by (repeat (first | exact Fr.refl _ _ | assumption | apply Fr.drewN | apply Fr.drew | apply Fr.alloc | refine Fr.setCell ?_ (Or.inr (by simp; try omega)) _)) : Fr [] w _) hf)
    clear hf
    rw [hfew]
    go_wp2_with fail
    refine LAwake_calls.mono ?_
    rintro e w9 ⟨rfl, hf⟩
    have Hf := Lib.hid (Hf.out.trans0 (Fr.trans0 (by (repeat (first | exact Fr.refl _ _ | assumption | apply Fr.drewN | apply Fr.drew | apply Fr.alloc | refine Fr.setCell ?_ (Or.inr (by simp; try omega)) _))) hf))
    clear hf
    go_wp2
    go_ret
    exact ⟨rfl, by have := Hf.out; (repeat (first | exact Fr.refl _ _ | assumption | apply Fr.drewN | apply Fr.drew | apply Fr.alloc | refine Fr.setCell ?_ (Or.inr (by simp; try omega)) _))⟩
  | true =>
    have HLE := Lib.hid (few_len hfew)
    go_enter Try.func7, Try.ntmps7
    go_wp2_with fail
    refine (LFew12_calls (Hru.out.fr (by (repeat (first | exact Fr.refl _ _ | assumption | apply Fr.drewN | apply Fr.drew | apply Fr.alloc | refine Fr.setCell ?_ (Or.inr (by simp; try omega)) _))))).mono ?_
    rintro e w1 ⟨rfl, hf⟩
    have ht_ := (hf.block (w.heap.size) (by first | (simp; done) | (simp; omega)) (by simp)).trans (show _ = some (.cells #[.int .i64 r.S, .slice ha r.hood.length hc, .slice na r.nodes.length nc] 31 (0, 0)) by (repeat (first | rw [if_pos (by omega)] | rw [if_neg (by omega)] | rw [hp_drew] | rw [hp_drewN] | rw [hp_alloc_size] | rw [hp_setCell_size] | rw [hp_alloc] | rw [hp_setCell] | rw [Option.map_some] | rw [upd_cells] | rw [List.set_cons_zero] | rw [List.set_cons_succ] | rfl)))
    have t0 := heap_eq_cell ht_ 0
    have t1 := heap_eq_cell ht_ 1
    have t2 := heap_eq_cell ht_ 2
    have tl := lt_of_block ht_
    have Ht := Lib.hid ht_
    clear ht_
    have hx_ := (hf.block ((w.heap.size + 1)) (by first | (simp; done) | (simp; omega)) (by simp)).trans (show _ = some (.cells #[.int .i64 s, .slice a ns.length c, .int .i64 id] 41 (0, 0)) by (repeat (first | rw [if_pos (by omega)] | rw [if_neg (by omega)] | rw [hp_drew] | rw [hp_drewN] | rw [hp_alloc_size] | rw [hp_setCell_size] | rw [hp_alloc] | rw [hp_setCell] | rw [Option.map_some] | rw [upd_cells] | rw [List.set_cons_zero] | rw [List.set_cons_succ] | rfl)))
    have x0 := heap_eq_cell hx_ 0
    have x1 := heap_eq_cell hx_ 1
    have x2 := heap_eq_cell hx_ 2
    have xl := lt_of_block hx_
    have Hx := Lib.hid hx_
    clear hx_
    have hk_ := (hf.block ((w.heap.size + 2)) (by first | (simp; done) | (simp; omega)) (by simp)).trans (show _ = some (.cells #[.int .i64 k, .int .i64 l] 74 (0, 0)) by (repeat (first | rw [if_pos (by omega)] | rw [if_neg (by omega)] | rw [hp_drew] | rw [hp_drewN] | rw [hp_alloc_size] | rw [hp_setCell_size] | rw [hp_alloc] | rw [hp_setCell] | rw [Option.map_some] | rw [upd_cells] | rw [List.set_cons_zero] | rw [List.set_cons_succ] | rfl)))
    have k0 := heap_eq_cell hk_ 0
    have k1 := heap_eq_cell hk_ 1
    have kl := lt_of_block hk_
    have Hk := Lib.hid hk_
    clear hk_
    have Hf := Lib.hid (Fr.trans0 (by (repeat (first | exact Fr.refl _ _ | assumption | apply Fr.drewN | apply Fr.drew | apply Fr.alloc | refine Fr.setCell ?_ (Or.inr (by simp; try omega)) _)) : Fr [] w _) hf)
    clear hf
    rw [hfew]
    clear hfew
    go_wp2_with fail
    refine (LFew27_calls (s := s) (id := id) (HV.out.fr (Hf.out.trans0 (by (repeat (first | exact Fr.refl _ _ | assumption | apply Fr.drewN | apply Fr.drew | apply Fr.alloc | refine Fr.setCell ?_ (Or.inr (by simp; try omega)) _)))))).mono ?_
    rintro e w2 ⟨few, rfl, hfew, hf⟩
    have hfk := hf
    (try clear t0)
    (try clear t1)
    (try clear t2)
    (try clear tl)
    have ht_ := (hfk.block _ (lt_of_block Ht.out) (by simp)).trans Ht.out
    clear Ht
    have t0 := heap_eq_cell ht_ 0
    have t1 := heap_eq_cell ht_ 1
    have t2 := heap_eq_cell ht_ 2
    have tl := lt_of_block ht_
    have Ht := Lib.hid ht_
    clear ht_
    (try clear x0)
    (try clear x1)
    (try clear x2)
    (try clear xl)
    have hx_ := (hfk.block _ (lt_of_block Hx.out) (by simp)).trans Hx.out
    clear Hx
    have x0 := heap_eq_cell hx_ 0
    have x1 := heap_eq_cell hx_ 1
    have x2 := heap_eq_cell hx_ 2
    have xl := lt_of_block hx_
    have Hx := Lib.hid hx_
    clear hx_
    (try clear k0)
    (try clear k1)
    (try clear kl)
    have hk_ := (hfk.block _ (lt_of_block Hk.out) (by simp)).trans Hk.out
    clear Hk
    have k0 := heap_eq_cell hk_ 0
    have k1 := heap_eq_cell hk_ 1
    have kl := lt_of_block hk_
    have Hk := Lib.hid hk_
    clear hk_
    clear hfk
    have Hf := Lib.hid (Hf.out.trans0 (Fr.trans0 (by (repeat (first | exact Fr.refl _ _ | assumption | apply Fr.drewN | apply Fr.drew | apply Fr.alloc | refine Fr.setCell ?_ (Or.inr (by simp; try omega)) _))) hf))
    clear hf
    cases few with
    | false =>
      go_wp2_with fail
      refine LAwake_calls.mono ?_
      rintro e w9 ⟨rfl, hf⟩
      have Hf := Lib.hid (Hf.out.trans0 (Fr.trans0 (by (repeat (first | exact Fr.refl _ _ | assumption | apply Fr.drewN | apply Fr.drew | apply Fr.alloc | refine Fr.setCell ?_ (Or.inr (by simp; try omega)) _))) hf))
      clear hf
      go_wp2
      go_ret
      exact ⟨rfl, by have := Hf.out; (repeat (first | exact Fr.refl _ _ | assumption | apply Fr.drewN | apply Fr.drew | apply Fr.alloc | refine Fr.setCell ?_ (Or.inr (by simp; try omega)) _))⟩
    | true =>
      have HF := Lib.hid (hfew.1 rfl)
      clear hfew
      have H := Lib.hid (show Has w w2 [arg3 w.heap.size r ha na hc nc s a ns.length c id k l] from has_blks Hf.out (by
        intro p hp
        simp only [List.mem_cons, List.not_mem_nil, or_false] at hp
        rcases hp with rfl | rfl | rfl
        · exact ⟨Ht.out, Nat.le_refl _⟩
        · exact ⟨Hx.out, by simp⟩
        · exact ⟨Hk.out, by simp⟩))
      clear Ht Hx Hk
      go_wp2_with fail
      refine (Load_calls (s := s) (ns := ns) (by have := HF.out.1; omega) (HV.out.fr (Hf.out.trans0 (by (repeat (first | exact Fr.refl _ _ | assumption | apply Fr.drewN | apply Fr.drew | apply Fr.alloc | refine Fr.setCell ?_ (Or.inr (by simp; try omega)) _)))))).mono ?_
      rintro e w3 ⟨hpos, hneg⟩
      by_cases hg : GoodQ s ns
      · obtain ⟨b1, F1, rfl, hS, hf, hF⟩ := hpos hg
        have H := Lib.hid ((H.out.step (by (repeat (first | exact Fr.refl _ _ | assumption | apply Fr.drewN | apply Fr.drew | apply Fr.alloc | refine Fr.setCell ?_ (Or.inr (by simp; try omega)) _)))).new (P := storeR b1 s ns) hf hS hF)
        have HG := Lib.hid hg
        clear hf hpos hneg hS hF Hf hg
        (try clear t0)
        (try clear t1)
        (try clear t2)
        (try clear tl)
        (try clear x0)
        (try clear x1)
        (try clear x2)
        (try clear xl)
        (try clear k0)
        (try clear k1)
        (try clear kl)
        obtain ⟨_, hB_, _⟩ := has_mem (P := arg3 w.heap.size r ha na hc nc s a ns.length c id k l) H.out (by simp [memoL])
        have hT_ := hB_ (_, _) (List.mem_cons_self)
        have hX_ := hB_ (_, _) (List.mem_cons_of_mem _ List.mem_cons_self)
        have hK_ := hB_ (_, _) (List.mem_cons_of_mem _ (List.mem_cons_of_mem _ List.mem_cons_self))
        have t0 := heap_eq_cell hT_ 0
        have t1 := heap_eq_cell hT_ 1
        have t2 := heap_eq_cell hT_ 2
        have tl := lt_of_block hT_
        have x0 := heap_eq_cell hX_ 0
        have x1 := heap_eq_cell hX_ 1
        have x2 := heap_eq_cell hX_ 2
        have xl := lt_of_block hX_
        have k0 := heap_eq_cell hK_ 0
        have k1 := heap_eq_cell hK_ 1
        have kl := lt_of_block hK_
        clear hB_ hT_ hX_ hK_
        cases hR : rightR r with
        | false =>
          go_wp2_with fail
          refine (MNew_bad (Hru.out.fr (H.out.fr.trans0 (by (repeat (first | exact Fr.refl _ _ | assumption | apply Fr.drewN | apply Fr.drew | apply Fr.alloc | refine Fr.setCell ?_ (Or.inr (by simp; try omega)) _))))) HLE.out.1 HLE.out.2 hR _).mono ?_
          rintro e w4 ⟨rfl, hf⟩
          have H := Lib.hid (H.out.step (Fr.trans0 (by (repeat (first | exact Fr.refl _ _ | assumption | apply Fr.drewN | apply Fr.drew | apply Fr.alloc | refine Fr.setCell ?_ (Or.inr (by simp; try omega)) _))) hf))
          clear hf
          go_wp2_with fail
          refine LAwake_calls.mono ?_
          rintro e w9 ⟨rfl, hf⟩
          have Hf := Lib.hid (H.out.fr.trans0 (Fr.trans0 (by (repeat (first | exact Fr.refl _ _ | assumption | apply Fr.drewN | apply Fr.drew | apply Fr.alloc | refine Fr.setCell ?_ (Or.inr (by simp; try omega)) _))) hf))
          clear hf
          go_wp2
          go_ret
          exact ⟨rfl, by have := Hf.out; (repeat (first | exact Fr.refl _ _ | assumption | apply Fr.drewN | apply Fr.drew | apply Fr.alloc | refine Fr.setCell ?_ (Or.inr (by simp; try omega)) _))⟩
        | true =>
          go_wp2_with fail
          refine (MNew_calls (Hru.out.fr (H.out.fr.trans0 (by (repeat (first | exact Fr.refl _ _ | assumption | apply Fr.drewN | apply Fr.drew | apply Fr.alloc | refine Fr.setCell ?_ (Or.inr (by simp; try omega)) _))))) HLE.out.1 HLE.out.2 hR (H.out.step (by (repeat (first | exact Fr.refl _ _ | assumption | apply Fr.drewN | apply Fr.drew | apply Fr.alloc | refine Fr.setCell ?_ (Or.inr (by simp; try omega)) _))))).mono ?_
          rintro e w5 (⟨hne, rfl, h5⟩ | ⟨heq, mb, rb, rfl, h5⟩)
          · have H := Lib.hid h5
            clear h5
            go_wp2_with fail
            refine LAwake_calls.mono ?_
            rintro e w9 ⟨rfl, hf⟩
            have Hf := Lib.hid (H.out.fr.trans0 (Fr.trans0 (by (repeat (first | exact Fr.refl _ _ | assumption | apply Fr.drewN | apply Fr.drew | apply Fr.alloc | refine Fr.setCell ?_ (Or.inr (by simp; try omega)) _))) hf))
            clear hf
            go_wp2
            go_ret
            exact ⟨rfl, by have := Hf.out; (repeat (first | exact Fr.refl _ _ | assumption | apply Fr.drewN | apply Fr.drew | apply Fr.alloc | refine Fr.setCell ?_ (Or.inr (by simp; try omega)) _))⟩
          · subst heq
            have H := Lib.hid h5
            clear h5
            (try clear t0)
            (try clear t1)
            (try clear t2)
            (try clear tl)
            (try clear x0)
            (try clear x1)
            (try clear x2)
            (try clear xl)
            (try clear k0)
            (try clear k1)
            (try clear kl)
            obtain ⟨_, hB_, _⟩ := has_mem (P := arg3 w.heap.size r ha na hc nc r.S a ns.length c id k l) H.out (by simp [memoL])
            have hT_ := hB_ (_, _) (List.mem_cons_self)
            have hX_ := hB_ (_, _) (List.mem_cons_of_mem _ List.mem_cons_self)
            have hK_ := hB_ (_, _) (List.mem_cons_of_mem _ (List.mem_cons_of_mem _ List.mem_cons_self))
            have t0 := heap_eq_cell hT_ 0
            have t1 := heap_eq_cell hT_ 1
            have t2 := heap_eq_cell hT_ 2
            have tl := lt_of_block hT_
            have x0 := heap_eq_cell hX_ 0
            have x1 := heap_eq_cell hX_ 1
            have x2 := heap_eq_cell hX_ 2
            have xl := lt_of_block hX_
            have k0 := heap_eq_cell hK_ 0
            have k1 := heap_eq_cell hK_ 1
            have kl := lt_of_block hK_
            clear hB_ hT_ hX_ hK_
            obtain ⟨L, hroom, hL⟩ := again_list (k := k) (l := l) HG.out HF.out.1 (HF.out.2 HG.out)
            have HLL := Lib.hid (And.intro hroom hL)
            clear hroom hL
            go_wp2_with fail
            refine (MStep_calls (L := L) hR (RuleSrc.base Hru.out) (H.out.step (by (repeat (first | exact Fr.refl _ _ | assumption | apply Fr.drewN | apply Fr.drew | apply Fr.alloc | refine Fr.setCell ?_ (Or.inr (by simp; try omega)) _)))) HLL.out.1 (fun id k v h => by simp [get?] at h) id k (fun n k' t h1 h2 h3 h4 => HLL.out.2 n k' t h1 (.inl h2) h3 h4)).mono ?_
            rintro e w6 hend
            rcases hend with ⟨hk, rfl, h6⟩ | ⟨n, t, hi, hb, rfl, h6⟩ | ⟨n, t, k', hi, hkk, hl1, hl2, res, ns6, mm6, rfl, h6, hp6, hr6, hkp6, hres, _, hget, _⟩
            · have H := Lib.hid h6
              clear h6
              go_wp2_with fail
              refine LAwake_calls.mono ?_
              rintro e w9 ⟨rfl, hf⟩
              have Hf := Lib.hid (H.out.fr.trans0 (Fr.trans0 (by (repeat (first | exact Fr.refl _ _ | assumption | apply Fr.drewN | apply Fr.drew | apply Fr.alloc | refine Fr.setCell ?_ (Or.inr (by simp; try omega)) _))) hf))
              clear hf
              go_wp2
              go_ret
              exact ⟨rfl, by have := Hf.out; (repeat (first | exact Fr.refl _ _ | assumption | apply Fr.drewN | apply Fr.drew | apply Fr.alloc | refine Fr.setCell ?_ (Or.inr (by simp; try omega)) _))⟩
            · have H := Lib.hid h6
              clear h6 hi hb
              go_wp2_with fail
              refine LAwake_calls.mono ?_
              rintro e w9 ⟨rfl, hf⟩
              have Hf := Lib.hid (H.out.fr.trans0 (Fr.trans0 (by (repeat (first | exact Fr.refl _ _ | assumption | apply Fr.drewN | apply Fr.drew | apply Fr.alloc | refine Fr.setCell ?_ (Or.inr (by simp; try omega)) _))) hf))
              clear hf
              go_wp2
              go_ret
              exact ⟨rfl, by have := Hf.out; (repeat (first | exact Fr.refl _ _ | assumption | apply Fr.drewN | apply Fr.drew | apply Fr.alloc | refine Fr.setCell ?_ (Or.inr (by simp; try omega)) _))⟩
            have H := Lib.hid h6
            have HI := Lib.hid (And.intro hi (And.intro hkk (And.intro hl1 hl2)))
            have HN6 := Lib.hid (show n ≤ 6 by have := hi.lvl HG.out; have := HF.out.2 HG.out; omega)
            have HP := Lib.hid hp6
            have HR := Lib.hid (And.intro hr6 hkp6)
            have HRES := Lib.hid hres
            have HGET := Lib.hid hget
            clear h6 hi hkk hl1 hl2 hp6 hr6 hkp6 hres hget
            (try clear t0)
            (try clear t1)
            (try clear t2)
            (try clear tl)
            (try clear x0)
            (try clear x1)
            (try clear x2)
            (try clear xl)
            (try clear k0)
            (try clear k1)
            (try clear kl)
            obtain ⟨_, hB_, _⟩ := has_mem (P := arg3 w.heap.size r ha na hc nc r.S a ns.length c id k l) H.out (by simp [memoL])
            have hT_ := hB_ (_, _) (List.mem_cons_self)
            have hX_ := hB_ (_, _) (List.mem_cons_of_mem _ List.mem_cons_self)
            have hK_ := hB_ (_, _) (List.mem_cons_of_mem _ (List.mem_cons_of_mem _ List.mem_cons_self))
            have t0 := heap_eq_cell hT_ 0
            have t1 := heap_eq_cell hT_ 1
            have t2 := heap_eq_cell hT_ 2
            have tl := lt_of_block hT_
            have x0 := heap_eq_cell hX_ 0
            have x1 := heap_eq_cell hX_ 1
            have x2 := heap_eq_cell hX_ 2
            have xl := lt_of_block hX_
            have k0 := heap_eq_cell hK_ 0
            have k1 := heap_eq_cell hK_ 1
            have kl := lt_of_block hK_
            clear hB_ hT_ hX_ hK_
            go_wp2_with fail
            refine (MStep_calls (L := L) hR (RuleSrc.base Hru.out) (H.out.step (by (repeat (first | exact Fr.refl _ _ | assumption | apply Fr.drewN | apply Fr.drew | apply Fr.alloc | refine Fr.setCell ?_ (Or.inr (by simp; try omega)) _)))) HR.out.1 HR.out.2 id l (fun n2 k2 t2 h1 h2 h3 h4 => by
              obtain ⟨e1, e2⟩ := Is.same (has_good H.out) (HI.out.1.grow HP.out) h1
              subst e1
              subst e2
              exact HLL.out.2 _ k2 _ HI.out.1 (.inr h2) h3 h4)).mono ?_
            rintro e w7 hend
            obtain ⟨x, y, ns7, mm7, rfl, h7, hp7, hr7, hkp7, hks7⟩ := hend.kept HR.out.1 HR.out.2
            have H := Lib.hid h7
            have HP := Lib.hid (HP.out.trans hp7)
            have HR := Lib.hid (And.intro hr7 hkp7)
            have HRES := Lib.hid (HRES.out.grow hp7)
            have HGET := Lib.hid (hks7 _ _ HGET.out)
            clear hend h7 hp7 hr7 hkp7 hks7
            go_wp2_with fail
            refine (Data_has (H.out.step (by (repeat (first | exact Fr.refl _ _ | assumption | apply Fr.drewN | apply Fr.drew | apply Fr.alloc | refine Fr.setCell ?_ (Or.inr (by simp; try omega)) _))))).mono ?_
            rintro e w8 ⟨da, dc, rfl, _, h8, hf⟩
            have hfld := run_field_N w8 r.S da ns7.length dc
            have H := Lib.hid (show Has w w8 (memoL r (.slice ha r.hood.length hc) (.slice na r.nodes.length nc) mb b1 rb ns7 mm7 [arg3 w.heap.size r ha na hc nc r.S a ns.length c id k l]) from h8)
            clear h8 hf
            (try clear t0)
            (try clear t1)
            (try clear t2)
            (try clear tl)
            (try clear x0)
            (try clear x1)
            (try clear x2)
            (try clear xl)
            (try clear k0)
            (try clear k1)
            (try clear kl)
            obtain ⟨_, hB_, _⟩ := has_mem (P := arg3 w.heap.size r ha na hc nc r.S a ns.length c id k l) H.out (by simp [memoL])
            have hT_ := hB_ (_, _) (List.mem_cons_self)
            have hX_ := hB_ (_, _) (List.mem_cons_of_mem _ List.mem_cons_self)
            have hK_ := hB_ (_, _) (List.mem_cons_of_mem _ (List.mem_cons_of_mem _ List.mem_cons_self))
            have t0 := heap_eq_cell hT_ 0
            have t1 := heap_eq_cell hT_ 1
            have t2 := heap_eq_cell hT_ 2
            have tl := lt_of_block hT_
            have x0 := heap_eq_cell hX_ 0
            have x1 := heap_eq_cell hX_ 1
            have x2 := heap_eq_cell hX_ 2
            have xl := lt_of_block hX_
            have k0 := heap_eq_cell hK_ 0
            have k1 := heap_eq_cell hK_ 1
            have kl := lt_of_block hK_
            clear hB_ hT_ hX_ hK_
            go_wp2_with fail
            refine (MStep_calls (L := L) hR (RuleSrc.base Hru.out) (H.out.step (by (repeat (first | exact Fr.refl _ _ | assumption | apply Fr.drewN | apply Fr.drew | apply Fr.alloc | refine Fr.setCell ?_ (Or.inr (by simp; try omega)) _)))) HR.out.1 HR.out.2 id k (fun n2 k2 t2 h1 h2 h3 h4 => by
              obtain ⟨e1, e2⟩ := Is.same (has_good H.out) (HI.out.1.grow HP.out) h1
              subst e1
              subst e2
              exact HLL.out.2 _ k2 _ HI.out.1 (.inl h2) h3 h4)).mono ?_
            rintro e w9 hend
            obtain ⟨res9, ns9, mm9, rfl, h9, _, _, _, _, _, hget9, hagain⟩ := hend.ok (has_good H.out) (HI.out.1.grow HP.out) HI.out.2.1 HI.out.2.2.1 HI.out.2.2.2 HN6.out
            have hagain := hagain res (HI.out.2.1 ▸ HGET.out)
            obtain ⟨e1, e2⟩ := hagain
            subst e1
            subst e2
            have H := Lib.hid h9
            have HLEN := Lib.hid (get_len hget9)
            clear hfld h9 hget9 hend
            go_wp2_with fail
            refine (Data_has (H.out.step (by (repeat (first | exact Fr.refl _ _ | assumption | apply Fr.drewN | apply Fr.drew | apply Fr.alloc | refine Fr.setCell ?_ (Or.inr (by simp; try omega)) _))))).mono ?_
            rintro e w10 ⟨da2, dc2, rfl, _, h10, hf⟩
            have hfld := run_field_N w10 r.S da2 ns9.length dc2
            have H := Lib.hid (show Has w w10 (memoL r (.slice ha r.hood.length hc) (.slice na r.nodes.length nc) mb b1 rb ns9 mm9 [arg3 w.heap.size r ha na hc nc r.S a ns.length c id k l]) from h10)
            clear h10 hf
            (try clear t0)
            (try clear t1)
            (try clear t2)
            (try clear tl)
            (try clear x0)
            (try clear x1)
            (try clear x2)
            (try clear xl)
            (try clear k0)
            (try clear k1)
            (try clear kl)
            obtain ⟨_, hB_, _⟩ := has_mem (P := arg3 w.heap.size r ha na hc nc r.S a ns.length c id k l) H.out (by simp [memoL])
            have hT_ := hB_ (_, _) (List.mem_cons_self)
            have hX_ := hB_ (_, _) (List.mem_cons_of_mem _ List.mem_cons_self)
            have hK_ := hB_ (_, _) (List.mem_cons_of_mem _ (List.mem_cons_of_mem _ List.mem_cons_self))
            have t0 := heap_eq_cell hT_ 0
            have t1 := heap_eq_cell hT_ 1
            have t2 := heap_eq_cell hT_ 2
            have tl := lt_of_block hT_
            have x0 := heap_eq_cell hX_ 0
            have x1 := heap_eq_cell hX_ 1
            have x2 := heap_eq_cell hX_ 2
            have xl := lt_of_block hX_
            have k0 := heap_eq_cell hK_ 0
            have k1 := heap_eq_cell hK_ 1
            have kl := lt_of_block hK_
            clear hB_ hT_ hX_ hK_
            go_wp2_with fail
            refine (MKnown_calls (H.out.step (by (repeat (first | exact Fr.refl _ _ | assumption | apply Fr.drewN | apply Fr.drew | apply Fr.alloc | refine Fr.setCell ?_ (Or.inr (by simp; try omega)) _))))).mono ?_
            rintro e w11 ⟨rfl, rfl⟩
            have hlen := HLEN.out
            clear hfld
            go_wp2_with fail
            refine (MForget_calls (H.out.step (by (repeat (first | exact Fr.refl _ _ | assumption | apply Fr.drewN | apply Fr.drew | apply Fr.alloc | refine Fr.setCell ?_ (Or.inr (by simp; try omega)) _))))).mono ?_
            rintro e w12 ⟨rfl, h12⟩
            have H := Lib.hid h12
            clear h12 hlen
            (try clear t0)
            (try clear t1)
            (try clear t2)
            (try clear tl)
            (try clear x0)
            (try clear x1)
            (try clear x2)
            (try clear xl)
            (try clear k0)
            (try clear k1)
            (try clear kl)
            obtain ⟨_, hB_, _⟩ := has_mem (P := arg3 w.heap.size r ha na hc nc r.S a ns.length c id k l) H.out (by simp [memoL])
            have hT_ := hB_ (_, _) (List.mem_cons_self)
            have hX_ := hB_ (_, _) (List.mem_cons_of_mem _ List.mem_cons_self)
            have hK_ := hB_ (_, _) (List.mem_cons_of_mem _ (List.mem_cons_of_mem _ List.mem_cons_self))
            have t0 := heap_eq_cell hT_ 0
            have t1 := heap_eq_cell hT_ 1
            have t2 := heap_eq_cell hT_ 2
            have tl := lt_of_block hT_
            have x0 := heap_eq_cell hX_ 0
            have x1 := heap_eq_cell hX_ 1
            have x2 := heap_eq_cell hX_ 2
            have xl := lt_of_block hX_
            have k0 := heap_eq_cell hK_ 0
            have k1 := heap_eq_cell hK_ 1
            have kl := lt_of_block hK_
            clear hB_ hT_ hX_ hK_
            go_wp2_with fail
            refine (MKnown_calls (H.out.step (by (repeat (first | exact Fr.refl _ _ | assumption | apply Fr.drewN | apply Fr.drew | apply Fr.alloc | refine Fr.setCell ?_ (Or.inr (by simp; try omega)) _))))).mono ?_
            rintro e w13 ⟨rfl, rfl⟩
            go_wp2_with fail
            refine (MStep_calls (L := L) hR (RuleSrc.base Hru.out) (H.out.step (by (repeat (first | exact Fr.refl _ _ | assumption | apply Fr.drewN | apply Fr.drew | apply Fr.alloc | refine Fr.setCell ?_ (Or.inr (by simp; try omega)) _)))) HR.out.1 (fun id k v h => by simp [get?] at h) id k (fun n2 k2 t2 h1 h2 h3 h4 => by
              obtain ⟨e1, e2⟩ := Is.same (has_good H.out) (HI.out.1.grow HP.out) h1
              subst e1
              subst e2
              exact HLL.out.2 _ k2 _ HI.out.1 (.inl h2) h3 h4)).mono ?_
            rintro e w14 hend
            obtain ⟨res4, ns4, mm4, rfl, h14, hp14, _, _, hres4, _⟩ := hend.ok (has_good H.out) (HI.out.1.grow HP.out) HI.out.2.1 HI.out.2.2.1 HI.out.2.2.2 HN6.out
            obtain rfl : res9 = res4 := (HRES.out.grow hp14).inj (has_good h14) hres4
            have H := Lib.hid h14
            have HP := Lib.hid (HP.out.trans hp14)
            clear hend h14 hp14 hres4
            (try clear t0)
            (try clear t1)
            (try clear t2)
            (try clear tl)
            (try clear x0)
            (try clear x1)
            (try clear x2)
            (try clear xl)
            (try clear k0)
            (try clear k1)
            (try clear kl)
            obtain ⟨_, hB_, _⟩ := has_mem (P := arg3 w.heap.size r ha na hc nc r.S a ns.length c id k l) H.out (by simp [memoL])
            have hT_ := hB_ (_, _) (List.mem_cons_self)
            have hX_ := hB_ (_, _) (List.mem_cons_of_mem _ List.mem_cons_self)
            have hK_ := hB_ (_, _) (List.mem_cons_of_mem _ (List.mem_cons_of_mem _ List.mem_cons_self))
            have t0 := heap_eq_cell hT_ 0
            have t1 := heap_eq_cell hT_ 1
            have t2 := heap_eq_cell hT_ 2
            have tl := lt_of_block hT_
            have x0 := heap_eq_cell hX_ 0
            have x1 := heap_eq_cell hX_ 1
            have x2 := heap_eq_cell hX_ 2
            have xl := lt_of_block hX_
            have k0 := heap_eq_cell hK_ 0
            have k1 := heap_eq_cell hK_ 1
            have kl := lt_of_block hK_
            clear hB_ hT_ hX_ hK_
            go_wp2_with fail
            refine (Data_has (H.out.step (by (repeat (first | exact Fr.refl _ _ | assumption | apply Fr.drewN | apply Fr.drew | apply Fr.alloc | refine Fr.setCell ?_ (Or.inr (by simp; try omega)) _))))).mono ?_
            rintro e w15 ⟨da4, dc4, rfl, hown, h15, hf⟩
            have H := Lib.hid (show Has w w15 (memoL r (.slice ha r.hood.length hc) (.slice na r.nodes.length nc) mb b1 rb ns4 mm4 [arg3 w.heap.size r ha na hc nc r.S a ns.length c id k l]) from h15)
            have HO := Lib.hid (Reads.of_owns hown)
            clear h15 hf hown
            (try clear t0)
            (try clear t1)
            (try clear t2)
            (try clear tl)
            (try clear x0)
            (try clear x1)
            (try clear x2)
            (try clear xl)
            (try clear k0)
            (try clear k1)
            (try clear kl)
            obtain ⟨_, hB_, _⟩ := has_mem (P := arg3 w.heap.size r ha na hc nc r.S a ns.length c id k l) H.out (by simp [memoL])
            have hT_ := hB_ (_, _) (List.mem_cons_self)
            have hX_ := hB_ (_, _) (List.mem_cons_of_mem _ List.mem_cons_self)
            have hK_ := hB_ (_, _) (List.mem_cons_of_mem _ (List.mem_cons_of_mem _ List.mem_cons_self))
            have t0 := heap_eq_cell hT_ 0
            have t1 := heap_eq_cell hT_ 1
            have t2 := heap_eq_cell hT_ 2
            have tl := lt_of_block hT_
            have x0 := heap_eq_cell hX_ 0
            have x1 := heap_eq_cell hX_ 1
            have x2 := heap_eq_cell hX_ 2
            have xl := lt_of_block hX_
            have k0 := heap_eq_cell hK_ 0
            have k1 := heap_eq_cell hK_ 1
            have kl := lt_of_block hK_
            clear hB_ hT_ hX_ hK_
            have hpl : ns.length ≤ ns4.length := HP.out.length_le
            have hdl : decide (ns4.length < ns.length) = false := by simp; omega
            have hns : ns.length ≤ 600 := HF.out.1
            have HVW := Lib.hid (HV.out.fr H.out.fr)
            have HH := Lib.hid H.out.fr
            go_wp2
            obtain ⟨w16, hw16⟩ : ∃ W, w15.alloc (Obj.cells #[Value.int .i64 r.S, .slice da4 ns4.length dc4] 39 (0, 0)) = W := ⟨_, rfl⟩
            have hd : w16.heap[w15.heap.size]? = some (.cells #[Value.int .i64 r.S, .slice da4 ns4.length dc4] 39 (0, 0)) := by rw [← hw16]; (repeat (first | rw [if_pos (by omega)] | rw [if_neg (by omega)] | rw [hp_drew] | rw [hp_drewN] | rw [hp_alloc_size] | rw [hp_setCell_size] | rw [hp_alloc] | rw [hp_setCell] | rw [Option.map_some] | rw [upd_cells] | rw [List.set_cons_zero] | rw [List.set_cons_succ] | rfl))
            have Hf := Lib.hid (show Fr [] w15 w16 by rw [← hw16]; (repeat (first | exact Fr.refl _ _ | assumption | apply Fr.drewN | apply Fr.drew | apply Fr.alloc | refine Fr.setCell ?_ (Or.inr (by simp; try omega)) _)))
            rw [hw16]
            obtain ⟨db, hdb⟩ : ∃ b, w15.heap.size = b := ⟨_, rfl⟩
            rw [hdb] at hd ⊢
            have Hd := Lib.hid hd
            have H16 := Lib.hid (H.out.step Hf.out)
            clear hw16 hdb hd
            go_loopw [126] (fun z wr => ∃ j : Nat, z = .int .i64 j ∧ j ≤ ns.length ∧ Hid (Fr [] w16 wr)) (fun z _ => ns.length - (intOf z).toNat)
            case atStart => exact ⟨0, rfl, by omega, Lib.hid (Fr.refl _ _)⟩
            case round =>
              obtain ⟨j, rfl, hj, Hj⟩ := hrel
              have hd := (Hj.out.block db (lt_of_block Hd.out) (by simp)).trans Hd.out
              have d0 := heap_eq_cell hd 0
              have d1 := heap_eq_cell hd 1
              have dl := lt_of_block hd
              have HJ := Lib.hid (H16.out.step Hj.out)
              (try clear t0)
              (try clear t1)
              (try clear t2)
              (try clear tl)
              (try clear x0)
              (try clear x1)
              (try clear x2)
              (try clear xl)
              (try clear k0)
              (try clear k1)
              (try clear kl)
              obtain ⟨_, hB_, _⟩ := has_mem (P := arg3 w.heap.size r ha na hc nc r.S a ns.length c id k l) HJ.out (by simp [memoL])
              have hT_ := hB_ (_, _) (List.mem_cons_self)
              have hX_ := hB_ (_, _) (List.mem_cons_of_mem _ List.mem_cons_self)
              have hK_ := hB_ (_, _) (List.mem_cons_of_mem _ (List.mem_cons_of_mem _ List.mem_cons_self))
              have t0 := heap_eq_cell hT_ 0
              have t1 := heap_eq_cell hT_ 1
              have t2 := heap_eq_cell hT_ 2
              have tl := lt_of_block hT_
              have x0 := heap_eq_cell hX_ 0
              have x1 := heap_eq_cell hX_ 1
              have x2 := heap_eq_cell hX_ 2
              have xl := lt_of_block hX_
              have k0 := heap_eq_cell hK_ 0
              have k1 := heap_eq_cell hK_ 1
              have kl := lt_of_block hK_
              clear hB_ hT_ hX_ hK_
              clear hd
              by_cases hlt : j < ns.length
              · obtain ⟨kq, hkq⟩ : ∃ q, ns[j]? = some q := ⟨_, List.getElem?_eq_getElem hlt⟩
                have hkq4 : ns4[j]? = some kq := by
                  obtain ⟨ys, rfl⟩ := HP.out
                  rw [List.getElem?_append_left hlt]; exact hkq
                obtain ⟨gq, oq, rfl, lq, q0, q1, q2, q3⟩ := quad_cells (HVW.out.fr (Hf.out.trans0 Hj.out)) hkq
                obtain ⟨gp, op, rfl, lp, p0, p1, p2, p3⟩ := quad_cells (HO.out.fr (Hf.out.trans0 Hj.out)) hkq4
                have HLT := Lib.hid hlt
                clear hkq hkq4
                go_wp2
                (refine wp_region_text (by kernel_rfl) (by kernel_rfl) ?_)
                go_wp2
                refine Strict.intro rfl ?_
                go_wp2
                go_roundw
                case rel => exact ⟨j + 1, by go_num, HLT.out, Lib.hid (Hj.out.trans0 (by (repeat (first | exact Fr.refl _ _ | assumption | apply Fr.drewN | apply Fr.drew | apply Fr.alloc | refine Fr.setCell ?_ (Or.inr (by simp; try omega)) _))))⟩
                case measure => have := HLT.out; simp [intOf]; omega
              · obtain rfl : j = ns.length := by omega
                go_wp2_with fail
                refine LAwake_calls.mono ?_
                rintro e w17 ⟨rfl, hf⟩
                have Hff := Lib.hid ((HH.out.trans0 (Hf.out.trans0 Hj.out)).trans0 (Fr.trans0 (by (repeat (first | exact Fr.refl _ _ | assumption | apply Fr.drewN | apply Fr.drew | apply Fr.alloc | refine Fr.setCell ?_ (Or.inr (by simp; try omega)) _))) hf))
                clear hf
                go_wp2
                go_ret
                exact ⟨rfl, by have := Hff.out; (repeat (first | exact Fr.refl _ _ | assumption | apply Fr.drewN | apply Fr.drew | apply Fr.alloc | refine Fr.setCell ?_ (Or.inr (by simp; try omega)) _))⟩
      · obtain ⟨rfl, hf⟩ := hneg hg
        have Hf := Lib.hid (Hf.out.trans0 (Fr.trans0 (by (repeat (first | exact Fr.refl _ _ | assumption | apply Fr.drewN | apply Fr.drew | apply Fr.alloc | refine Fr.setCell ?_ (Or.inr (by simp; try omega)) _))) hf))
        clear hf
        go_wp2_with fail
        refine LAwake_calls.mono ?_
        rintro e w9 ⟨rfl, hf⟩
        have Hf := Lib.hid (Hf.out.trans0 (Fr.trans0 (by (repeat (first | exact Fr.refl _ _ | assumption | apply Fr.drewN | apply Fr.drew | apply Fr.alloc | refine Fr.setCell ?_ (Or.inr (by simp; try omega)) _))) hf))
        clear hf
        go_wp2
        go_ret
        exact ⟨rfl, by have := Hf.out; (repeat (first | exact Fr.refl _ _ | assumption | apply Fr.drewN | apply Fr.drew | apply Fr.alloc | refine Fr.setCell ?_ (Or.inr (by simp; try omega)) _))⟩
end Go.Proofs.Ytppmnmheodimoaa
end
