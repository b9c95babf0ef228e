/- Own texts of this claim, part 39: no condition. -/
import Derived.Test.YtppmnmheodimoaaZM30
import Derived.Test.YtppmnmheodimoaaZM37
import Derived.Test.YtppmnmheodimoaaZM12
section
/- Steps of a memo and of the reference. -/
namespace Go.Proofs.Ytppmnmheodimoaa
open Go Go.RowKit Go.Proofs.Rg Go.Proofs.Mp Go.Proofs.Hp Go.Proofs.Qs Go.Proofs.Ev
set_option linter.unusedVariables false
set_option linter.unusedSimpArgs false
theorem few_len {r : Rule} (h : few12 r = true) : r.hood.length ≤ 1000000 ∧ r.nodes.length ≤ 1000000 := by
  unfold few12 at h
  simp only [Bool.and_eq_true, decide_eq_true_eq] at h
  omega
set_option maxRecDepth 100000 in
theorem RMStep_nil {w : World} (id k : Int) : Calls Try.prog 21 #[.pointer none, .int .i64 id, .int .i64 k] w fun e w' => e = .returned (.tuple #[.int .i64 0, .int .i64 1]) ∧ w = w' := by
  go_enter Try.func21, Try.ntmps21
  go_wp2
  all_goals
    go_ret2
    exact ⟨rfl, rfl⟩
theorem RMNew_nil {w : World} {r : Rule} {ha na : Option Addr} {hc nc : Nat} (hru : RuleAt w (.slice ha r.hood.length hc) (.slice na r.nodes.length nc) r) (hlh : r.hood.length ≤ 1000000) (hln : r.nodes.length ≤ 1000000) (hR : rightR r = true) :
    Calls Try.prog 19 #[rv r ha na hc nc, .pointer none] w fun e w' => e = .returned (.tuple #[.pointer none, .int .i64 1]) ∧ Fr [] w w' := by
  have HT := Lib.hid (fun w1 (hf : Fr [] w w1) => RTRight_calls (hru.fr hf) hlh hln)
  clear hru
  unfold rv
  rw [hR] at HT
  go_enter Try.func19, Try.ntmps19
  go_wp2_with fail
  refine (HT.out _ (by (repeat (first | exact Fr.refl _ _ | assumption | apply Fr.drewN | apply Fr.drew | apply Fr.alloc | refine Fr.setCell ?_ (Or.inr (by simp; try omega)) _)))).mono ?_
  rintro e w5 ⟨rfl, hf⟩
  have Hf := Lib.hid (Fr.trans0 (by (repeat (first | exact Fr.refl _ _ | assumption | apply Fr.drewN | apply Fr.drew | apply Fr.alloc | refine Fr.setCell ?_ (Or.inr (by simp; try omega)) _)) : Fr [] w _) hf)
  clear hf
  go_wp2
  all_goals
    go_ret2
    exact ⟨rfl, Hf.out⟩
theorem Has.rot {W w : World} {A B : List Res} (h : Has W w (A ++ B)) : Has W w (B ++ A) := h.perm List.perm_append_comm
/-- the trees that a step of the program and of the reference may add -/
theorem step_list {r : Rule} {ns : List K4} {id k : Int} (hg : GoodQ r.S ns) (hlen : ns.length ≤ 600) (hlv : lvl r.S (levs r.S ns) id ≤ 6) :
    ∃ L, room r.S ns L ∧ dummy ∈ L ∧ ∀ (n k' : Nat) (t : Tr), Is r.S ns n id t → k = k' → lostOf (radius r.hood) ≤ n → k' ≤ n - lostOf (radius r.hood) → n ≤ 6 ∧ (∀ u ∈ need (gen r) (lostOf (radius r.hood)) n k' t, u ∈ L) ∧ ∀ u ∈ subs (stp (gen r) n k' t), u ∈ L := by
  by_cases hok : ∃ (n k' : Nat) (t : Tr), Is r.S ns n id t ∧ k = k' ∧ lostOf (radius r.hood) ≤ n ∧ k' ≤ n - lostOf (radius r.hood)
  · obtain ⟨n, k', t, hi, rfl, h1, h2⟩ := hok
    have hl := lost_le (radius_le r.hood).1 (radius_le r.hood).2
    have hn : n ≤ 6 := by have := hi.lvl hg; omega
    refine ⟨need (gen r) (lostOf (radius r.hood)) n k' t ++ subs (stp (gen r) n k' t) ++ [dummy], room.of_len ?_, by simp, fun n2 k2 t2 hi2 hk2 h3 h4 => ?_⟩
    · have e1 := need_length (gen r) (lostOf (radius r.hood)) n k' t
      have e2 := cost_all hl.1 hl.2 hn (show k' ≤ 4 by omega)
      have e3 := subs_length (n - 1) (stp_full (gen r) n k' t)
      have e4 : subN (n - 1) ≤ 341 := by
        have : n - 1 = 0 ∨ n - 1 = 1 ∨ n - 1 = 2 ∨ n - 1 = 3 ∨ n - 1 = 4 ∨ n - 1 = 5 := by omega
        rcases this with h | h | h | h | h | h <;> rw [h] <;> decide
      simp only [List.length_append, List.length_singleton]
      omega
    · obtain ⟨rfl, rfl⟩ := Is.same hg hi hi2
      obtain rfl : k' = k2 := by omega
      exact ⟨hn, fun u hu => by simp [hu], fun u hu => by simp [hu]⟩
  · exact ⟨[dummy], room.of_len (by simp; omega), by simp, fun n k' t h1 h2 h3 h4 => absurd ⟨n, k', t, h1, h2, h3, h4⟩ hok⟩
/-- two blocks as a thing -/
def blk2 (b c : Nat) (o p : Obj) : Res where
  holds w F := (w.heap[b]? = some o ∧ w.heap[c]? = some p) ∧ F = [b, c]
  keep := fun ⟨⟨h1, h2⟩, h3⟩ hk => ⟨⟨(hk b (by simp [h3])).trans h1, (hk c (by simp [h3])).trans h2⟩, h3⟩
  lt := fun ⟨⟨h1, h2⟩, h3⟩ x hx => by
    rw [h3] at hx
    simp at hx
    rcases hx with rfl | rfl
    · exact lt_of_block h1
    · exact lt_of_block h2
theorem has_two {w w' : World} {b c : Nat} {o p : Obj} (hf : Fr [] w w') (h1 : w'.heap[b]? = some o) (h2 : w'.heap[c]? = some p) (hb : w.heap.size ≤ b) (hc : w.heap.size ≤ c) : Has w w' [blk2 b c o p] :=
  (Has.nil (Fr.refl [] w)).new (F := [b, c]) hf ⟨⟨h1, h2⟩, rfl⟩ (by simp; omega)
/-- the boxed arguments -/
def argR (b : Nat) (r : Rule) (ha na : Option Addr) (hc nc : Nat) (s : Int) (a : Option Addr) (n c : Nat) (id : Int) : Res :=
  blk2 b (b + 1) (.cells #[.int .i64 r.S, .slice ha r.hood.length hc, .slice na r.nodes.length nc] 31 (0, 0)) (.cells #[.int .i64 s, .slice a n c, .int .i64 id] 41 (0, 0))
section
variable {W w : World} {r : Rule} {hv nv : Value} {mb sb rb mb2 ub : Nat} {ns ms : List K4} {mm : List ((Int × Int) × Int)} {Ps : List Res}
theorem both_new (h : Has W w (memoL r hv nv mb sb rb ns mm (refR ub r.S ms :: Ps))) : Has W w (refR ub r.S ms :: memoL r hv nv mb sb rb ns mm Ps) :=
  h.perm (List.perm_append_comm (l₁ := [storeR sb r.S ns, mapR rb mm, Hp.blk mb (.cells (mcells r hv nv sb rb) 81 (0, 0))]) (l₂ := [refR ub r.S ms]) |>.append_right Ps)
theorem both_back (h : Has W w (refR ub r.S ms :: memoL r hv nv mb sb rb ns mm Ps)) : Has W w (memoL r hv nv mb sb rb ns mm (refR ub r.S ms :: Ps)) :=
  h.perm (List.perm_append_comm (l₁ := [refR ub r.S ms]) (l₂ := [storeR sb r.S ns, mapR rb mm, Hp.blk mb (.cells (mcells r hv nv sb rb) 81 (0, 0))]) |>.append_right Ps)
theorem both_ref (h : Has W w (memoL r hv nv mb sb rb ns mm (rmemoL r hv nv mb2 ub ms Ps))) : Has W w (rmemoL r hv nv mb2 ub ms (memoL r hv nv mb sb rb ns mm Ps)) :=
  h.perm (List.perm_append_comm (l₁ := [storeR sb r.S ns, mapR rb mm, Hp.blk mb (.cells (mcells r hv nv sb rb) 81 (0, 0))]) (l₂ := [refR ub r.S ms, Hp.blk mb2 (.cells (rmcells r hv nv ub) 98 (0, 0))]) |>.append_right Ps)
theorem both_memo (h : Has W w (rmemoL r hv nv mb2 ub ms (memoL r hv nv mb sb rb ns mm Ps))) : Has W w (memoL r hv nv mb sb rb ns mm (rmemoL r hv nv mb2 ub ms Ps)) :=
  h.perm (List.perm_append_comm (l₁ := [refR ub r.S ms, Hp.blk mb2 (.cells (rmcells r hv nv ub) 98 (0, 0))]) (l₂ := [storeR sb r.S ns, mapR rb mm, Hp.blk mb (.cells (mcells r hv nv sb rb) 81 (0, 0))]) |>.append_right Ps)
end
theorem cells_small {n : Nat} (hn : n ≤ 6) (t : Tr) : (cellsL n t).length ≤ 1000000 ∧ ∀ l ∈ cellsL n t, l.length ≤ 1000000 := by
  have h : 2 ^ n ≤ 64 := Nat.pow_le_pow_right (by omega) hn
  refine ⟨by rw [cellsL_length]; omega, fun l hl => ?_⟩
  obtain ⟨i, hi, he⟩ := List.mem_iff_getElem.1 hl
  rw [cellsL_length] at hi
  have := cellsL_get (t := t) hi
  rw [List.getElem?_eq_getElem (by rw [cellsL_length]; exact hi), he] at this
  rw [Option.some.inj this, rowL_length]
  omega
/-- a number whose step is refused and a number whose step is taken differ -/
theorem step_differ {r : Rule} {ns : List K4} (hg : GoodQ r.S ns) {id k : Int} {n m k' : Nat} {t u : Tr} (h : Is r.S ns n id t) (hb : k < 0 ∨ mostOf r n < k) (h2 : Is r.S ns m id u) (hk : k = k') (h3 : lostOf (radius r.hood) ≤ m) (h4 : k' ≤ m - lostOf (radius r.hood)) (hm : m ≤ 6) : False := by
  obtain ⟨rfl, rfl⟩ := Is.same hg h h2
  rcases hb with hb | hb
  · omega
  · unfold mostOf at hb
    rw [if_neg (by omega)] at hb
    omega
set_option maxHeartbeats 8000000 in
set_option maxRecDepth 100000 in
theorem MemoSteps_calls {w : World} {r : Rule} {ha na : Option Addr} {hc nc : Nat} (hru : RuleAt w (.slice ha r.hood.length hc) (.slice na r.nodes.length nc) r) {s id k : Int} {a : Option Addr} {c : Nat} {ns : List K4} (hv : Reads w (.slice a ns.length c) ns.length 4 (flat ns)) :
    Calls Try.prog 4 #[.agg #[.int .i64 r.S, .slice ha r.hood.length hc, .slice na r.nodes.length nc], .agg #[.int .i64 s, .slice a ns.length c, .int .i64 id], .int .i64 k] w fun e w' => e = .returned (.bool true) ∧ Fr [] w w' := by
  have Hru := Lib.hid hru
  have HV := Lib.hid hv
  clear hru hv
  cases hfew : few12 r with
  | false =>
    go_enter Try.func4, Try.ntmps4
    go_wp2_with fail
    refine (LFew12_calls (Hru.out.fr (by (repeat (first | exact Fr.refl _ _ | assumption | apply Fr.drewN | apply Fr.drew | apply Fr.alloc | refine Fr.setCell ?_ (Or.inr (by simp; try omega)) _))))).mono ?_
    rintro e w1 ⟨rfl, hf⟩
    have ht_ := (hf.block (w.heap.size) (by first | (simp; done) | (simp; omega)) (by simp)).trans (show _ = some (.cells #[.int .i64 r.S, .slice ha r.hood.length hc, .slice na r.nodes.length nc] 31 (0, 0)) by (repeat (first | rw [if_pos (by omega)] | rw [if_neg (by omega)] | rw [hp_drew] | rw [hp_drewN] | rw [hp_alloc_size] | rw [hp_setCell_size] | rw [hp_alloc] | rw [hp_setCell] | rw [Option.map_some] | rw [upd_cells] | rw [List.set_cons_zero] | rw [List.set_cons_succ] | rfl)))
    have t0 := heap_eq_cell ht_ 0
    have t1 := heap_eq_cell ht_ 1
    have t2 := heap_eq_cell ht_ 2
    have tl := lt_of_block ht_
    have Ht := Lib.hid ht_
    clear ht_
    have hx_ := (hf.block ((w.heap.size + 1)) (by first | (simp; done) | (simp; omega)) (by simp)).trans (show _ = some (.cells #[.int .i64 s, .slice a ns.length c, .int .i64 id] 41 (0, 0)) by (repeat (first | rw [if_pos (by omega)] | rw [if_neg (by omega)] | rw [hp_drew] | rw [hp_drewN] | rw [hp_alloc_size] | rw [hp_setCell_size] | rw [hp_alloc] | rw [hp_setCell] | rw [Option.map_some] | rw [upd_cells] | rw [List.set_cons_zero] | rw [List.set_cons_succ] | rfl)))
    have x0 := heap_eq_cell hx_ 0
    have x1 := heap_eq_cell hx_ 1
    have x2 := heap_eq_cell hx_ 2
    have xl := lt_of_block hx_
    have Hx := Lib.hid hx_
    clear hx_
    have Hf := Lib.hid (Fr.trans0 (by (repeat (first | exact Fr.refl _ _ | assumption | apply Fr.drewN | apply Fr.drew | apply Fr.alloc | refine Fr.setCell ?_ (Or.inr (by simp; try omega)) _)) : Fr [] w _) hf)
    clear hf
    rw [hfew]
    go_wp2_with fail
    refine LAwake_calls.mono ?_
    rintro e w9 ⟨rfl, hf⟩
    have Hf := Lib.hid (Hf.out.trans0 (Fr.trans0 (by (repeat (first | exact Fr.refl _ _ | assumption | apply Fr.drewN | apply Fr.drew | apply Fr.alloc | refine Fr.setCell ?_ (Or.inr (by simp; try omega)) _))) hf))
    clear hf
    go_wp2
    go_ret
    exact ⟨rfl, by have := Hf.out; (repeat (first | exact Fr.refl _ _ | assumption | apply Fr.drewN | apply Fr.drew | apply Fr.alloc | refine Fr.setCell ?_ (Or.inr (by simp; try omega)) _))⟩
  | true =>
    have HLE := Lib.hid (few_len hfew)
    go_enter Try.func4, Try.ntmps4
    go_wp2_with fail
    refine (LFew12_calls (Hru.out.fr (by (repeat (first | exact Fr.refl _ _ | assumption | apply Fr.drewN | apply Fr.drew | apply Fr.alloc | refine Fr.setCell ?_ (Or.inr (by simp; try omega)) _))))).mono ?_
    rintro e w1 ⟨rfl, hf⟩
    have ht_ := (hf.block (w.heap.size) (by first | (simp; done) | (simp; omega)) (by simp)).trans (show _ = some (.cells #[.int .i64 r.S, .slice ha r.hood.length hc, .slice na r.nodes.length nc] 31 (0, 0)) by (repeat (first | rw [if_pos (by omega)] | rw [if_neg (by omega)] | rw [hp_drew] | rw [hp_drewN] | rw [hp_alloc_size] | rw [hp_setCell_size] | rw [hp_alloc] | rw [hp_setCell] | rw [Option.map_some] | rw [upd_cells] | rw [List.set_cons_zero] | rw [List.set_cons_succ] | rfl)))
    have t0 := heap_eq_cell ht_ 0
    have t1 := heap_eq_cell ht_ 1
    have t2 := heap_eq_cell ht_ 2
    have tl := lt_of_block ht_
    have Ht := Lib.hid ht_
    clear ht_
    have hx_ := (hf.block ((w.heap.size + 1)) (by first | (simp; done) | (simp; omega)) (by simp)).trans (show _ = some (.cells #[.int .i64 s, .slice a ns.length c, .int .i64 id] 41 (0, 0)) by (repeat (first | rw [if_pos (by omega)] | rw [if_neg (by omega)] | rw [hp_drew] | rw [hp_drewN] | rw [hp_alloc_size] | rw [hp_setCell_size] | rw [hp_alloc] | rw [hp_setCell] | rw [Option.map_some] | rw [upd_cells] | rw [List.set_cons_zero] | rw [List.set_cons_succ] | rfl)))
    have x0 := heap_eq_cell hx_ 0
    have x1 := heap_eq_cell hx_ 1
    have x2 := heap_eq_cell hx_ 2
    have xl := lt_of_block hx_
    have Hx := Lib.hid hx_
    clear hx_
    have Hf := Lib.hid (Fr.trans0 (by (repeat (first | exact Fr.refl _ _ | assumption | apply Fr.drewN | apply Fr.drew | apply Fr.alloc | refine Fr.setCell ?_ (Or.inr (by simp; try omega)) _)) : Fr [] w _) hf)
    clear hf
    rw [hfew]
    clear hfew
    go_wp2_with fail
    refine (LFew27_calls (s := s) (id := id) (HV.out.fr (Hf.out.trans0 (by (repeat (first | exact Fr.refl _ _ | assumption | apply Fr.drewN | apply Fr.drew | apply Fr.alloc | refine Fr.setCell ?_ (Or.inr (by simp; try omega)) _)))))).mono ?_
    rintro e w2 ⟨few, rfl, hfew, hf⟩
    have hfk := hf
    (try clear t0)
    (try clear t1)
    (try clear t2)
    (try clear tl)
    have ht_ := (hfk.block _ (lt_of_block Ht.out) (by simp)).trans Ht.out
    clear Ht
    have t0 := heap_eq_cell ht_ 0
    have t1 := heap_eq_cell ht_ 1
    have t2 := heap_eq_cell ht_ 2
    have tl := lt_of_block ht_
    have Ht := Lib.hid ht_
    clear ht_
    (try clear x0)
    (try clear x1)
    (try clear x2)
    (try clear xl)
    have hx_ := (hfk.block _ (lt_of_block Hx.out) (by simp)).trans Hx.out
    clear Hx
    have x0 := heap_eq_cell hx_ 0
    have x1 := heap_eq_cell hx_ 1
    have x2 := heap_eq_cell hx_ 2
    have xl := lt_of_block hx_
    have Hx := Lib.hid hx_
    clear hx_
    clear hfk
    have Hf := Lib.hid (Hf.out.trans0 (Fr.trans0 (by (repeat (first | exact Fr.refl _ _ | assumption | apply Fr.drewN | apply Fr.drew | apply Fr.alloc | refine Fr.setCell ?_ (Or.inr (by simp; try omega)) _))) hf))
    clear hf
    cases few with
    | false =>
      go_wp2_with fail
      refine LAwake_calls.mono ?_
      rintro e w9 ⟨rfl, hf⟩
      have Hf := Lib.hid (Hf.out.trans0 (Fr.trans0 (by (repeat (first | exact Fr.refl _ _ | assumption | apply Fr.drewN | apply Fr.drew | apply Fr.alloc | refine Fr.setCell ?_ (Or.inr (by simp; try omega)) _))) hf))
      clear hf
      go_wp2
      go_ret
      exact ⟨rfl, by have := Hf.out; (repeat (first | exact Fr.refl _ _ | assumption | apply Fr.drewN | apply Fr.drew | apply Fr.alloc | refine Fr.setCell ?_ (Or.inr (by simp; try omega)) _))⟩
    | true =>
      have HF := Lib.hid (hfew.1 rfl)
      clear hfew
      by_cases hg : GoodQ s ns
      · have H := Lib.hid (show Has w w2 [argR w.heap.size r ha na hc nc s a ns.length c id] from has_two Hf.out Ht.out Hx.out (Nat.le_refl _) (by omega))
        clear Ht Hx
        have HG := Lib.hid hg
        go_wp2_with fail
        refine (Load_calls (s := s) (ns := ns) (by have := HF.out.1; omega) (HV.out.fr (Hf.out.trans0 (by (repeat (first | exact Fr.refl _ _ | assumption | apply Fr.drewN | apply Fr.drew | apply Fr.alloc | refine Fr.setCell ?_ (Or.inr (by simp; try omega)) _)))))).mono ?_
        rintro e w3 ⟨hpos, _⟩
        obtain ⟨b1, F1, rfl, hS, hf, hF⟩ := hpos hg
        have H := Lib.hid ((H.out.step (by (repeat (first | exact Fr.refl _ _ | assumption | apply Fr.drewN | apply Fr.drew | apply Fr.alloc | refine Fr.setCell ?_ (Or.inr (by simp; try omega)) _)))).new (P := storeR b1 s ns) hf hS hF)
        clear hf hpos hS hF Hf
        (try clear t0)
        (try clear t1)
        (try clear t2)
        (try clear tl)
        (try clear x0)
        (try clear x1)
        (try clear x2)
        (try clear xl)
        obtain ⟨_, ⟨hT_, hX_⟩, _⟩ := has_mem (P := argR w.heap.size r ha na hc nc s a ns.length c id) H.out (by simp [memoL, rmemoL])
        have t0 := heap_eq_cell hT_ 0
        have t1 := heap_eq_cell hT_ 1
        have t2 := heap_eq_cell hT_ 2
        have tl := lt_of_block hT_
        have x0 := heap_eq_cell hX_ 0
        have x1 := heap_eq_cell hX_ 1
        have x2 := heap_eq_cell hX_ 2
        have xl := lt_of_block hX_
        clear hT_ hX_
        go_wp2_with fail
        refine (RLoad_calls (s := s) (ns := ns) (by have := HF.out.1; omega) (HV.out.fr (H.out.fr.trans0 (by (repeat (first | exact Fr.refl _ _ | assumption | apply Fr.drewN | apply Fr.drew | apply Fr.alloc | refine Fr.setCell ?_ (Or.inr (by simp; try omega)) _)))))).mono ?_
        rintro e w4 ⟨hpos, _⟩
        obtain ⟨b2, F2, rfl, hS, hf, hF⟩ := hpos hg
        have H := Lib.hid ((H.out.step (by (repeat (first | exact Fr.refl _ _ | assumption | apply Fr.drewN | apply Fr.drew | apply Fr.alloc | refine Fr.setCell ?_ (Or.inr (by simp; try omega)) _)))).new (P := refR b2 s ns) hf hS hF).swap
        clear hf hpos hS hF hg
        (try clear t0)
        (try clear t1)
        (try clear t2)
        (try clear tl)
        (try clear x0)
        (try clear x1)
        (try clear x2)
        (try clear xl)
        obtain ⟨_, ⟨hT_, hX_⟩, _⟩ := has_mem (P := argR w.heap.size r ha na hc nc s a ns.length c id) H.out (by simp [memoL, rmemoL])
        have t0 := heap_eq_cell hT_ 0
        have t1 := heap_eq_cell hT_ 1
        have t2 := heap_eq_cell hT_ 2
        have tl := lt_of_block hT_
        have x0 := heap_eq_cell hX_ 0
        have x1 := heap_eq_cell hX_ 1
        have x2 := heap_eq_cell hX_ 2
        have xl := lt_of_block hX_
        clear hT_ hX_
        cases hR : rightR r with
        | false =>
          go_wp2_with fail
          refine (MNew_bad (Hru.out.fr (H.out.fr.trans0 (by (repeat (first | exact Fr.refl _ _ | assumption | apply Fr.drewN | apply Fr.drew | apply Fr.alloc | refine Fr.setCell ?_ (Or.inr (by simp; try omega)) _))))) HLE.out.1 HLE.out.2 hR _).mono ?_
          rintro e w5 ⟨rfl, hf⟩
          have H := Lib.hid (H.out.step (Fr.trans0 (by (repeat (first | exact Fr.refl _ _ | assumption | apply Fr.drewN | apply Fr.drew | apply Fr.alloc | refine Fr.setCell ?_ (Or.inr (by simp; try omega)) _)) : Fr [] w4 _) hf))
          clear hf
          (try clear t0)
          (try clear t1)
          (try clear t2)
          (try clear tl)
          (try clear x0)
          (try clear x1)
          (try clear x2)
          (try clear xl)
          obtain ⟨_, ⟨hT_, hX_⟩, _⟩ := has_mem (P := argR w.heap.size r ha na hc nc s a ns.length c id) H.out (by simp [memoL, rmemoL])
          have t0 := heap_eq_cell hT_ 0
          have t1 := heap_eq_cell hT_ 1
          have t2 := heap_eq_cell hT_ 2
          have tl := lt_of_block hT_
          have x0 := heap_eq_cell hX_ 0
          have x1 := heap_eq_cell hX_ 1
          have x2 := heap_eq_cell hX_ 2
          have xl := lt_of_block hX_
          clear hT_ hX_
          go_wp2_with fail
          refine (RMNew_bad (Hru.out.fr (H.out.fr.trans0 (by (repeat (first | exact Fr.refl _ _ | assumption | apply Fr.drewN | apply Fr.drew | apply Fr.alloc | refine Fr.setCell ?_ (Or.inr (by simp; try omega)) _))))) HLE.out.1 HLE.out.2 hR _).mono ?_
          rintro e w6 ⟨rfl, hf⟩
          have H := Lib.hid (H.out.step (Fr.trans0 (by (repeat (first | exact Fr.refl _ _ | assumption | apply Fr.drewN | apply Fr.drew | apply Fr.alloc | refine Fr.setCell ?_ (Or.inr (by simp; try omega)) _)) : Fr [] w5 _) hf))
          clear hf
          (try clear t0)
          (try clear t1)
          (try clear t2)
          (try clear tl)
          (try clear x0)
          (try clear x1)
          (try clear x2)
          (try clear xl)
          obtain ⟨_, ⟨hT_, hX_⟩, _⟩ := has_mem (P := argR w.heap.size r ha na hc nc s a ns.length c id) H.out (by simp [memoL, rmemoL])
          have t0 := heap_eq_cell hT_ 0
          have t1 := heap_eq_cell hT_ 1
          have t2 := heap_eq_cell hT_ 2
          have tl := lt_of_block hT_
          have x0 := heap_eq_cell hX_ 0
          have x1 := heap_eq_cell hX_ 1
          have x2 := heap_eq_cell hX_ 2
          have xl := lt_of_block hX_
          clear hT_ hX_
          go_wp2_with fail
          refine (MMost_nil k).mono ?_
          rintro e w4 ⟨rfl, rfl⟩
          go_wp2_with fail
          refine (RMMost_nil k).mono ?_
          rintro e w4 ⟨rfl, rfl⟩
          go_wp2_with fail
          refine (MStep_nil id k).mono ?_
          rintro e w4 ⟨rfl, rfl⟩
          go_wp2_with fail
          refine (RMStep_nil id k).mono ?_
          rintro e w4 ⟨rfl, rfl⟩
          go_wp2_with fail
          refine LAwake_calls.mono ?_
          rintro e w9 ⟨rfl, hf⟩
          have Hf := Lib.hid (H.out.fr.trans0 (Fr.trans0 (by (repeat (first | exact Fr.refl _ _ | assumption | apply Fr.drewN | apply Fr.drew | apply Fr.alloc | refine Fr.setCell ?_ (Or.inr (by simp; try omega)) _))) hf))
          clear hf
          go_wp2
          go_ret
          exact ⟨rfl, by have := Hf.out; (repeat (first | exact Fr.refl _ _ | assumption | apply Fr.drewN | apply Fr.drew | apply Fr.alloc | refine Fr.setCell ?_ (Or.inr (by simp; try omega)) _))⟩
        | true =>
          go_wp2_with fail
          refine (MNew_calls (Hru.out.fr (H.out.fr.trans0 (by (repeat (first | exact Fr.refl _ _ | assumption | apply Fr.drewN | apply Fr.drew | apply Fr.alloc | refine Fr.setCell ?_ (Or.inr (by simp; try omega)) _))))) HLE.out.1 HLE.out.2 hR (H.out.step (by (repeat (first | exact Fr.refl _ _ | assumption | apply Fr.drewN | apply Fr.drew | apply Fr.alloc | refine Fr.setCell ?_ (Or.inr (by simp; try omega)) _))))).mono ?_
          rintro e w5 (⟨hne, rfl, h5⟩ | ⟨heq, mb, rb, rfl, h5⟩)
          · have H := Lib.hid h5.swap
            have HNE := Lib.hid hne
            clear h5 hne
            (try clear t0)
            (try clear t1)
            (try clear t2)
            (try clear tl)
            (try clear x0)
            (try clear x1)
            (try clear x2)
            (try clear xl)
            obtain ⟨_, ⟨hT_, hX_⟩, _⟩ := has_mem (P := argR w.heap.size r ha na hc nc s a ns.length c id) H.out (by simp [memoL, rmemoL])
            have t0 := heap_eq_cell hT_ 0
            have t1 := heap_eq_cell hT_ 1
            have t2 := heap_eq_cell hT_ 2
            have tl := lt_of_block hT_
            have x0 := heap_eq_cell hX_ 0
            have x1 := heap_eq_cell hX_ 1
            have x2 := heap_eq_cell hX_ 2
            have xl := lt_of_block hX_
            clear hT_ hX_
            go_wp2_with fail
            refine (RMNew_calls (Hru.out.fr (H.out.fr.trans0 (by (repeat (first | exact Fr.refl _ _ | assumption | apply Fr.drewN | apply Fr.drew | apply Fr.alloc | refine Fr.setCell ?_ (Or.inr (by simp; try omega)) _))))) HLE.out.1 HLE.out.2 hR (H.out.step (by (repeat (first | exact Fr.refl _ _ | assumption | apply Fr.drewN | apply Fr.drew | apply Fr.alloc | refine Fr.setCell ?_ (Or.inr (by simp; try omega)) _))))).mono ?_
            rintro e w6 (⟨hne, rfl, h6⟩ | ⟨heq, _⟩)
            · have H := Lib.hid h6
              clear h6 hne
              (try clear t0)
              (try clear t1)
              (try clear t2)
              (try clear tl)
              (try clear x0)
              (try clear x1)
              (try clear x2)
              (try clear xl)
              obtain ⟨_, ⟨hT_, hX_⟩, _⟩ := has_mem (P := argR w.heap.size r ha na hc nc s a ns.length c id) H.out (by simp [memoL, rmemoL])
              have t0 := heap_eq_cell hT_ 0
              have t1 := heap_eq_cell hT_ 1
              have t2 := heap_eq_cell hT_ 2
              have tl := lt_of_block hT_
              have x0 := heap_eq_cell hX_ 0
              have x1 := heap_eq_cell hX_ 1
              have x2 := heap_eq_cell hX_ 2
              have xl := lt_of_block hX_
              clear hT_ hX_
              go_wp2_with fail
              refine (MMost_nil k).mono ?_
              rintro e w4 ⟨rfl, rfl⟩
              go_wp2_with fail
              refine (RMMost_nil k).mono ?_
              rintro e w4 ⟨rfl, rfl⟩
              go_wp2_with fail
              refine (MStep_nil id k).mono ?_
              rintro e w4 ⟨rfl, rfl⟩
              go_wp2_with fail
              refine (RMStep_nil id k).mono ?_
              rintro e w4 ⟨rfl, rfl⟩
              go_wp2_with fail
              refine LAwake_calls.mono ?_
              rintro e w9 ⟨rfl, hf⟩
              have Hf := Lib.hid (H.out.fr.trans0 (Fr.trans0 (by (repeat (first | exact Fr.refl _ _ | assumption | apply Fr.drewN | apply Fr.drew | apply Fr.alloc | refine Fr.setCell ?_ (Or.inr (by simp; try omega)) _))) hf))
              clear hf
              go_wp2
              go_ret
              exact ⟨rfl, by have := Hf.out; (repeat (first | exact Fr.refl _ _ | assumption | apply Fr.drewN | apply Fr.drew | apply Fr.alloc | refine Fr.setCell ?_ (Or.inr (by simp; try omega)) _))⟩
            · exact absurd heq HNE.out
          · subst heq
            have H := Lib.hid (both_new h5)
            clear h5
            (try clear t0)
            (try clear t1)
            (try clear t2)
            (try clear tl)
            (try clear x0)
            (try clear x1)
            (try clear x2)
            (try clear xl)
            obtain ⟨_, ⟨hT_, hX_⟩, _⟩ := has_mem (P := argR w.heap.size r ha na hc nc r.S a ns.length c id) H.out (by simp [memoL, rmemoL])
            have t0 := heap_eq_cell hT_ 0
            have t1 := heap_eq_cell hT_ 1
            have t2 := heap_eq_cell hT_ 2
            have tl := lt_of_block hT_
            have x0 := heap_eq_cell hX_ 0
            have x1 := heap_eq_cell hX_ 1
            have x2 := heap_eq_cell hX_ 2
            have xl := lt_of_block hX_
            clear hT_ hX_
            go_wp2_with fail
            refine (RMNew_calls (Hru.out.fr (H.out.fr.trans0 (by (repeat (first | exact Fr.refl _ _ | assumption | apply Fr.drewN | apply Fr.drew | apply Fr.alloc | refine Fr.setCell ?_ (Or.inr (by simp; try omega)) _))))) HLE.out.1 HLE.out.2 hR (H.out.step (by (repeat (first | exact Fr.refl _ _ | assumption | apply Fr.drewN | apply Fr.drew | apply Fr.alloc | refine Fr.setCell ?_ (Or.inr (by simp; try omega)) _))))).mono ?_
            rintro e w6 (⟨hne, _⟩ | ⟨_, mb2, rfl, h6⟩)
            · exact absurd rfl hne
            have H := Lib.hid (both_memo h6)
            clear h6
            (try clear t0)
            (try clear t1)
            (try clear t2)
            (try clear tl)
            (try clear x0)
            (try clear x1)
            (try clear x2)
            (try clear xl)
            obtain ⟨_, ⟨hT_, hX_⟩, _⟩ := has_mem (P := argR w.heap.size r ha na hc nc r.S a ns.length c id) H.out (by simp [memoL, rmemoL])
            have t0 := heap_eq_cell hT_ 0
            have t1 := heap_eq_cell hT_ 1
            have t2 := heap_eq_cell hT_ 2
            have tl := lt_of_block hT_
            have x0 := heap_eq_cell hX_ 0
            have x1 := heap_eq_cell hX_ 1
            have x2 := heap_eq_cell hX_ 2
            have xl := lt_of_block hX_
            clear hT_ hX_
            obtain ⟨L, hroom, hdum, hL⟩ := step_list (k := k) HG.out HF.out.1 (HF.out.2 HG.out)
            have HLL := Lib.hid (And.intro hroom (And.intro hdum hL))
            clear hroom hdum hL
            go_wp2_with fail
            refine (MMost_calls (H.out.step (by (repeat (first | exact Fr.refl _ _ | assumption | apply Fr.drewN | apply Fr.drew | apply Fr.alloc | refine Fr.setCell ?_ (Or.inr (by simp; try omega)) _)))) k).mono ?_
            rintro e w7 ⟨rfl, rfl⟩
            go_wp2_with fail
            refine (RMMost_calls (Hru.out.fr (H.out.fr.trans0 (by (repeat (first | exact Fr.refl _ _ | assumption | apply Fr.drewN | apply Fr.drew | apply Fr.alloc | refine Fr.setCell ?_ (Or.inr (by simp; try omega)) _))))) HLE.out.1 (both_ref (H.out.step (by (repeat (first | exact Fr.refl _ _ | assumption | apply Fr.drewN | apply Fr.drew | apply Fr.alloc | refine Fr.setCell ?_ (Or.inr (by simp; try omega)) _))))) k).mono ?_
            rintro e w7 ⟨rfl, hf⟩
            have H := Lib.hid (H.out.step (Fr.trans0 (by (repeat (first | exact Fr.refl _ _ | assumption | apply Fr.drewN | apply Fr.drew | apply Fr.alloc | refine Fr.setCell ?_ (Or.inr (by simp; try omega)) _)) : Fr [] w6 _) hf))
            clear hf
            (try clear t0)
            (try clear t1)
            (try clear t2)
            (try clear tl)
            (try clear x0)
            (try clear x1)
            (try clear x2)
            (try clear xl)
            obtain ⟨_, ⟨hT_, hX_⟩, _⟩ := has_mem (P := argR w.heap.size r ha na hc nc r.S a ns.length c id) H.out (by simp [memoL, rmemoL])
            have t0 := heap_eq_cell hT_ 0
            have t1 := heap_eq_cell hT_ 1
            have t2 := heap_eq_cell hT_ 2
            have tl := lt_of_block hT_
            have x0 := heap_eq_cell hX_ 0
            have x1 := heap_eq_cell hX_ 1
            have x2 := heap_eq_cell hX_ 2
            have xl := lt_of_block hX_
            clear hT_ hX_
            go_wp2_with fail
            refine (MStep_calls (L := L) hR (RuleSrc.base Hru.out) (H.out.step (by (repeat (first | exact Fr.refl _ _ | assumption | apply Fr.drewN | apply Fr.drew | apply Fr.alloc | refine Fr.setCell ?_ (Or.inr (by simp; try omega)) _)))) HLL.out.1 (fun id k v h => by simp [get?] at h) id k (fun n k' t h1 h2 h3 h4 => by have := HLL.out.2.2 n k' t h1 h2 h3 h4; exact ⟨by omega, this.2.1⟩)).mono ?_
            rintro e w8 hend
            rcases hend with ⟨hk, rfl, h8⟩ | ⟨n, t, hi, hb, rfl, h8⟩ | ⟨n, t, k', hi, hkk, hl1, hl2, res, ns8, mm8, rfl, h8, hp8, hr8, _, hres, _⟩
            · have H := Lib.hid h8
              clear h8
              (try clear t0)
              (try clear t1)
              (try clear t2)
              (try clear tl)
              (try clear x0)
              (try clear x1)
              (try clear x2)
              (try clear xl)
              obtain ⟨_, ⟨hT_, hX_⟩, _⟩ := has_mem (P := argR w.heap.size r ha na hc nc r.S a ns.length c id) H.out (by simp [memoL, rmemoL])
              have t0 := heap_eq_cell hT_ 0
              have t1 := heap_eq_cell hT_ 1
              have t2 := heap_eq_cell hT_ 2
              have tl := lt_of_block hT_
              have x0 := heap_eq_cell hX_ 0
              have x1 := heap_eq_cell hX_ 1
              have x2 := heap_eq_cell hX_ 2
              have xl := lt_of_block hX_
              clear hT_ hX_
              go_wp2_with fail
              refine (RMStep_calls (L := L) (ns := ns) hR (Hru.out.fr (H.out.fr.trans0 (by (repeat (first | exact Fr.refl _ _ | assumption | apply Fr.drewN | apply Fr.drew | apply Fr.alloc | refine Fr.setCell ?_ (Or.inr (by simp; try omega)) _))))) (both_ref (H.out.step (by (repeat (first | exact Fr.refl _ _ | assumption | apply Fr.drewN | apply Fr.drew | apply Fr.alloc | refine Fr.setCell ?_ (Or.inr (by simp; try omega)) _))))) HLL.out.1 HLL.out.2.1 id k (fun n k' t h1 h2 h3 h4 => by have := HLL.out.2.2 n k' t h1 h2 h3 h4; exact ⟨this.1, this.2.2⟩)).mono ?_
              rintro e w9 hend
              rcases hend with ⟨_, rfl, h9⟩ | ⟨_, _, hi, _⟩ | ⟨_, _, _, hi, _⟩
              rotate_left
              · exact absurd hi.kn hk
              · exact absurd hi.kn hk
              have H := Lib.hid h9
              clear h9
              go_wp2_with fail
              refine LAwake_calls.mono ?_
              rintro e w9 ⟨rfl, hf⟩
              have Hf := Lib.hid (H.out.fr.trans0 (Fr.trans0 (by (repeat (first | exact Fr.refl _ _ | assumption | apply Fr.drewN | apply Fr.drew | apply Fr.alloc | refine Fr.setCell ?_ (Or.inr (by simp; try omega)) _))) hf))
              clear hf
              go_wp2
              go_ret
              exact ⟨rfl, by have := Hf.out; (repeat (first | exact Fr.refl _ _ | assumption | apply Fr.drewN | apply Fr.drew | apply Fr.alloc | refine Fr.setCell ?_ (Or.inr (by simp; try omega)) _))⟩
            · have H := Lib.hid h8
              clear h8
              (try clear t0)
              (try clear t1)
              (try clear t2)
              (try clear tl)
              (try clear x0)
              (try clear x1)
              (try clear x2)
              (try clear xl)
              obtain ⟨_, ⟨hT_, hX_⟩, _⟩ := has_mem (P := argR w.heap.size r ha na hc nc r.S a ns.length c id) H.out (by simp [memoL, rmemoL])
              have t0 := heap_eq_cell hT_ 0
              have t1 := heap_eq_cell hT_ 1
              have t2 := heap_eq_cell hT_ 2
              have tl := lt_of_block hT_
              have x0 := heap_eq_cell hX_ 0
              have x1 := heap_eq_cell hX_ 1
              have x2 := heap_eq_cell hX_ 2
              have xl := lt_of_block hX_
              clear hT_ hX_
              go_wp2_with fail
              refine (RMStep_calls (L := L) (ns := ns) hR (Hru.out.fr (H.out.fr.trans0 (by (repeat (first | exact Fr.refl _ _ | assumption | apply Fr.drewN | apply Fr.drew | apply Fr.alloc | refine Fr.setCell ?_ (Or.inr (by simp; try omega)) _))))) (both_ref (H.out.step (by (repeat (first | exact Fr.refl _ _ | assumption | apply Fr.drewN | apply Fr.drew | apply Fr.alloc | refine Fr.setCell ?_ (Or.inr (by simp; try omega)) _))))) HLL.out.1 HLL.out.2.1 id k (fun n k' t h1 h2 h3 h4 => by have := HLL.out.2.2 n k' t h1 h2 h3 h4; exact ⟨this.1, this.2.2⟩)).mono ?_
              rintro e w9 hend
              rcases hend with ⟨hk, _⟩ | ⟨_, _, _, _, rfl, h9⟩ | ⟨_, _, _, hi2, hk2, h3, h4, _⟩
              · exact absurd hi.kn hk
              rotate_left
              · exact (step_differ HG.out hi hb hi2 hk2 h3 h4 (HLL.out.2.2 _ _ _ hi2 hk2 h3 h4).1).elim
              have H := Lib.hid h9
              clear h9 hi hb
              go_wp2_with fail
              refine LAwake_calls.mono ?_
              rintro e w9 ⟨rfl, hf⟩
              have Hf := Lib.hid (H.out.fr.trans0 (Fr.trans0 (by (repeat (first | exact Fr.refl _ _ | assumption | apply Fr.drewN | apply Fr.drew | apply Fr.alloc | refine Fr.setCell ?_ (Or.inr (by simp; try omega)) _))) hf))
              clear hf
              go_wp2
              go_ret
              exact ⟨rfl, by have := Hf.out; (repeat (first | exact Fr.refl _ _ | assumption | apply Fr.drewN | apply Fr.drew | apply Fr.alloc | refine Fr.setCell ?_ (Or.inr (by simp; try omega)) _))⟩
            · have H := Lib.hid h8
              have HI := Lib.hid (And.intro hi (And.intro hl1 hl2))
              have HKK := Lib.hid hkk
              have HRES := Lib.hid (And.intro hres hr8)
              have HPRE := Lib.hid hp8
              clear h8 hi hl1 hl2 hp8 hr8 hres hkk
              (try clear t0)
              (try clear t1)
              (try clear t2)
              (try clear tl)
              (try clear x0)
              (try clear x1)
              (try clear x2)
              (try clear xl)
              obtain ⟨_, ⟨hT_, hX_⟩, _⟩ := has_mem (P := argR w.heap.size r ha na hc nc r.S a ns.length c id) H.out (by simp [memoL, rmemoL])
              have t0 := heap_eq_cell hT_ 0
              have t1 := heap_eq_cell hT_ 1
              have t2 := heap_eq_cell hT_ 2
              have tl := lt_of_block hT_
              have x0 := heap_eq_cell hX_ 0
              have x1 := heap_eq_cell hX_ 1
              have x2 := heap_eq_cell hX_ 2
              have xl := lt_of_block hX_
              clear hT_ hX_
              go_wp2_with fail
              refine (RMStep_calls (L := L) (ns := ns) hR (Hru.out.fr (H.out.fr.trans0 (by (repeat (first | exact Fr.refl _ _ | assumption | apply Fr.drewN | apply Fr.drew | apply Fr.alloc | refine Fr.setCell ?_ (Or.inr (by simp; try omega)) _))))) (both_ref (H.out.step (by (repeat (first | exact Fr.refl _ _ | assumption | apply Fr.drewN | apply Fr.drew | apply Fr.alloc | refine Fr.setCell ?_ (Or.inr (by simp; try omega)) _))))) HLL.out.1 HLL.out.2.1 id k (fun n k' t h1 h2 h3 h4 => by have := HLL.out.2.2 n k' t h1 h2 h3 h4; exact ⟨this.1, this.2.2⟩)).mono ?_
              rintro e w9 hend
              rcases hend with ⟨hk, _⟩ | ⟨_, _, hi2, hb, _⟩ | ⟨n2, t2, k2, hi2, hk2, h3, h4, res2, ns9, rfl, h9, hp9, hres9⟩
              · exact absurd HI.out.1.kn hk
              · exact (step_differ HG.out hi2 hb HI.out.1 HKK.out HI.out.2.1 HI.out.2.2 (HLL.out.2.2 _ _ _ HI.out.1 HKK.out HI.out.2.1 HI.out.2.2).1).elim
              obtain ⟨rfl, rfl⟩ := Is.same HG.out HI.out.1 hi2
              obtain rfl : k' = k2 := by have := HKK.out; omega
              have H := Lib.hid (both_back h9)
              have HRES2 := Lib.hid hres9
              have hn6 := (HLL.out.2.2 _ _ _ HI.out.1 HKK.out HI.out.2.1 HI.out.2.2).1
              clear h9 hi2 hk2 h3 h4 hp9 hres9
              (try clear t0)
              (try clear t1)
              (try clear t2)
              (try clear tl)
              (try clear x0)
              (try clear x1)
              (try clear x2)
              (try clear xl)
              obtain ⟨_, ⟨hT_, hX_⟩, _⟩ := has_mem (P := argR w.heap.size r ha na hc nc r.S a ns.length c id) H.out (by simp [memoL, rmemoL])
              have t0 := heap_eq_cell hT_ 0
              have t1 := heap_eq_cell hT_ 1
              have t2 := heap_eq_cell hT_ 2
              have tl := lt_of_block hT_
              have x0 := heap_eq_cell hX_ 0
              have x1 := heap_eq_cell hX_ 1
              have x2 := heap_eq_cell hX_ 2
              have xl := lt_of_block hX_
              clear hT_ hX_
              have hn2 := lost_le (radius_le r.hood).1 (radius_le r.hood).2
              have hn3 : 1 ≤ n := by have := HI.out.2.1; omega
              have hcmp : (((n - 1 : Nat) : Int) == (n : Int) - 1) = true := by simp; omega
              obtain ⟨n1, hn1⟩ : ∃ n1, n - 1 = n1 := ⟨_, rfl⟩
              rw [hn1] at hcmp HRES HRES2
              have hn16 : n1 ≤ 6 := by omega
              clear hn1 hn2
              go_wp2
              refine wp_region_segs [([0, 1, 2, 3, 4, 5, 6, 7, 8, 9, 11, 12, 13, 10], [13]), ([14, 15, 16, 17, 18, 19, 20, 21], [])] (by kernel_rfl) (by kernel_rfl) ?_
              (simp only [wpSegs, pick, Array.getD_eq_getD_getElem?, List.getElem?_toArray, List.getElem?_cons_succ, List.getElem?_cons_zero, Option.getD_some])
              go_wp2_with fail
              refine (LRows_calls (H.out.step (by (repeat (first | exact Fr.refl _ _ | assumption | apply Fr.drewN | apply Fr.drew | apply Fr.alloc | refine Fr.setCell ?_ (Or.inr (by simp; try omega)) _)))) HRES.out.1 hn16 HRES.out.2.len).mono ?_
              rintro e w10 ⟨ra, rc, rfl, hg, hf⟩
              have H := Lib.hid (H.out.step (Fr.trans0 (by (repeat (first | exact Fr.refl _ _ | assumption | apply Fr.drewN | apply Fr.drew | apply Fr.alloc | refine Fr.setCell ?_ (Or.inr (by simp; try omega)) _))) hf))
              have HR1 := Lib.hid hg.rows
              clear hg hf
              (try clear t0)
              (try clear t1)
              (try clear t2)
              (try clear tl)
              (try clear x0)
              (try clear x1)
              (try clear x2)
              (try clear xl)
              obtain ⟨_, ⟨hT_, hX_⟩, _⟩ := has_mem (P := argR w.heap.size r ha na hc nc r.S a ns.length c id) H.out (by simp [memoL, rmemoL])
              have t0 := heap_eq_cell hT_ 0
              have t1 := heap_eq_cell hT_ 1
              have t2 := heap_eq_cell hT_ 2
              have tl := lt_of_block hT_
              have x0 := heap_eq_cell hX_ 0
              have x1 := heap_eq_cell hX_ 1
              have x2 := heap_eq_cell hX_ 2
              have xl := lt_of_block hX_
              clear hT_ hX_
              obtain ⟨F9, hS9⟩ := has_mem (P := refR b2 r.S ns9) H.out (by simp [memoL])
              have HS9 := Lib.hid hS9
              clear hS9
              go_wp2_with fail
              refine (cells_all n1 (by omega) _ F9 res2 _ (HS9.out.fr (G := []) (by (repeat (first | exact Fr.refl _ _ | assumption | apply Fr.drewN | apply Fr.drew | apply Fr.alloc | refine Fr.setCell ?_ (Or.inr (by simp; try omega)) _))) (by simp)) HRES2.out).mono ?_
              rintro e w11 ⟨qa, qc, rfl, hg, hf⟩
              have hfk : Fr [] w10 w11 := Fr.trans0 (by (repeat (first | exact Fr.refl _ _ | assumption | apply Fr.drewN | apply Fr.drew | apply Fr.alloc | refine Fr.setCell ?_ (Or.inr (by simp; try omega)) _))) hf
              have H := Lib.hid (H.out.step hfk)
              have HR1 := Lib.hid (HR1.out.fr hfk)
              have HR2 := Lib.hid hg.rows
              clear hg hf hfk HS9
              (try clear t0)
              (try clear t1)
              (try clear t2)
              (try clear tl)
              (try clear x0)
              (try clear x1)
              (try clear x2)
              (try clear xl)
              obtain ⟨_, ⟨hT_, hX_⟩, _⟩ := has_mem (P := argR w.heap.size r ha na hc nc r.S a ns.length c id) H.out (by simp [memoL, rmemoL])
              have t0 := heap_eq_cell hT_ 0
              have t1 := heap_eq_cell hT_ 1
              have t2 := heap_eq_cell hT_ 2
              have tl := lt_of_block hT_
              have x0 := heap_eq_cell hX_ 0
              have x1 := heap_eq_cell hX_ 1
              have x2 := heap_eq_cell hX_ 2
              have xl := lt_of_block hX_
              clear hT_ hX_
              go_wp2_with fail
              refine (LSame_calls (HR1.out.fr (by (repeat (first | exact Fr.refl _ _ | assumption | apply Fr.drewN | apply Fr.drew | apply Fr.alloc | refine Fr.setCell ?_ (Or.inr (by simp; try omega)) _)))) (HR2.out.fr (by (repeat (first | exact Fr.refl _ _ | assumption | apply Fr.drewN | apply Fr.drew | apply Fr.alloc | refine Fr.setCell ?_ (Or.inr (by simp; try omega)) _)))) (cells_small hn16 _).1 (cells_small hn16 _).1 (cells_small hn16 _).2 (cells_small hn16 _).2).mono ?_
              rintro e w12 ⟨rfl, hf⟩
              rw [decide_eq_true rfl]
              have H := Lib.hid (H.out.step (Fr.trans0 (by (repeat (first | exact Fr.refl _ _ | assumption | apply Fr.drewN | apply Fr.drew | apply Fr.alloc | refine Fr.setCell ?_ (Or.inr (by simp; try omega)) _))) hf))
              clear hf HR1 HR2
              (try clear t0)
              (try clear t1)
              (try clear t2)
              (try clear tl)
              (try clear x0)
              (try clear x1)
              (try clear x2)
              (try clear xl)
              obtain ⟨_, ⟨hT_, hX_⟩, _⟩ := has_mem (P := argR w.heap.size r ha na hc nc r.S a ns.length c id) H.out (by simp [memoL, rmemoL])
              have t0 := heap_eq_cell hT_ 0
              have t1 := heap_eq_cell hT_ 1
              have t2 := heap_eq_cell hT_ 2
              have tl := lt_of_block hT_
              have x0 := heap_eq_cell hX_ 0
              have x1 := heap_eq_cell hX_ 1
              have x2 := heap_eq_cell hX_ 2
              have xl := lt_of_block hX_
              clear hT_ hX_
              go_wp2_with fail
              refine (LevelIs_has (H.out.step (by (repeat (first | exact Fr.refl _ _ | assumption | apply Fr.drewN | apply Fr.drew | apply Fr.alloc | refine Fr.setCell ?_ (Or.inr (by simp; try omega)) _)))) HRES.out.1).mono ?_
              rintro e w13 ⟨rfl, _, hf⟩
              have H := Lib.hid (H.out.step (Fr.trans0 (by (repeat (first | exact Fr.refl _ _ | assumption | apply Fr.drewN | apply Fr.drew | apply Fr.alloc | refine Fr.setCell ?_ (Or.inr (by simp; try omega)) _))) hf))
              clear hf
              (try clear t0)
              (try clear t1)
              (try clear t2)
              (try clear tl)
              (try clear x0)
              (try clear x1)
              (try clear x2)
              (try clear xl)
              obtain ⟨_, ⟨hT_, hX_⟩, _⟩ := has_mem (P := argR w.heap.size r ha na hc nc r.S a ns.length c id) H.out (by simp [memoL, rmemoL])
              have t0 := heap_eq_cell hT_ 0
              have t1 := heap_eq_cell hT_ 1
              have t2 := heap_eq_cell hT_ 2
              have tl := lt_of_block hT_
              have x0 := heap_eq_cell hX_ 0
              have x1 := heap_eq_cell hX_ 1
              have x2 := heap_eq_cell hX_ 2
              have xl := lt_of_block hX_
              clear hT_ hX_
              go_wp2
              refine Mid.intro ⟨⟨again_cell (T := 3) rfl rfl rfl Try.underlying3 rfl x2 rfl, trivial⟩, ?_⟩
              go_wp2_with fail
              refine (LevelIs_has (H.out.step (by (repeat (first | exact Fr.refl _ _ | assumption | apply Fr.drewN | apply Fr.drew | apply Fr.alloc | refine Fr.setCell ?_ (Or.inr (by simp; try omega)) _)))) (HI.out.1.grow HPRE.out)).mono ?_
              rintro e w14 ⟨rfl, _, hf⟩
              have H := Lib.hid (H.out.step (Fr.trans0 (by (repeat (first | exact Fr.refl _ _ | assumption | apply Fr.drewN | apply Fr.drew | apply Fr.alloc | refine Fr.setCell ?_ (Or.inr (by simp; try omega)) _))) hf))
              clear hf
              go_wp2_with fail
              refine LAwake_calls.mono ?_
              rintro e w15 ⟨rfl, hf⟩
              have H := Lib.hid (H.out.step (Fr.trans0 (by (repeat (first | exact Fr.refl _ _ | assumption | apply Fr.drewN | apply Fr.drew | apply Fr.alloc | refine Fr.setCell ?_ (Or.inr (by simp; try omega)) _))) hf))
              clear hf
              go_wp2
              refine Mid.intro ⟨trivial, Strict.intro rfl ?_⟩
              go_wp2
              go_ret
              exact ⟨rfl, by have := H.out.fr; (repeat (first | exact Fr.refl _ _ | assumption | apply Fr.drewN | apply Fr.drew | apply Fr.alloc | refine Fr.setCell ?_ (Or.inr (by simp; try omega)) _))⟩
      · have HG := Lib.hid hg
        go_wp2_with fail
        refine (Load_calls (s := s) (ns := ns) (by have := HF.out.1; omega) (HV.out.fr (Hf.out.trans0 (by (repeat (first | exact Fr.refl _ _ | assumption | apply Fr.drewN | apply Fr.drew | apply Fr.alloc | refine Fr.setCell ?_ (Or.inr (by simp; try omega)) _)))))).mono ?_
        rintro e w3 ⟨_, hneg⟩
        obtain ⟨rfl, hf⟩ := hneg hg
        have hfk := Fr.trans0 (by (repeat (first | exact Fr.refl _ _ | assumption | apply Fr.drewN | apply Fr.drew | apply Fr.alloc | refine Fr.setCell ?_ (Or.inr (by simp; try omega)) _)) : Fr [] w2 _) hf
        (try clear t0)
        (try clear t1)
        (try clear t2)
        (try clear tl)
        have ht_ := (hfk.block _ (lt_of_block Ht.out) (by simp)).trans Ht.out
        clear Ht
        have t0 := heap_eq_cell ht_ 0
        have t1 := heap_eq_cell ht_ 1
        have t2 := heap_eq_cell ht_ 2
        have tl := lt_of_block ht_
        have Ht := Lib.hid ht_
        clear ht_
        (try clear x0)
        (try clear x1)
        (try clear x2)
        (try clear xl)
        have hx_ := (hfk.block _ (lt_of_block Hx.out) (by simp)).trans Hx.out
        clear Hx
        have x0 := heap_eq_cell hx_ 0
        have x1 := heap_eq_cell hx_ 1
        have x2 := heap_eq_cell hx_ 2
        have xl := lt_of_block hx_
        have Hx := Lib.hid hx_
        clear hx_
        have Hf := Lib.hid (Hf.out.trans0 hfk)
        clear hf hfk hneg
        go_wp2_with fail
        refine (RLoad_calls (s := s) (ns := ns) (by have := HF.out.1; omega) (HV.out.fr (Hf.out.trans0 (by (repeat (first | exact Fr.refl _ _ | assumption | apply Fr.drewN | apply Fr.drew | apply Fr.alloc | refine Fr.setCell ?_ (Or.inr (by simp; try omega)) _)))))).mono ?_
        rintro e w4 ⟨_, hneg⟩
        obtain ⟨rfl, hf⟩ := hneg hg
        have hfk := Fr.trans0 (by (repeat (first | exact Fr.refl _ _ | assumption | apply Fr.drewN | apply Fr.drew | apply Fr.alloc | refine Fr.setCell ?_ (Or.inr (by simp; try omega)) _)) : Fr [] w3 _) hf
        (try clear t0)
        (try clear t1)
        (try clear t2)
        (try clear tl)
        have ht_ := (hfk.block _ (lt_of_block Ht.out) (by simp)).trans Ht.out
        clear Ht
        have t0 := heap_eq_cell ht_ 0
        have t1 := heap_eq_cell ht_ 1
        have t2 := heap_eq_cell ht_ 2
        have tl := lt_of_block ht_
        have Ht := Lib.hid ht_
        clear ht_
        (try clear x0)
        (try clear x1)
        (try clear x2)
        (try clear xl)
        have hx_ := (hfk.block _ (lt_of_block Hx.out) (by simp)).trans Hx.out
        clear Hx
        have x0 := heap_eq_cell hx_ 0
        have x1 := heap_eq_cell hx_ 1
        have x2 := heap_eq_cell hx_ 2
        have xl := lt_of_block hx_
        have Hx := Lib.hid hx_
        clear hx_
        have Hf := Lib.hid (Hf.out.trans0 hfk)
        clear hf hfk hneg hg
        cases hR : rightR r with
        | false =>
          go_wp2_with fail
          refine (MNew_bad (Hru.out.fr (Hf.out.trans0 (by (repeat (first | exact Fr.refl _ _ | assumption | apply Fr.drewN | apply Fr.drew | apply Fr.alloc | refine Fr.setCell ?_ (Or.inr (by simp; try omega)) _))))) HLE.out.1 HLE.out.2 hR _).mono ?_
          rintro e w5 ⟨rfl, hf⟩
          have hfk := Fr.trans0 (by (repeat (first | exact Fr.refl _ _ | assumption | apply Fr.drewN | apply Fr.drew | apply Fr.alloc | refine Fr.setCell ?_ (Or.inr (by simp; try omega)) _)) : Fr [] w4 _) hf
          (try clear t0)
          (try clear t1)
          (try clear t2)
          (try clear tl)
          have ht_ := (hfk.block _ (lt_of_block Ht.out) (by simp)).trans Ht.out
          clear Ht
          have t0 := heap_eq_cell ht_ 0
          have t1 := heap_eq_cell ht_ 1
          have t2 := heap_eq_cell ht_ 2
          have tl := lt_of_block ht_
          have Ht := Lib.hid ht_
          clear ht_
          (try clear x0)
          (try clear x1)
          (try clear x2)
          (try clear xl)
          have hx_ := (hfk.block _ (lt_of_block Hx.out) (by simp)).trans Hx.out
          clear Hx
          have x0 := heap_eq_cell hx_ 0
          have x1 := heap_eq_cell hx_ 1
          have x2 := heap_eq_cell hx_ 2
          have xl := lt_of_block hx_
          have Hx := Lib.hid hx_
          clear hx_
          have Hf := Lib.hid (Hf.out.trans0 hfk)
          clear hf hfk
          go_wp2_with fail
          refine (RMNew_bad (Hru.out.fr (Hf.out.trans0 (by (repeat (first | exact Fr.refl _ _ | assumption | apply Fr.drewN | apply Fr.drew | apply Fr.alloc | refine Fr.setCell ?_ (Or.inr (by simp; try omega)) _))))) HLE.out.1 HLE.out.2 hR _).mono ?_
          rintro e w6 ⟨rfl, hf⟩
          have hfk := Fr.trans0 (by (repeat (first | exact Fr.refl _ _ | assumption | apply Fr.drewN | apply Fr.drew | apply Fr.alloc | refine Fr.setCell ?_ (Or.inr (by simp; try omega)) _)) : Fr [] w5 _) hf
          (try clear t0)
          (try clear t1)
          (try clear t2)
          (try clear tl)
          have ht_ := (hfk.block _ (lt_of_block Ht.out) (by simp)).trans Ht.out
          clear Ht
          have t0 := heap_eq_cell ht_ 0
          have t1 := heap_eq_cell ht_ 1
          have t2 := heap_eq_cell ht_ 2
          have tl := lt_of_block ht_
          have Ht := Lib.hid ht_
          clear ht_
          (try clear x0)
          (try clear x1)
          (try clear x2)
          (try clear xl)
          have hx_ := (hfk.block _ (lt_of_block Hx.out) (by simp)).trans Hx.out
          clear Hx
          have x0 := heap_eq_cell hx_ 0
          have x1 := heap_eq_cell hx_ 1
          have x2 := heap_eq_cell hx_ 2
          have xl := lt_of_block hx_
          have Hx := Lib.hid hx_
          clear hx_
          have Hf := Lib.hid (Hf.out.trans0 hfk)
          clear hf hfk
          go_wp2_with fail
          refine (MMost_nil k).mono ?_
          rintro e w4 ⟨rfl, rfl⟩
          go_wp2_with fail
          refine (RMMost_nil k).mono ?_
          rintro e w4 ⟨rfl, rfl⟩
          go_wp2_with fail
          refine (MStep_nil id k).mono ?_
          rintro e w4 ⟨rfl, rfl⟩
          go_wp2_with fail
          refine (RMStep_nil id k).mono ?_
          rintro e w4 ⟨rfl, rfl⟩
          go_wp2_with fail
          refine LAwake_calls.mono ?_
          rintro e w9 ⟨rfl, hf⟩
          have Hf := Lib.hid (Hf.out.trans0 (Fr.trans0 (by (repeat (first | exact Fr.refl _ _ | assumption | apply Fr.drewN | apply Fr.drew | apply Fr.alloc | refine Fr.setCell ?_ (Or.inr (by simp; try omega)) _))) hf))
          clear hf
          go_wp2
          go_ret
          exact ⟨rfl, by have := Hf.out; (repeat (first | exact Fr.refl _ _ | assumption | apply Fr.drewN | apply Fr.drew | apply Fr.alloc | refine Fr.setCell ?_ (Or.inr (by simp; try omega)) _))⟩
        | true =>
          go_wp2_with fail
          refine (MNew_nil (Hru.out.fr (Hf.out.trans0 (by (repeat (first | exact Fr.refl _ _ | assumption | apply Fr.drewN | apply Fr.drew | apply Fr.alloc | refine Fr.setCell ?_ (Or.inr (by simp; try omega)) _))))) HLE.out.1 HLE.out.2 hR).mono ?_
          rintro e w5 ⟨rfl, hf⟩
          have hfk := Fr.trans0 (by (repeat (first | exact Fr.refl _ _ | assumption | apply Fr.drewN | apply Fr.drew | apply Fr.alloc | refine Fr.setCell ?_ (Or.inr (by simp; try omega)) _)) : Fr [] w4 _) hf
          (try clear t0)
          (try clear t1)
          (try clear t2)
          (try clear tl)
          have ht_ := (hfk.block _ (lt_of_block Ht.out) (by simp)).trans Ht.out
          clear Ht
          have t0 := heap_eq_cell ht_ 0
          have t1 := heap_eq_cell ht_ 1
          have t2 := heap_eq_cell ht_ 2
          have tl := lt_of_block ht_
          have Ht := Lib.hid ht_
          clear ht_
          (try clear x0)
          (try clear x1)
          (try clear x2)
          (try clear xl)
          have hx_ := (hfk.block _ (lt_of_block Hx.out) (by simp)).trans Hx.out
          clear Hx
          have x0 := heap_eq_cell hx_ 0
          have x1 := heap_eq_cell hx_ 1
          have x2 := heap_eq_cell hx_ 2
          have xl := lt_of_block hx_
          have Hx := Lib.hid hx_
          clear hx_
          have Hf := Lib.hid (Hf.out.trans0 hfk)
          clear hf hfk
          go_wp2_with fail
          refine (RMNew_nil (Hru.out.fr (Hf.out.trans0 (by (repeat (first | exact Fr.refl _ _ | assumption | apply Fr.drewN | apply Fr.drew | apply Fr.alloc | refine Fr.setCell ?_ (Or.inr (by simp; try omega)) _))))) HLE.out.1 HLE.out.2 hR).mono ?_
          rintro e w6 ⟨rfl, hf⟩
          have hfk := Fr.trans0 (by (repeat (first | exact Fr.refl _ _ | assumption | apply Fr.drewN | apply Fr.drew | apply Fr.alloc | refine Fr.setCell ?_ (Or.inr (by simp; try omega)) _)) : Fr [] w5 _) hf
          (try clear t0)
          (try clear t1)
          (try clear t2)
          (try clear tl)
          have ht_ := (hfk.block _ (lt_of_block Ht.out) (by simp)).trans Ht.out
          clear Ht
          have t0 := heap_eq_cell ht_ 0
          have t1 := heap_eq_cell ht_ 1
          have t2 := heap_eq_cell ht_ 2
          have tl := lt_of_block ht_
          have Ht := Lib.hid ht_
          clear ht_
          (try clear x0)
          (try clear x1)
          (try clear x2)
          (try clear xl)
          have hx_ := (hfk.block _ (lt_of_block Hx.out) (by simp)).trans Hx.out
          clear Hx
          have x0 := heap_eq_cell hx_ 0
          have x1 := heap_eq_cell hx_ 1
          have x2 := heap_eq_cell hx_ 2
          have xl := lt_of_block hx_
          have Hx := Lib.hid hx_
          clear hx_
          have Hf := Lib.hid (Hf.out.trans0 hfk)
          clear hf hfk
          go_wp2_with fail
          refine (MMost_nil k).mono ?_
          rintro e w4 ⟨rfl, rfl⟩
          go_wp2_with fail
          refine (RMMost_nil k).mono ?_
          rintro e w4 ⟨rfl, rfl⟩
          go_wp2_with fail
          refine (MStep_nil id k).mono ?_
          rintro e w4 ⟨rfl, rfl⟩
          go_wp2_with fail
          refine (RMStep_nil id k).mono ?_
          rintro e w4 ⟨rfl, rfl⟩
          go_wp2_with fail
          refine LAwake_calls.mono ?_
          rintro e w9 ⟨rfl, hf⟩
          have Hf := Lib.hid (Hf.out.trans0 (Fr.trans0 (by (repeat (first | exact Fr.refl _ _ | assumption | apply Fr.drewN | apply Fr.drew | apply Fr.alloc | refine Fr.setCell ?_ (Or.inr (by simp; try omega)) _))) hf))
          clear hf
          go_wp2
          go_ret
          exact ⟨rfl, by have := Hf.out; (repeat (first | exact Fr.refl _ _ | assumption | apply Fr.drewN | apply Fr.drew | apply Fr.alloc | refine Fr.setCell ?_ (Or.inr (by simp; try omega)) _))⟩
end Go.Proofs.Ytppmnmheodimoaa
end
