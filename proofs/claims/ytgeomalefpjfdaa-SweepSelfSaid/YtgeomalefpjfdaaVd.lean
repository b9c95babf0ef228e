/- The reference of Copy. -/
import Derived.Test.YtgeomalefpjfdaaVc
import Derived.Maps.AppendAt
import Derived.Laws.AppendOwnNone
namespace Go.Proofs.Ytgeomalefpjfdaa
open Go Go.RowKit Go.Proofs.Rg Go.Proofs.Mp Go.Proofs.Hp Go.Proofs.Qs
set_option linter.unusedVariables false
theorem append_quads {ops : Array Oper} {rest : List Oper} {o : Oper} {a : Act} {W : World} {Q : Exit → Act → World → Prop} (hgd : o.guard = none) {s x : Operand} (ho : o.op = .call { callee := .builtin .append, args := #[s, x], argTypes := #[22, 22] })
    {base : Nat} {v : Value} {n : Nat} {xs : List Value} (hs : a.eval s = v) (hown : W.ownsRow base 59 4 v n xs) {ad : Option Addr} {c : Nat} {ks : List K4} (hx : a.eval x = .slice ad ks.length c)
    (hr : Reads W (.slice ad ks.length c) ks.length 4 (flat ks)) (hz : ad = none → c = 0) (hn : n + ks.length ≤ 4000000000000) (hbase : base ≤ W.heap.size)
    (h : ∀ v' w', w'.ownsRow base 59 4 v' (n + ks.length) (xs ++ flat ks) → W.grownBy w' v.ownBlock → (v'.ownBlock = v.ownBlock ∨ v'.ownBlock = some W.heap.size) → wpList Try.prog ops Q rest (a.put o.dst v') w') : wpList Try.prog ops Q (o :: rest) a W := by
  obtain ⟨i0, hi0, hi1, hi2, hi3⟩ := info_parts info_quad
  cases ad with
  | none =>
    have hc0 : c = 0 := hz rfl
    subst hc0
    obtain ⟨_, a', c', he, hp⟩ := hr
    cases he
    have h0 : ks.length = 0 := by
      rcases Nat.eq_zero_or_pos ks.length with h | h
      · exact h
      · obtain ⟨g, off, hh, _⟩ := hp h; cases hh
    obtain rfl : ks = [] := List.eq_nil_of_length_eq_zero h0
    refine wpList_append_own_none hgd s x _ ho base _ i0 4 Try.underlying22 hi0 v n xs hs hown hx ?_
    exact h v W (by simpa [flat] using hown) ⟨rfl, rfl, rfl, Nat.le_refl _, fun _ _ _ => rfl⟩ (.inl rfl)
  | some ad =>
    obtain ⟨hl, a', c', he, hp⟩ := hr
    cases he
    rcases Nat.eq_zero_or_pos ks.length with h0 | h0
    · obtain rfl : ks = [] := List.eq_nil_of_length_eq_zero h0
      exact wpList_append_own_at _ hgd s x _ ho base _ i0 _ 4 32 Try.underlying22 hi0 hi1 hi2 hi3 rfl (by decide) v n xs hs hown ad _ c _ hx hl (by simp [flat]) (flat_one _) (by unfold maxLen; omega) (by omega) hbase fun v' w' h1 h2 _ h4 => h v' w' h1 h2 h4
    · obtain ⟨g, off, hh, _, hc⟩ := hp h0
      cases hh
      refine wpList_append_own_at _ hgd s x _ ho base _ i0 _ 4 32 Try.underlying22 hi0 hi1 hi2 hi3 rfl (by decide) v n xs hs hown ⟨g, off, none⟩ _ c _ hx hl (fun j u hj => ?_) (flat_one _) (by unfold maxLen; omega) (by omega) hbase fun v' w' h1 h2 _ h4 => h v' w' h1 h2 h4
      have ha : (⟨g, off, none⟩ : Addr).add j = ⟨g, off + j, none⟩ := by
        unfold Addr.add
        split
        · rename_i h0; rw [h0]; rfl
        · rfl
      rw [ha]; exact hc j u hj
theorem RCopy_result {tmps : Array Value} {b : Nat} {w' : World} {x y u v : Value} (h6 : tmps.getD 6 undef = .pointer (some ⟨b, 0, none⟩)) (hb : w'.heap[b]? = some (.cells #[x, y] 24 (0, 0))) (h7 : tmps.getD 7 undef = u) (h8 : tmps.getD 8 undef = v) :
    (results Try.f21 tmps).run Try.prog w' = .ok (.tuple #[.agg #[x, y], u, v]) w' := by
  rw [results_cell3 rfl, h6]
  simp only [asAddr, Sem.run_pure, Result.andThen]
  rw [run_loadVar_row w' b _ _ _ _ _ hb Try.underlying24 rfl (by kernel_rfl)]
  simp only [h7, h8]
def RCopyPost (w : World) (s t : Int) (ns ms : List K4) (uv : Value) (id : Int) (e : Ending) (w' : World) : Prop :=
  (marks s ns [id] = none → e = .returned (.tuple #[.agg #[.int .i64 t, uv], .int .i64 0, .int .i64 13]) ∧ Fr [] w w') ∧
  ∀ m, marks s ns [id] = some m → (s ≠ t → e = .returned (.tuple #[.agg #[.int .i64 t, uv], .int .i64 0, .int .i64 10]) ∧ Fr [] w w') ∧
    (s = t → ∃ nv, e = .returned (.tuple #[.agg #[.int .i64 s, nv], .int .i64 (geti (cp s ns ms m ns.length).1 id), .int .i64 0]) ∧ w'.ownsRow w.heap.size 59 4 nv (cp s ns ms m ns.length).2.length (flat (cp s ns ms m ns.length).2) ∧ Fr [] w w')
set_option maxHeartbeats 16000000 in
set_option maxRecDepth 100000 in
theorem RCopy_calls {w : World} {s t : Int} {ns ms : List K4} {v uv : Value} (hg : GoodQ s ns) (hg' : GoodQ t ms) (hlen : ms.length + ns.length ≤ 100000) (hv : Reads w v ns.length 4 (flat ns)) (hu : Reads w uv ms.length 4 (flat ms)) (hz : ∀ n c, uv = .slice none n c → c = 0) (id : Int) :
    Calls Try.prog 21 #[.agg #[.int .i64 s, v], .int .i64 id, .agg #[.int .i64 t, uv]] w (RCopyPost w s t ns ms uv id) := by
  have hN : ∀ w1 b, Fr [] w w1 → w1.heap[b]? = some (.cells #[.int .i64 id] 3 (0, 0)) → Calls Try.prog 12 #[.agg #[.int .i64 s, v], .slice (some ⟨b, 0, none⟩) 1 1] w1 (NeedPost w1 s ns [id]) := fun w1 b hf hb => RNeeded_calls hg (hv.fr hf) (reads_blk (cs := [.int .i64 id]) hb rfl) (by simp)
  have HN := Lib.hid hN
  obtain ⟨_, a, c, rfl, hav⟩ := hv
  have hu' := hu
  obtain ⟨_, ua, uc, rfl, _⟩ := hu'
  have Hu := Lib.hid hu
  have hs1 := hg.1
  have hs2 := hg.2.1
  have hln := hg.2.2.1
  have ht1 := hg'.1
  have ht2 := hg'.2.1
  obtain ⟨S, rfl⟩ : ∃ S : Nat, s = S := ⟨s.toNat, by omega⟩
  obtain ⟨T, rfl⟩ : ∃ T : Nat, t = T := ⟨t.toNat, by omega⟩
  have Hg := Lib.hid hg
  have Hg' := Lib.hid hg'
  have Hav := Lib.hid hav
  have Hz := Lib.hid (hz ms.length uc)
  have HLEN := Lib.hid hlen
  clear hg hg' hav hu hN hz hlen
  go_enter Try.func21, Try.ntmps21
  go_wp2_with fail
  refine (HN.out _ _ (by (repeat (first | exact Fr.refl _ _ | assumption | apply Fr.drewN | apply Fr.drew | apply Fr.alloc | refine Fr.setCell ?_ (Or.inr (by simp; try omega)) _))) (by (repeat (first | rw [if_pos (by omega)] | rw [if_neg (by omega)] | rw [hp_drew] | rw [hp_drewN] | rw [hp_alloc_size] | rw [hp_setCell_size] | rw [hp_alloc] | rw [hp_setCell] | rw [Option.map_some] | rw [upd_cells] | rw [List.set_cons_zero] | rw [List.set_cons_succ] | rfl)))).mono ?_
  rintro e w1 ⟨h1, h2⟩
  have H1 := Lib.hid h1
  have H2 := Lib.hid h2
  clear h1 h2
  cases hm : marks S ns [id] with
  | none =>
    obtain ⟨rfl, h2⟩ := H1.out hm
    have hb0 := (h2.block (w.heap.size + 1) (by simp) (by simp)).trans (show _ = some (.cells #[.int .i64 T, .slice ua ms.length uc] 24 (0, 0)) by (repeat (first | rw [if_pos (by omega)] | rw [if_neg (by omega)] | rw [hp_drew] | rw [hp_drewN] | rw [hp_alloc_size] | rw [hp_setCell_size] | rw [hp_alloc] | rw [hp_setCell] | rw [Option.map_some] | rw [upd_cells] | rw [List.set_cons_zero] | rw [List.set_cons_succ] | rfl)))
    have hb1 := (h2.block (w.heap.size + 1 + 1) (by simp) (by simp)).trans (show _ = some (.cells #[.int .i64 0, .slice none 0 0] 24 (0, 0)) by (repeat (first | rw [if_pos (by omega)] | rw [if_neg (by omega)] | rw [hp_drew] | rw [hp_drewN] | rw [hp_alloc_size] | rw [hp_setCell_size] | rw [hp_alloc] | rw [hp_setCell] | rw [Option.map_some] | rw [upd_cells] | rw [List.set_cons_zero] | rw [List.set_cons_succ] | rfl)))
    have hl0 := lt_of_block hb0
    have hl1 := lt_of_block hb1
    have f0 := heap_eq_frozen hb1 0
    have f1 := heap_eq_frozen hb1 1
    have o0 := heap_eq_cell hb0 0
    have o1 := heap_eq_cell hb0 1
    have p0 := heap_eq_cell hb1 0
    have p1 := heap_eq_cell hb1 1
    have Hb0 := Lib.hid hb0
    have Hb1 := Lib.hid hb1
    have Hf := Lib.hid (Fr.trans0 (by (repeat (first | exact Fr.refl _ _ | assumption | apply Fr.drewN | apply Fr.drew | apply Fr.alloc | refine Fr.setCell ?_ (Or.inr (by simp; try omega)) _)) : Fr [] w _) h2)
    have Hm := Lib.hid hm
    clear hb0 hb1 h2 hm
    go_wp2
    (try simp only [Exit.inBlock, Exit.then])
    refine bodyPost_ret (RCopy_result (b := w.heap.size + 1 + 1) (x := .int .i64 T) (y := .slice ua ms.length uc) rfl ?_ rfl rfl) rfl ⟨fun _ => ⟨rfl, ?_⟩, fun m h => (by rw [Hm.out] at h; cases h)⟩
    · have h1 := Hb1.out
      (repeat (first | rw [if_pos (by omega)] | rw [if_neg (by omega)] | rw [hp_drew] | rw [hp_drewN] | rw [hp_alloc_size] | rw [hp_setCell_size] | rw [hp_alloc] | rw [hp_setCell] | rw [Option.map_some] | rw [upd_cells] | rw [List.set_cons_zero] | rw [List.set_cons_succ] | rfl))
      rw [h1]
      (repeat (first | rw [if_pos (by omega)] | rw [if_neg (by omega)] | rw [hp_drew] | rw [hp_drewN] | rw [hp_alloc_size] | rw [hp_setCell_size] | rw [hp_alloc] | rw [hp_setCell] | rw [Option.map_some] | rw [upd_cells] | rw [List.set_cons_zero] | rw [List.set_cons_succ] | rfl))
    · exact (Hf.out.setCell (.inr (by simp; try omega)) _).setCell (.inr (by simp; try omega)) _
  | some m =>
    obtain ⟨lv, rfl, ho2, h2⟩ := H2.out m hm
    have hmk := marks_marked Hg.out hm
    have hml := hmk.len
    have Hmk := Lib.hid hmk
    have Hm := Lib.hid hm
    obtain ⟨N, hN⟩ : ∃ N, N = m.length := ⟨_, rfl⟩
    have HNi := Lib.hid (show (S : Int) + ns.length = N by omega)
    have hNb : N ≤ 200000 := by omega
    have hNp : 0 < N := by omega
    have hSN : S ≤ N := by omega
    have hNt : ((S : Int) + ns.length).toNat = N := by omega
    rw [hNt] at ho2
    have hnll := nl_length m N
    have HNt := Lib.hid hNt
    have HNm := Lib.hid hN
    have hb0 := (h2.block w.heap.size (by simp; omega) (by simp)).trans (show _ = some (.cells #[.int .i64 S, .slice a ns.length c] 24 (0, 0)) by (repeat (first | rw [if_pos (by omega)] | rw [if_neg (by omega)] | rw [hp_drew] | rw [hp_drewN] | rw [hp_alloc_size] | rw [hp_setCell_size] | rw [hp_alloc] | rw [hp_setCell] | rw [Option.map_some] | rw [upd_cells] | rw [List.set_cons_zero] | rw [List.set_cons_succ] | rfl)))
    have hbt := (h2.block (w.heap.size + 1) (by simp) (by simp)).trans (show _ = some (.cells #[.int .i64 T, .slice ua ms.length uc] 24 (0, 0)) by (repeat (first | rw [if_pos (by omega)] | rw [if_neg (by omega)] | rw [hp_drew] | rw [hp_drewN] | rw [hp_alloc_size] | rw [hp_setCell_size] | rw [hp_alloc] | rw [hp_setCell] | rw [Option.map_some] | rw [upd_cells] | rw [List.set_cons_zero] | rw [List.set_cons_succ] | rfl)))
    have hb1 := (h2.block (w.heap.size + 1 + 1) (by simp) (by simp)).trans (show _ = some (.cells #[.int .i64 0, .slice none 0 0] 24 (0, 0)) by (repeat (first | rw [if_pos (by omega)] | rw [if_neg (by omega)] | rw [hp_drew] | rw [hp_drewN] | rw [hp_alloc_size] | rw [hp_setCell_size] | rw [hp_alloc] | rw [hp_setCell] | rw [Option.map_some] | rw [upd_cells] | rw [List.set_cons_zero] | rw [List.set_cons_succ] | rfl)))
    have hl0 := lt_of_block hb0
    have hlt := lt_of_block hbt
    have hl1 := lt_of_block hb1
    have b0 := heap_eq_cell hb0 0
    have b1 := heap_eq_cell hb0 1
    have t0 := heap_eq_cell hbt 0
    have t1 := heap_eq_cell hbt 1
    have Hb0 := Lib.hid hb0
    have Hbt := Lib.hid hbt
    have Hb1 := Lib.hid hb1
    have Hf := Lib.hid (Fr.trans0 (by (repeat (first | exact Fr.refl _ _ | assumption | apply Fr.drewN | apply Fr.drew | apply Fr.alloc | refine Fr.setCell ?_ (Or.inr (by simp; try omega)) _)) : Fr [] w _) h2)
    have Hl := Lib.hid (Reads.of_owns ho2)
    clear hm h2 hmk hml hN ho2 hb0 hb1 hbt H1 H2 hNt
    by_cases hST : S = T
    rotate_left
    · have hne : ((S : Int) != (T : Int)) = true := by simp; omega
      have f0 := heap_eq_frozen Hb1.out 0
      have f1 := heap_eq_frozen Hb1.out 1
      have p0 := heap_eq_cell Hb1.out 0
      have p1 := heap_eq_cell Hb1.out 1
      have HST := Lib.hid hST
      clear hST
      go_wp2
      (try simp only [Exit.inBlock, Exit.then])
      refine bodyPost_ret (RCopy_result (b := w.heap.size + 1 + 1) (x := .int .i64 T) (y := .slice ua ms.length uc) rfl ?_ rfl rfl) rfl ⟨fun h => (by rw [Hm.out] at h; cases h), fun m' h => ⟨fun _ => ⟨rfl, ?_⟩, fun h => absurd h (fun h => HST.out (by omega))⟩⟩
      · have h1 := Hb1.out
        (repeat (first | rw [if_pos (by omega)] | rw [if_neg (by omega)] | rw [hp_drew] | rw [hp_drewN] | rw [hp_alloc_size] | rw [hp_setCell_size] | rw [hp_alloc] | rw [hp_setCell] | rw [Option.map_some] | rw [upd_cells] | rw [List.set_cons_zero] | rw [List.set_cons_succ] | rfl))
        rw [h1]
        (repeat (first | rw [if_pos (by omega)] | rw [if_neg (by omega)] | rw [hp_drew] | rw [hp_drewN] | rw [hp_alloc_size] | rw [hp_setCell_size] | rw [hp_alloc] | rw [hp_setCell] | rw [Option.map_some] | rw [upd_cells] | rw [List.set_cons_zero] | rw [List.set_cons_succ] | rfl))
      · exact (Hf.out.setCell (.inr (by simp; try omega)) _).setCell (.inr (by simp; try omega)) _
    subst hST
    go_wp2_with (refine wpList_make1 rfl (t := 25) (e := 3) (n := N) (z := .int .i64 0) (bytes := 8) rfl (congrArg (Value.int .i64) HNi.out) (congrArg (Value.int .i64) HNi.out) Try.underlying25 info_i64 rfl ?e1 ?e2 ?_)
    case e1 => omega
    case e2 => unfold maxLen; omega
    clear b0 b1 t0 t1
    intro w3 ho3 hf3 hsz3
    have hb3 := (hf3.block _ hl0 (by simp)).trans Hb0.out
    have hbt3 := (hf3.block _ hlt (by simp)).trans Hbt.out
    have b0 := heap_eq_cell hb3 0
    have t0 := heap_eq_cell hbt3 0
    have t1 := heap_eq_cell hbt3 1
    have hb3l := lt_of_block hb3
    have hbt3l := lt_of_block hbt3
    have Ho3 := Lib.hid ho3
    have Hf3 := Lib.hid hf3
    clear ho3 hf3 hb3 hbt3
    go_wp2_with (at_builtin; refine append_quads (ks := ms) (ad := ua) (c := uc) (n := 0) (base := w3.heap.size + 1) (xs := []) rfl rfl rfl ?e1 rfl ?e2 ?e3 ?e4 ?e5 ?_)
    case e1 => exact World.ownsRow_nil _ _ _ _
    case e2 =>
      have h1 := Hf.out
      have h3 := Hf3.out
      refine Hu.out.fr ?_
      refine h1.trans0 ?_
      (repeat (first | exact Fr.refl _ _ | assumption | apply Fr.drewN | apply Fr.drew | apply Fr.alloc | refine Fr.setCell ?_ (Or.inr (by simp; try omega)) _))
    case e3 => exact fun h => Hz.out (by rw [h])
    case e4 => have := HLEN.out; omega
    case e5 => (rw [hp_alloc_size]; omega)
    intro v0 w4 hown4 hgr4 hloc4
    try simp only [Nat.zero_add, List.nil_append] at hown4
    have hsz4 : w3.heap.size + 1 ≤ w4.heap.size := by have := hgr4.size; simpa using this
    have hq4 : w4.heap[w3.heap.size]? = some (.cells #[.int .i64 S, .slice none 0 0] 24 (0, 0)) := (hgr4.block _ (by simp; try omega) (by simp [Value.ownBlock])).trans (by (repeat (first | rw [if_pos (by omega)] | rw [if_neg (by omega)] | rw [hp_drew] | rw [hp_drewN] | rw [hp_alloc_size] | rw [hp_setCell_size] | rw [hp_alloc] | rw [hp_setCell] | rw [Option.map_some] | rw [upd_cells] | rw [List.set_cons_zero] | rw [List.set_cons_succ] | rfl)))
    have hf34 : Fr [] w3 w4 := Fr.grown (F := []) (by (repeat (first | exact Fr.refl _ _ | assumption | apply Fr.drewN | apply Fr.drew | apply Fr.alloc | refine Fr.setCell ?_ (Or.inr (by simp; try omega)) _))) hgr4 (by simp [Value.ownBlock])
    have hq0 := heap_eq_cell hq4 0
    have hq1 := heap_eq_cell hq4 1
    have hqz := heap_eq_frozen hq4 1
    have hql := lt_of_block hq4
    obtain ⟨va0, vc0, rfl, _, _⟩ := owns_form hown4
    have Hown4 := Lib.hid hown4
    have Hq4 := Lib.hid hq4
    have Hf34 := Lib.hid hf34
    clear hown4 hgr4 hloc4 hq4 hf34 b0 t0 t1 hb3l hbt3l
    obtain ⟨l, hl⟩ : ∃ l, l = nl m N := ⟨_, rfl⟩
    have hmem : ∀ x ∈ l, 0 ≤ x ∧ x < N := fun x hx => by rw [hl] at hx; have := nl_mem hx; omega
    have Hmem := Lib.hid hmem
    rw [← hl] at Hl hnll
    obtain ⟨_, la, lc, rfl, hla⟩ := Hl.out
    have Hla := Lib.hid hla
    have Hle := Lib.hid hl
    clear hl hmem hla
    have hR0 : rc S ns ms (l.take 0) = (List.replicate N 0, ms) := by rw [List.take_zero]; show (List.replicate ((S : Int) + ns.length).toNat 0, ms) = _; rw [HNt.out]
    have HR0 := Lib.hid hR0
    clear hR0
    go_wp2_with fail
    clear hq0 hq1 hqz hql
    have hlen := HLEN.out
    go_loopw [13] (fun x wl => ∃ (k : Nat) (nv : Value), x = .int .i64 k ∧ k ≤ l.length ∧ wl.ownsRow w1.heap.size 3 1 (.slice (some ⟨w1.heap.size, 0, none⟩) N N) N (i64s (rc S ns ms (l.take k)).1) ∧
        wl.heap[w3.heap.size]? = some (.cells #[.int .i64 S, nv] 24 (0, 0)) ∧ wl.ownsRow (w3.heap.size + 1) 59 4 nv (rc S ns ms (l.take k)).2.length (flat (rc S ns ms (l.take k)).2) ∧ Fr [] w1 wl) (fun x _ => l.length - (intOf x).toNat)
    case atStart =>
      have ho := Ho3.out
      have hf := Hf3.out
      have h34 := Hf34.out
      have hn := Hown4.out
      have hq := Hq4.out
      refine ⟨0, .slice va0 ms.length vc0, rfl, by omega, ?_, (by (repeat (first | rw [if_pos (by omega)] | rw [if_neg (by omega)] | rw [hp_drew] | rw [hp_drewN] | rw [hp_alloc_size] | rw [hp_setCell_size] | rw [hp_alloc] | rw [hp_setCell] | rw [Option.map_some] | rw [upd_cells] | rw [List.set_cons_zero] | rw [List.set_cons_succ] | rfl)); rw [hq]; (repeat (first | rw [if_pos (by omega)] | rw [if_neg (by omega)] | rw [hp_drew] | rw [hp_drewN] | rw [hp_alloc_size] | rw [hp_setCell_size] | rw [hp_alloc] | rw [hp_setCell] | rw [Option.map_some] | rw [upd_cells] | rw [List.set_cons_zero] | rw [List.set_cons_succ] | rfl))), ?_, (hf.trans0 h34).setCell (.inr (by simp; try omega)) _⟩
      · rw [HR0.out]
        simp only [i64s, List.map_replicate]
        refine owns_of_block ho fun y hy => ?_
        have hyl := owns_lt ho hy
        rw [setCell_else _ _ _ (by simp; try omega)]
        exact h34.block y hyl (by simp)
      · rw [HR0.out]
        refine owns_of_block hn fun y hy => ?_
        have hyl := owns_ge hn hy
        rw [setCell_else _ _ _ (by simp; try omega)]
    case round =>
      obtain ⟨k, nv, rfl, hk, ho, hb, hn, hf⟩ := hrel
      have hb5 := (hf.block _ hl0 (by simp)).trans Hb0.out
      have b0 := heap_eq_cell hb5 0
      have b1 := heap_eq_cell hb5 1
      have hb5l := lt_of_block hb5
      have hob := lt_of_block hb
      have hol := owns_lt ho rfl
      have q0 := heap_eq_cell hb 0
      have q1 := heap_eq_cell hb 1
      obtain ⟨na, nc, rfl, _, _⟩ := owns_form hn
      obtain ⟨hrl1, hrl2⟩ := rc_len S ns ms (l.take k)
      by_cases hlt : k < l.length
      · obtain ⟨gl, offl, rfl, hgl, hcl⟩ := Hla.out (by omega)
        obtain ⟨r, hr⟩ : ∃ r, l[k]? = some r := ⟨_, List.getElem?_eq_getElem hlt⟩
        have hrm := Hmem.out r (List.mem_of_getElem? hr)
        obtain ⟨R, rfl⟩ : ∃ R : Nat, r = R := ⟨r.toNat, by omega⟩
        have hRN : R < N := by omega
        have e1 := (hf.cell (p := ⟨gl, offl + k, none⟩) hgl (by simp)).trans (hcl k (.int .i64 R) (by rw [i64s, List.getElem?_map, hr]; rfl))
        have hglr : gl < wr.heap.size := by have := hf.size; omega
        have hsn : rc S ns ms (l.take (k + 1)) = rcStep S ns (rc S ns ms (l.take k)) R := by rw [List.take_add_one, hr]; exact rc_snoc _ _ _ _ _
        generalize rc S ns ms (l.take k) = st at *
        obtain ⟨t, out⟩ := st
        simp only at *
        have htl : t.length = N := by rw [hrl1]; exact HNt.out
        have hout : out.length ≤ 400000 := by have h1 := List.length_take_le k l; simp only [List.length_take] at hrl2 h1; omega
        have hcz := owns_cell ho rfl (i64s_get (t := t) (n := R) (by omega))
        have hz := owns_frozen ho rfl R
        have Hsn := Lib.hid hsn
        have Ho5 := Lib.hid ho
        have Hb5 := Lib.hid hb
        have Hn5 := Lib.hid hn
        have Hf5 := Lib.hid hf
        have Htl := Lib.hid htl
        have HLEN2 := Lib.hid hlen
        clear hsn ho hb hn hf hcl hr hrm hb5 htl hrl1 hlen
        by_cases hleaf : R < S
        · go_wp2
          go_roundw
          case rel =>
            refine ⟨k + 1, .slice na out.length nc, by go_num, by omega, ?_⟩
            rw [Hsn.out]
            unfold rcStep
            rw [if_pos (by omega)]
            have ho := Ho5.out
            have hf := Hf5.out
            refine ⟨by rw [i64s_seti, show ((R : Int)).toNat = R from rfl]; exact owns_set ho rfl (by rw [ho.1]; omega) _, (setCell_else _ _ _ (by simp; omega)).trans Hb5.out, owns_of_block Hn5.out fun y hy => setCell_else _ _ _ (by have := owns_ge Hn5.out hy; simp; omega), hf.setCell (.inr (by simp)) _⟩
          case measure => simp [intOf]; omega
        · obtain ⟨i, rfl⟩ : ∃ i, R = S + i := ⟨R - S, by omega⟩
          have hin : i < ns.length := by have := HNi.out; omega
          obtain ⟨x, hx⟩ : ∃ x, ns[i]? = some x := ⟨_, List.getElem?_eq_getElem hin⟩
          obtain ⟨g, off, rfl, hg, hc⟩ := Hav.out (by omega)
          obtain ⟨f0, f1, f2, f3⟩ := flat_get hx
          rw [Nat.mul_comm] at f0 f1 f2 f3
          have hfw : Fr [] w wr := Hf.out.trans0 Hf5.out
          have hgw : ∀ j, wr.cell? ⟨g, off + j, none⟩ = w.cell? ⟨g, off + j, none⟩ := fun j => hfw.cell (p := ⟨g, off + j, none⟩) hg (by simp)
          have n0 := (hgw _).trans (hc _ _ f0)
          have n1 := (hgw _).trans (hc _ _ f1)
          have n2 := (hgw _).trans (hc _ _ f2)
          have n3 := (hgw _).trans (hc _ _ f3)
          simp only [← Nat.add_assoc] at n1 n2 n3
          have hgr : g < wr.heap.size := by have := hfw.size; omega
          have Hx := Lib.hid hx
          have hkids := good_kids Hg.out hx
          clear hx hc f0 f1 f2 f3 hgw hfw
          go_wp2_with fail
          obtain ⟨W4, hW4⟩ : ∃ W, W = wr.setCell ⟨w1.heap.size, S + i, none⟩ (.int .i64 ((S : Int) + i)) := ⟨_, rfl⟩
          rw [← hW4]
          obtain ⟨t1, ht1⟩ : ∃ t1, t1 = seti t ((S : Int) + i) ((S : Int) + i) := ⟨_, rfl⟩
          have hs4 : W4.heap.size = wr.heap.size := by rw [hW4, hp_setCell_size]
          have ho6 : W4.ownsRow w1.heap.size 3 1 (.slice (some ⟨w1.heap.size, 0, none⟩) N N) N (i64s t1) := by
            have h1 := owns_set Ho5.out rfl (j := S + i) (by rw [Ho5.out.1]; omega) (.int .i64 ((S : Int) + i))
            rw [hW4, ht1, i64s_seti, show ((S : Int) + i).toNat = S + i by omega]
            exact h1
          have hf6 : Fr [] w1 W4 := by rw [hW4]; exact Hf5.out.setCell (.inr (by simp)) _
          have hb6 : W4.heap[w3.heap.size]? = some (.cells #[.int .i64 S, .slice na out.length nc] 24 (0, 0)) := by
            rw [hW4]; exact (setCell_else _ _ _ (by simp; omega)).trans Hb5.out
          have hn6 : W4.ownsRow (w3.heap.size + 1) 59 4 (.slice na out.length nc) out.length (flat out) := by
            rw [hW4]; exact owns_of_block Hn5.out fun y hy => setCell_else _ _ _ (by have := owns_ge Hn5.out hy; simp; omega)
          have Ho6 := Lib.hid ho6
          have Hf6 := Lib.hid hf6
          have Hb6 := Lib.hid hb6
          have Hn6 := Lib.hid hn6
          have Hs4 := Lib.hid hs4
          have Ht1 := Lib.hid ht1
          have Hkids := Lib.hid hkids
          have hob4 : w3.heap.size < W4.heap.size := lt_of_block hb6
          have hol4 : w1.heap.size < W4.heap.size := owns_lt ho6 rfl
          clear hW4 ht1 ho6 hf6 hb6 hn6 hs4 hkids n0 n1 n2 n3 e1 b0 b1 q0 q1 hcz hz
          obtain ⟨xb, hxb⟩ : ∃ xb, xb = wr.heap.size := ⟨_, rfl⟩
          have Hxb := Lib.hid hxb
          rw [← hxb]
          clear hxb
          obtain ⟨⟨ka0, ka1⟩, ⟨kb0, kb1⟩, ⟨kc0, kc1⟩, ⟨kd0, kd1⟩⟩ := Hkids.out
          have ht1l : t1.length = N := by rw [Ht1.out, seti_length]; exact Htl.out
          obtain ⟨ka, kb, kc, kd⟩ := x
          simp only at ka0 ka1 kb0 kb1 kc0 kc1 kd0 kd1
          obtain ⟨ka, rfl⟩ : ∃ n : Nat, ka = n := ⟨ka.toNat, by omega⟩
          obtain ⟨kb, rfl⟩ : ∃ n : Nat, kb = n := ⟨kb.toNat, by omega⟩
          obtain ⟨kc, rfl⟩ : ∃ n : Nat, kc = n := ⟨kc.toNat, by omega⟩
          obtain ⟨kd, rfl⟩ : ∃ n : Nat, kd = n := ⟨kd.toNat, by omega⟩
          have hka : ka < N := by omega
          have hkb : kb < N := by omega
          have hkc : kc < N := by omega
          have hkd : kd < N := by omega
          have c0 := owns_cell Ho6.out rfl (i64s_get (t := t1) (n := ka) (by omega))
          have c1 := owns_cell Ho6.out rfl (i64s_get (t := t1) (n := kb) (by omega))
          have c2 := owns_cell Ho6.out rfl (i64s_get (t := t1) (n := kc) (by omega))
          have c3 := owns_cell Ho6.out rfl (i64s_get (t := t1) (n := kd) (by omega))
          have hr : ren t1 ⟨ka, kb, kc, kd⟩ = ⟨geti t1 ka, geti t1 kb, geti t1 kc, geti t1 kd⟩ := rfl
          have Hren := Lib.hid hr
          clear hr
          generalize geti t1 ka = va at *
          generalize geti t1 kb = vb at *
          generalize geti t1 kc = vc at *
          generalize geti t1 kd = vd at *
          have C0 := Lib.hid c0
          have C1 := Lib.hid c1
          have C2 := Lib.hid c2
          have C3 := Lib.hid c3
          clear c0 c1 c2 c3
          go_loopw [16] (fun x wl => ∃ (j : Nat), x = .int .i64 j ∧ j ≤ 4 ∧ wl.heap[xb]? = some (.cells (rj ⟨ka, kb, kc, kd⟩ ⟨va, vb, vc, vd⟩ j) 59 (0, 0)) ∧ Fr [] W4 wl) (fun x _ => 4 - (intOf x).toNat)
          case atStart => exact ⟨0, rfl, by omega, by rw [hp_alloc, if_pos (by rw [Hxb.out, Hs4.out])]; rfl, by (repeat (first | exact Fr.refl _ _ | assumption | apply Fr.drewN | apply Fr.drew | apply Fr.alloc | refine Fr.setCell ?_ (Or.inr (by simp; try omega)) _))⟩
          case round =>
            obtain ⟨j, rfl, hj, hbx, hfx⟩ := hrel
            have e0 := (hfx.cell (p := ⟨w1.heap.size, ka, none⟩) hol4 (by simp)).trans C0.out
            have e1 := (hfx.cell (p := ⟨w1.heap.size, kb, none⟩) hol4 (by simp)).trans C1.out
            have e2 := (hfx.cell (p := ⟨w1.heap.size, kc, none⟩) hol4 (by simp)).trans C2.out
            have e3 := (hfx.cell (p := ⟨w1.heap.size, kd, none⟩) hol4 (by simp)).trans C3.out
            have hol5 : w1.heap.size < wr.heap.size := by have := hfx.size; omega
            have hxl := lt_of_block hbx
            have Hfx := Lib.hid hfx
            clear hfx
            have hj5 : j = 0 ∨ j = 1 ∨ j = 2 ∨ j = 3 ∨ j = 4 := by omega
            rcases hj5 with rfl | rfl | rfl | rfl | rfl
            all_goals
              simp only [rj] at hbx
              have d0 := heap_eq_cell hbx 0
              have d1 := heap_eq_cell hbx 1
              have d2 := heap_eq_cell hbx 2
              have d3 := heap_eq_cell hbx 3
              have y0 := heap_eq_frozen hbx 0
              have y1 := heap_eq_frozen hbx 1
              have y2 := heap_eq_frozen hbx 2
              have y3 := heap_eq_frozen hbx 3
              have Hbx := Lib.hid hbx
              clear hbx
            rotate_right
            · have hf7 : Fr [] w1 wr := Hf6.out.trans0 Hfx.out
              have ho7 := owns_of_block Ho6.out fun y hy => Hfx.out.block y (owns_lt Ho6.out hy) (by simp)
              have hn7 := owns_of_block Hn6.out fun y hy => Hfx.out.block y (owns_lt Hn6.out hy) (by simp)
              have hb7 := (Hfx.out.block _ hob4 (by simp)).trans Hb6.out
              have q0 := heap_eq_cell hb7 0
              have q1 := heap_eq_cell hb7 1
              have hob7 := lt_of_block hb7
              have hfind := fun w6 (hf6 : Fr [] wr w6) => find_calls (w := w6) (S := S) (ns := out) (v := .slice na out.length nc) ⟨va, vb, vc, vd⟩ (by omega) (by omega) ((Reads.of_owns hn7).fr hf6)
              have hfn : findN S out ⟨va, vb, vc, vd⟩ = match out.idxOf? ⟨va, vb, vc, vd⟩ with
                | some o => (S : Int) + (o : Nat)
                | none => -1 := rfl
              have hol7 : ∀ o, out.idxOf? ⟨va, vb, vc, vd⟩ = some o → o < out.length := fun o h => by rw [List.idxOf?_eq_some_iff] at h; exact h.1
              have Hf7 := Lib.hid hf7
              have Ho7 := Lib.hid ho7
              have Hn7 := Lib.hid hn7
              have Hb7 := Lib.hid hb7
              have Hol7 := Lib.hid hol7
              have hxw : w1.heap.size < xb := by rw [Hxb.out, ← Hs4.out]; exact hol4
              have hox : w3.heap.size < xb := by rw [Hxb.out, ← Hs4.out]; exact hob4
              clear hf7 ho7 hn7 hb7 hol7 e0 e1 e2 e3 y0 y1 y2 y3
              generalize findN S out ⟨va, vb, vc, vd⟩ = fn at *
              generalize hio : out.idxOf? ⟨va, vb, vc, vd⟩ = io at *
              have Hfn := Lib.hid hfn
              have Hio := Lib.hid hio
              have Hfind := Lib.hid hfind
              clear hfn hio hfind
              go_wp2_with fail
              refine (Hfind.out _ (by (repeat (first | exact Fr.refl _ _ | assumption | apply Fr.drewN | apply Fr.drew | apply Fr.alloc | refine Fr.setCell ?_ (Or.inr (by simp; try omega)) _)))).mono ?_
              rintro e w6 ⟨rfl, hf6⟩
              have hf6' : Fr [] wr w6 := Fr.trans0 (by (repeat (first | exact Fr.refl _ _ | assumption | apply Fr.drewN | apply Fr.drew | apply Fr.alloc | refine Fr.setCell ?_ (Or.inr (by simp; try omega)) _))) hf6
              have hbx6 := (hf6'.block _ hxl (by simp)).trans Hbx.out
              have ho8 := owns_of_block Ho7.out fun z hz => hf6'.block z (owns_lt Ho7.out hz) (by simp)
              have hn8 := owns_of_block Hn7.out fun z hz => hf6'.block z (owns_lt Hn7.out hz) (by simp)
              have hb8 := (hf6'.block _ hob7 (by simp)).trans Hb7.out
              have hf8 : Fr [] w1 w6 := Hf7.out.trans0 hf6'
              have d0 := heap_eq_cell hbx6 0
              have d1 := heap_eq_cell hbx6 1
              have d2 := heap_eq_cell hbx6 2
              have d3 := heap_eq_cell hbx6 3
              have hxl6 := lt_of_block hbx6
              have q0 := heap_eq_cell hb8 0
              have q1 := heap_eq_cell hb8 1
              have hob8 := lt_of_block hb8
              have hol8 : w1.heap.size < w6.heap.size := owns_lt ho8 rfl
              have hcz := owns_cell ho8 rfl (i64s_get (t := t1) (n := S + i) (by omega))
              have hz := owns_frozen ho8 rfl (S + i)
              have hset := fun v => owns_set ho8 rfl (j := S + i) (by rw [ho8.1]; omega) v
              have Hset := Lib.hid hset
              have Hf8 := Lib.hid hf8
              have Ho8 := Lib.hid ho8
              have Hn8 := Lib.hid hn8
              have Hb8 := Lib.hid hb8
              clear hf6 hf6' hbx6 ho8 hn8 hb8 hf8 hset
              generalize geti t1 ((S + i : Nat) : Int) = gg at *
              cases io with
              | some o =>
                have hfo : fn = (S : Int) + (o : Nat) := Hfn.out
                subst hfo
                have hol9 := Hol7.out o rfl
                have hdn : decide ((S : Int) + (o : Nat) < 0) = false := by simp; omega
                go_wp2
                go_roundw
                case rel =>
                  refine ⟨k + 1, .slice na out.length nc, by go_num, by omega, ?_⟩
                  rw [Hsn.out]
                  unfold rcStep
                  rw [show ((S + i : Nat) : Int) = (S : Int) + i by omega, if_neg (by omega), show ((S : Int) + i - S).toNat = i by omega, Hx.out]
                  simp only [← Ht1.out]
                  rw [Hren.out, Hio.out]
                  simp only
                  refine ⟨by rw [i64s_seti, show ((S : Int) + i).toNat = S + i by omega]; exact Hset.out _, ?_, owns_of_block Hn8.out fun z hz => setCell_else _ _ _ (by have := owns_ge Hn8.out hz; simp; omega), Hf8.out.setCell (.inr (by simp)) _⟩
                  exact (setCell_else _ _ _ (by simp; omega)).trans Hb8.out
                case measure => simp [intOf]; omega
              | none =>
                have hfo : fn = -1 := Hfn.out
                subst hfo
                go_wp2_with (at_builtin; refine append_quad (k := ⟨va, vb, vc, vd⟩) (n := out.length) (base := w3.heap.size + 1) (xs := flat out) rfl rfl rfl ?e1 rfl ?e2 ?e3 ?e4 ?_)
                case e1 =>
                  refine owns_of_block Hn8.out fun z hz => ?_
                  have h1 := owns_lt Hn8.out hz
                  have h2 := owns_ge Hn8.out hz
                  rw [heap_alloc_else _ _ _ (by first | exact h1 | (simp only [hp_setCell_size]; exact h1)), setCell_else _ _ _ (by first | omega | (simp; omega)), setCell_else _ _ _ (by first | omega | (simp; omega))]
                case e2 => exact (Array.getElem?_eq_some_iff.1 ((hp_alloc _ _ _).trans (if_pos (by simp only [hp_setCell_size])))).2
                case e3 => omega
                case e4 => (first | omega | (rw [hp_alloc_size]; omega) | (simp only [hp_alloc_size, hp_setCell_size]; omega))
                intro g' cap w9 hown9 hW9 hF9 hloc9 hg9
                have hne : ∀ z, (Value.slice na out.length nc).ownBlock = some z → w3.heap.size + 1 ≤ z := fun z hz => owns_ge Hn8.out hz
                have old : ∀ z, z < w3.heap.size + 1 → w9.heap[z]? = ((w6.setCell ⟨w1.heap.size, S + i, none⟩ (.int .i64 (-1))).setCell ⟨w1.heap.size, S + i, none⟩ (.int .i64 ((S : Int) + out.length))).heap[z]? := fun z hz => (hW9 z (by first | omega | (simp; omega)) (fun e => by have := hne z e; omega)).trans (heap_alloc_else _ _ _ (by simp only [hp_setCell_size]; omega))
                have hb9 := (old w3.heap.size (by omega)).trans (((setCell_else _ _ _ (by first | omega | (simp; omega))).trans (setCell_else _ _ _ (by first | omega | (simp; omega)))).trans Hb8.out)
                have o0 := heap_eq_cell hb9 0
                have o1 := heap_eq_cell hb9 1
                have p1 := heap_eq_frozen hb9 1
                have hb9l := lt_of_block hb9
                have hset2 := owns_set (Hset.out (.int .i64 (-1))) rfl (j := S + i) (by rw [List.length_set, Ho8.out.1]; omega) (.int .i64 ((S : Int) + out.length))
                rw [List.set_set] at hset2
                have Ho9 := Lib.hid (owns_of_block hset2 fun z hz => old z (by
                  have : w1.heap.size = z := by simpa [Value.ownBlock] using hz
                  omega))
                have Hb9 := Lib.hid hb9
                have Hown9 := Lib.hid hown9
                have Hf9 := Lib.hid ((((Hf8.out.setCell (.inr (by simp)) _).setCell (.inr (by simp)) _).alloc _).trans hF9 fun z hz => .inr (by have := hne z (by simpa using hz); omega))
                clear hown9 hW9 hF9 hloc9 hne old hb9 hset2
                go_wp2
                go_roundw
                case rel =>
                  have hG : w3.heap.size + 1 ≤ g' := owns_ge Hown9.out rfl
                  refine ⟨k + 1, .slice (some ⟨g', 0, none⟩) (out.length + 1) cap, by go_num, by omega, ?_⟩
                  rw [Hsn.out]
                  unfold rcStep
                  rw [show ((S + i : Nat) : Int) = (S : Int) + i by omega, if_neg (by omega), show ((S : Int) + i - S).toNat = i by omega, Hx.out]
                  simp only [← Ht1.out]
                  rw [Hren.out, Hio.out]
                  simp only [List.length_append, List.length_cons, List.length_nil, flat_snoc]
                  refine ⟨owns_of_block (by rw [i64s_seti, show ((S : Int) + i).toNat = S + i by omega]; exact Ho9.out) fun z hz => ?_, ?_, owns_of_block Hown9.out fun z hz => ?_, Hf9.out.setCell (.inr (by simp; omega)) _⟩
                  · have : w1.heap.size = z := by simpa [Value.ownBlock] using hz
                    rw [hp_setCell, if_neg (by omega)]
                  · rw [hp_setCell, if_pos rfl, Hb9.out]; rfl
                  · have : g' = z := by simpa [Value.ownBlock] using hz
                    rw [hp_setCell, if_neg (by omega)]
                case measure => simp [intOf]; omega
            all_goals go_wp2
            all_goals go_roundw
            any_goals (case measure => simp [intOf])
            · exact ⟨1, by go_num, by omega, by rw [heap_setCell_here Hbx.out]; rfl, Hfx.out.setCell (.inr (by have := Hxb.out; have := Hs4.out; simp; omega)) _⟩
            · exact ⟨2, by go_num, by omega, by rw [heap_setCell_here Hbx.out]; rfl, Hfx.out.setCell (.inr (by have := Hxb.out; have := Hs4.out; simp; omega)) _⟩
            · exact ⟨3, by go_num, by omega, by rw [heap_setCell_here Hbx.out]; rfl, Hfx.out.setCell (.inr (by have := Hxb.out; have := Hs4.out; simp; omega)) _⟩
            · exact ⟨4, by go_num, by omega, by rw [heap_setCell_here Hbx.out]; rfl, Hfx.out.setCell (.inr (by have := Hxb.out; have := Hs4.out; simp; omega)) _⟩
      · obtain rfl : k = l.length := by omega
        rw [List.take_length] at ho hn hrl1 hrl2
        try rw [List.take_length] at hb
        try rw [List.take_length]
        obtain ⟨hrw1, hrw2⟩ := rc_cp (ms := ms) Hg.out (fun i k j h1 h2 h3 => Hmk.out.down i k j h1 h2 h3) ns.length (Nat.le_refl _)
        have hlN : l = nl m (S + ns.length) := by rw [Hle.out, show N = S + ns.length by have := HNi.out; omega]
        rw [show ((S : Int)).toNat = S from rfl, ← hlN] at hrw1 hrw2
        have hkn := Hmk.out.root id (by simp)
        obtain ⟨I, rfl⟩ : ∃ I : Nat, id = I := ⟨id.toNat, by have := hkn.1.1; omega⟩
        have hIN : I < N := by have := hkn.1.2; have := HNi.out; omega
        have hoM := hrw2 I (by omega) (by have := hkn.1.2; omega) hkn.2
        have hcl := (cp_len S ns ms m ns.length).2.1
        rw [← hrw1] at hcl
        clear q0 q1
        generalize rc S ns ms l = st at *
        obtain ⟨t, out⟩ := st
        simp only at *
        have htl : t.length = N := by rw [hrl1]; exact HNt.out
        have q0 := heap_eq_cell hb 0
        have q1 := heap_eq_cell hb 1
        have hcz := owns_cell ho rfl (i64s_get (t := t) (n := I) (by omega))
        have hbr := (hf.block _ hl1 (by simp)).trans Hb1.out
        have f0 := heap_eq_frozen hbr 0
        have f1 := heap_eq_frozen hbr 1
        have o0 := heap_eq_cell hbr 0
        have o1 := heap_eq_cell hbr 1
        have hlr2 := lt_of_block hbr
        have hout : out.length ≤ 100000 := by omega
        have hdo : decide ((100000 : Int) < ↑out.length) = false := by simp; omega
        have Hbr2 := Lib.hid hbr
        have HoM := Lib.hid hoM
        have Hrw1 := Lib.hid hrw1
        have Ho5 := Lib.hid ho
        have Hn5 := Lib.hid hn
        have Hf5 := Lib.hid (Hf.out.trans0 hf)
        have hw := hf.size
        clear ho hb hn hf hb5 hrl1 hrl2 hrw1 hrw2 hlN hoM htl hbr hkn hlen hcl hout
        generalize geti t (I : Int) = y at *
        have hIl : (I : Int) < N := by omega
        go_wp2
        refine wp_region_segs [([0, 1, 2, 3, 4, 5], [4]), ([6, 7], [])] (by kernel_rfl) (by kernel_rfl) ?_
        (simp only [wpSegs, pick, Array.getD_eq_getD_getElem?, List.getElem?_toArray, List.getElem?_cons_succ, List.getElem?_cons_zero, Option.getD_some])
        go_wp2
        refine Mid.intro ⟨⟨again_cell (T := 3) rfl rfl rfl Try.underlying3 rfl (v := .int .i64 y) ((World.cell?_of_block (w := wr) (by simp only [hp_drew]; rw [setCell_else _ _ _ (by simp; omega), setCell_else _ _ _ (by simp; omega)])).trans hcz) rfl, trivial⟩, ?_⟩
        go_wp2
        refine Mid.intro ⟨trivial, Strict.intro rfl ?_⟩
        go_wp2
        (try simp only [Exit.inBlock, Exit.then])
        refine bodyPost_ret (RCopy_result (b := w.heap.size + 1 + 1) (x := .int .i64 S) (y := .slice na out.length nc) rfl ?_ rfl rfl) rfl ⟨fun h => (by rw [Hm.out] at h; cases h), fun m' h => ⟨fun h => absurd rfl h, fun _ => ?_⟩⟩
        · have h1 := Hbr2.out
          (repeat (first | rw [if_pos (by omega)] | rw [if_neg (by omega)] | rw [hp_drew] | rw [hp_drewN] | rw [hp_alloc_size] | rw [hp_setCell_size] | rw [hp_alloc] | rw [hp_setCell] | rw [Option.map_some] | rw [upd_cells] | rw [List.set_cons_zero] | rw [List.set_cons_succ] | rfl))
          rw [h1]
          (repeat (first | rw [if_pos (by omega)] | rw [if_neg (by omega)] | rw [hp_drew] | rw [hp_drewN] | rw [hp_alloc_size] | rw [hp_setCell_size] | rw [hp_alloc] | rw [hp_setCell] | rw [Option.map_some] | rw [upd_cells] | rw [List.set_cons_zero] | rw [List.set_cons_succ] | rfl))
        · rw [Hm.out] at h
          cases h
          rw [← HoM.out, ← Hrw1.out]
          have hw2 := Hf.out.size
          have hn := Hn5.out
          have hf := Hf5.out
          refine ⟨_, rfl, owns_base (owns_of_block hn fun z hz => ?_) (by omega), ?_⟩
          · have := owns_ge hn hz
            simp only [hp_drew]
            rw [setCell_else _ _ _ (by simp; omega), setCell_else _ _ _ (by simp; omega)]
            try rfl
          · exact ((hf.drew.setCell (.inr (by simp; try omega)) _).setCell (.inr (by simp; try omega)) _)
end Go.Proofs.Ytgeomalefpjfdaa
