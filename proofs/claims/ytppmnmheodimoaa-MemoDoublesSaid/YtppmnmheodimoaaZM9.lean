/- Own texts of this claim, part 10: no condition. -/
import Derived.LoopN
import Derived.Lib.Hide
import Derived.Test.YtppmnmheodimoaaZM8
section
/- Join of a store of package quad. -/
namespace Go.Proofs.Ytppmnmheodimoaa
set_option linter.unusedVariables false
set_option linter.unusedSimpArgs false
open Go Go.RowKit Go.Proofs.Rg Go.Proofs.Mp Go.Proofs.Hp Go.Proofs.Qs
theorem find_hit {s : Int} {ns : List K4} {k : K4} {i : Nat} (h : ns.idxOf? k = some i) : get? (pairs s ns) k = some (s + i) := by
  unfold get?
  rw [pairs_keys, h]
  have hi : i < ns.length := by rw [List.idxOf?_eq_some_iff] at h; exact h.1
  simp [pairs_get, hi]
theorem find_miss {s : Int} {ns : List K4} {k : K4} (h : ns.idxOf? k = none) : get? (pairs s ns) k = none := by
  unfold get?
  rw [pairs_keys, h]; rfl
theorem put_miss {s : Int} {ns : List K4} {k : K4} (h : ns.idxOf? k = none) : put (pairs s ns) k (s + ns.length) = pairs s (ns ++ [k]) := by
  unfold put
  rw [pairs_keys, h, pairs_snoc]
theorem flat_snoc (ns : List K4) (k : K4) : flat (ns ++ [k]) = flat ns ++ [.int .i64 k.a, .int .i64 k.b, .int .i64 k.c, .int .i64 k.d] := by simp [flat]
theorem info_quad : (Try.prog.info? 77).map (fun i => (i.zero, i.size, i.bytes)) = some (some (.agg #[.int .i64 0, .int .i64 0, .int .i64 0, .int .i64 0]), 4, 32) := by kernel_rfl
theorem info_int : (Try.prog.info? 3).map (fun i => (i.zero, i.size, i.bytes)) = some (some (.int .i64 0), 1, 8) := by kernel_rfl
theorem zero_int (w : World) : (zeroValue 3).run Try.prog w = .ok (.int .i64 0) w := by kernel_rfl
def kcells (k : K4) : List Value := [.int .i64 k.a, .int .i64 k.b, .int .i64 k.c, .int .i64 k.d]
/-- append of one node -/
theorem append_quad {ops : Array Oper} {rest : List Oper} {o : Oper} {a : Act} {W : World} {Q : Exit → Act → World → Prop} (hgd : o.guard = none) {s x : Operand} (ho : o.op = .call { callee := .builtin .append, args := #[s, x], argTypes := #[37, 37] })
    {base : Nat} {v : Value} {n : Nat} {xs : List Value} (hs : a.eval s = v) (hown : W.ownsRow base 77 4 v n xs) {nb c : Nat} {k : K4} (hx : a.eval x = .slice (some ⟨nb, 0, none⟩) 1 c)
    (hnb : W.heap[nb]? = some (.cells #[.int .i64 k.a, .int .i64 k.b, .int .i64 k.c, .int .i64 k.d] 77 (0, 0))) (hn : n ≤ 4000000000000) (hbase : base ≤ W.heap.size)
    (h : ∀ g cap w', w'.ownsRow base 77 4 (.slice (some ⟨g, 0, none⟩) (n + 1) cap) (n + 1) (xs ++ kcells k) → (∀ b, b < W.heap.size → v.ownBlock ≠ some b → w'.heap[b]? = W.heap[b]?) → Fr v.ownBlock.toList W w' → (v.ownBlock = some g ∨ g = W.heap.size) → g < w'.heap.size →
      wpList Try.prog ops Q rest (a.put o.dst (.slice (some ⟨g, 0, none⟩) (n + 1) cap)) w') : wpList Try.prog ops Q (o :: rest) a W :=
  append_new hgd ho Try.underlying37 info_quad rfl (by decide) hs hown hx (news := kcells k) hnb rfl (by intro u hu; simp [kcells] at hu; rcases hu with rfl | rfl | rfl | rfl <;> rfl) (by unfold maxLen; omega) (by omega) hbase h
/-- what Join leaves -/
def JoinPost (w : World) (b : Nat) (s : Int) (ns : List K4) (F : List Nat) (k : K4) (e : Ending) (w' : World) : Prop :=
  e = .returned (.tuple #[.int .i64 (join s ns k).1.1, .int .i64 (join s ns k).1.2]) ∧ ∃ F', StoreAt w' b s (join s ns k).2 F' ∧ Fr F w w' ∧ (∀ x ∈ F', x ∈ F ∨ w.heap.size ≤ x)
theorem JoinPost.same {w w' : World} {b : Nat} {s : Int} {ns : List K4} {F : List Nat} {k : K4} {r e : Int} (hS : StoreAt w b s ns F) (hf : Fr [] w w') (hj : join s ns k = ((r, e), ns)) :
    JoinPost w b s ns F k (.returned (.tuple #[.int .i64 r, .int .i64 e])) w' := by
  unfold JoinPost
  rw [hj]
  exact ⟨rfl, F, hS.fr hf (by simp), hf.mono (by simp), fun x hx => .inl hx⟩
set_option maxHeartbeats 8000000 in
set_option maxRecDepth 100000 in
theorem Join_calls {w : World} {b : Nat} {s : Int} {ns : List K4} {F : List Nat} (hS : StoreAt w b s ns F) (k : K4) :
    Calls Try.prog 40 #[.pointer (some ⟨b, 0, none⟩), .int .i64 k.a, .int .i64 k.b, .int .i64 k.c, .int .i64 k.d] w (JoinPost w b s ns F k) := by
  have hL : ∀ w1, Fr [] w w1 → ∀ id, Calls Try.prog 25 #[.pointer (some ⟨b, 0, none⟩), .int .i64 id] w1 fun e w' => e = .returned (.int .i64 (lvl s (levs s ns) id)) ∧ Drew w1 w' := fun w1 hf id => Level_calls (hS.fr hf (by simp)) id
  have ea := (hL · · k.a)
  have eb := (hL · · k.b)
  have ec := (hL · · k.c)
  have ed := (hL · · k.d)
  clear hL
  generalize hla : lvl s (levs s ns) k.a = la at *
  generalize hlb : lvl s (levs s ns) k.b = lb at *
  generalize hlc : lvl s (levs s ns) k.c = lc at *
  generalize hld : lvl s (levs s ns) k.d = ld at *
  have Hla := Lib.hid hla
  have Hlb := Lib.hid hlb
  have Hlc := Lib.hid hlc
  have Hld := Lib.hid hld
  clear hla hlb hlc hld
  go_enter Try.func40, Try.ntmps40
  go_wp2
  refine wp_loop_rounds 5 ?_
  rw [rounds_succ]
  go_wp2_with fail
  refine (ea _ ?_).mono ?_
  · repeat (first | exact Fr.refl _ _ | apply Fr.drewN | apply Fr.drew | apply Fr.alloc)
  rintro e w' ⟨rfl, n1, rfl⟩
  go_wp2
  · go_ret2
    refine JoinPost.same hS (by repeat (first | exact Fr.refl _ _ | apply Fr.drewN | apply Fr.drew | apply Fr.alloc | refine Fr.setCell ?_ (Or.inr (by simp)) _)) ?_
    have h : la < 0 := by assumption
    simp [join, Hla.out, h]
  rw [rounds_succ]
  go_wp2_with fail
  refine (eb _ ?_).mono ?_
  · repeat (first | exact Fr.refl _ _ | apply Fr.drewN | apply Fr.drew | apply Fr.alloc | refine Fr.setCell ?_ (Or.inr (by simp)) _)
  rintro e w' ⟨rfl, n2, rfl⟩
  go_wp2
  · go_ret2
    refine JoinPost.same hS (by repeat (first | exact Fr.refl _ _ | apply Fr.drewN | apply Fr.drew | apply Fr.alloc | refine Fr.setCell ?_ (Or.inr (by simp)) _)) ?_
    have h : lb < 0 := by assumption
    simp [join, Hlb.out, h]
  rw [rounds_succ]
  go_wp2_with fail
  refine (ec _ ?_).mono ?_
  · repeat (first | exact Fr.refl _ _ | apply Fr.drewN | apply Fr.drew | apply Fr.alloc | refine Fr.setCell ?_ (Or.inr (by simp)) _)
  rintro e w' ⟨rfl, n3, rfl⟩
  go_wp2
  · go_ret2
    refine JoinPost.same hS (by repeat (first | exact Fr.refl _ _ | apply Fr.drewN | apply Fr.drew | apply Fr.alloc | refine Fr.setCell ?_ (Or.inr (by simp)) _)) ?_
    have h : lc < 0 := by assumption
    simp [join, Hlc.out, h]
  rw [rounds_succ]
  go_wp2_with fail
  refine (ed _ ?_).mono ?_
  · repeat (first | exact Fr.refl _ _ | apply Fr.drewN | apply Fr.drew | apply Fr.alloc | refine Fr.setCell ?_ (Or.inr (by simp)) _)
  rintro e w' ⟨rfl, n4, rfl⟩
  go_wp2
  · go_ret2
    refine JoinPost.same hS (by repeat (first | exact Fr.refl _ _ | apply Fr.drewN | apply Fr.drew | apply Fr.alloc | refine Fr.setCell ?_ (Or.inr (by simp)) _)) ?_
    have h : ld < 0 := by assumption
    simp [join, Hld.out, h]
  rw [rounds_succ]
  go_wp2
  rotate_right
  · go_ret2
    refine JoinPost.same hS (by repeat (first | exact Fr.refl _ _ | apply Fr.drewN | apply Fr.drew | apply Fr.alloc | refine Fr.setCell ?_ (Or.inr (by simp)) _)) ?_
    have h : ¬(lb = la ∧ lc = la ∧ ld = la) := by assumption
    unfold join
    rw [if_neg (by rw [Hla.out, Hlb.out, Hlc.out, Hld.out]; omega), if_pos (by unfold Fits; rw [Hla.out, Hlb.out, Hlc.out, Hld.out]; omega)]
  · go_ret2
    refine JoinPost.same hS (by repeat (first | exact Fr.refl _ _ | apply Fr.drewN | apply Fr.drew | apply Fr.alloc | refine Fr.setCell ?_ (Or.inr (by simp)) _)) ?_
    have h : 256 ≤ la := by assumption
    unfold join
    rw [if_neg (by rw [Hla.out, Hlb.out, Hlc.out, Hld.out]; omega), if_pos (by unfold Fits; rw [Hla.out, Hlb.out, Hlc.out, Hld.out]; omega)]
  have hfit : Fits s ns k := by
    have h1 : lb = la ∧ lc = la ∧ ld = la := by assumption
    have h2 : la < 256 := by assumption
    unfold Fits; rw [Hla.out, Hlb.out, Hlc.out, Hld.out]; omega
  have hjoin : join s ns k = joinIn s ns k := by
    unfold join
    rw [if_neg (by rw [Hla.out, Hlb.out, Hlc.out, Hld.out]; omega), if_neg (by simpa using hfit)]
  have Hj := Lib.hid hjoin
  clear hjoin
  refine abs_world (fun W => Fr [] w W ∧ W.heap.size = w.heap.size + 2 ∧ W.heap[w.heap.size]? = some (.cells #[.int .i64 k.a, .int .i64 k.b, .int .i64 k.c, .int .i64 k.d] 75 (0, 0)) ∧
    W.heap[w.heap.size + 1]? = some (.cells #[.int .i64 la, .int .i64 la, .int .i64 la, .int .i64 la] 75 (0, 0))) ?_ ?_
  · refine ⟨by repeat (first | exact Fr.refl _ _ | apply Fr.drewN | apply Fr.drew | apply Fr.alloc | refine Fr.setCell ?_ (Or.inr (by simp)) _), by simp only [hp_drewN, hp_alloc_size, hp_setCell_size], ?_, ?_⟩
    · simp only [hp_drewN, hp_alloc_size, hp_alloc, hp_setCell, show ¬ (w.heap.size = w.heap.size + 1) by omega, if_true, if_false]
    · simp only [hp_drewN, hp_alloc_size, hp_alloc, hp_setCell, if_true, Option.map_some, upd_cells, List.set_cons_zero, List.set_cons_succ]
  rintro W ⟨hW, hsz, hk0, hk1⟩
  clear ea eb ec ed
  have hSW := hS.fr hW (by simp)
  obtain ⟨hgood, nv, lv, mb, hI, rfl⟩ := hSW
  have hSW' : StoreAt W b s ns (foot b nv lv mb) := ⟨hgood, nv, lv, mb, hI, rfl⟩
  obtain ⟨na, nc, rfl, hx1⟩ := owns_form hI.nodes
  obtain ⟨la', lc', rfl, hx2⟩ := owns_form hI.levels
  clear hx1 hx2
  have hlen : ns.length ≤ 100000 := hgood.2.2.1
  have hs1 : 2 ≤ s := hgood.1
  have hs2 : s ≤ 8 := hgood.2.1
  have b0 : W.cell? ⟨b, 0, none⟩ = some (.int .i64 s) := heap_eq_cell hI.blk 0
  have b1 : W.cell? ⟨b, 1, none⟩ = some (.slice na ns.length nc) := heap_eq_cell hI.blk 1
  have b2 : W.cell? ⟨b, 2, none⟩ = some (.slice la' ns.length lc') := heap_eq_cell hI.blk 2
  have b3 : W.cell? ⟨b, 3, none⟩ = some (.map (some mb)) := heap_eq_cell hI.blk 3
  have k0 : W.cell? ⟨w.heap.size, 0, none⟩ = some (.int .i64 k.a) := heap_eq_cell hk0 0
  have k1 : W.cell? ⟨w.heap.size, 1, none⟩ = some (.int .i64 k.b) := heap_eq_cell hk0 1
  have k2 : W.cell? ⟨w.heap.size, 2, none⟩ = some (.int .i64 k.c) := heap_eq_cell hk0 2
  have k3 : W.cell? ⟨w.heap.size, 3, none⟩ = some (.int .i64 k.d) := heap_eq_cell hk0 3
  have HB := Lib.hid hI
  have Hsz := Lib.hid hsz
  have hle : w.heap.size + 1 < W.heap.size := by omega
  clear hsz
  have HK0 := Lib.hid hk0
  have HK1 := Lib.hid hk1
  clear hI hk0 hk1
  refine wp_region_text (by kernel_rfl) (by kernel_rfl) ?_
  cases hfind : ns.idxOf? k with
  | some i =>
    go_wp2_with (at_lookup; refine wpList_lookup_hit (f := kv) (g := Value.int .i64) (k := k) (z := .int .i64 0) rfl rfl rfl rfl (HB.out.known.of_block rfl) Try.underlying105 keys4 (zero_int _) (find_hit hfind) ?_)
    refine Strict.intro rfl ?_
    go_wp2
    go_ret2
    refine JoinPost.same hS (hW.drew) ?_
    rw [Hj.out, joinIn_hit hfind]
  | none =>
    have l0 : W.cell? ⟨w.heap.size + 1, 0, none⟩ = some (.int .i64 la) := heap_eq_cell HK1.out 0
    by_cases hfull : ns.length < 100000
    · have hd : decide ((100000 : Int) ≤ ↑ns.length) = false := by simp; omega
      have Hlen := Lib.hid hlen
      have Hfull := Lib.hid hfull
      clear hlen hfull
      have hl : ns.length ≤ 1048576 := by have := Hlen.out; omega
      go_wp2_with (at_lookup; refine wpList_lookup_miss (f := kv) (g := Value.int .i64) (k := k) (z := .int .i64 0) rfl rfl rfl rfl (HB.out.known.of_block rfl) Try.underlying105 keys4 (zero_int _) (find_miss hfind) ?_)
      refine Strict.intro rfl ?_
      go_wp2_with fail
      refine wp_region_text (by kernel_rfl) (by kernel_rfl) ?_
      go_wp2
      refine Strict.intro rfl ?_
      go_wp2
      obtain ⟨i0, hi0, hi1, hi2, hi3⟩ := info_parts info_quad
      obtain ⟨j0, hj0, hj1, hj2, hj3⟩ := info_parts info_int
      refine wp_region_text (by kernel_rfl) (by kernel_rfl) ?_
      go_wp2_with (at_builtin; refine wpList_append_lies _ rfl _ _ 37 rfl 0 77 i0 _ 4 32 Try.underlying37 hi0 hi1 hi2 hi3 rfl (by decide) (.slice na ns.length nc) ns.length (flat ns) rfl ?e2 _ 1 1 [.int .i64 k.a, .int .i64 k.b, .int .i64 k.c, .int .i64 k.d] rfl rfl ?e3 ?e4 (by decide) ?e5 ?e6 (Nat.zero_le _) _ rfl ?_)
      case e2 => exact owns_of_block HB.out.nodes fun x hx => heap_alloc_else _ _ _ (owns_lt HB.out.nodes hx)
      case e3 =>
        intro j u hj
        have hsz' : (W.alloc (.cells #[.int .i64 k.a, .int .i64 k.b, .int .i64 k.c, .int .i64 k.d] 77)).heap[W.heap.size]? = some (.cells #[.int .i64 k.a, .int .i64 k.b, .int .i64 k.c, .int .i64 k.d] 77) := by rw [hp_alloc, if_pos rfl]
        have := cell_row_add hsz' j
        rw [show (World.drew (World.drew (World.drew (W.alloc (.cells #[.int .i64 k.a, .int .i64 k.b, .int .i64 k.c, .int .i64 k.d] 77))))).cell? _ = _ from this]
        simpa using hj
      case e4 => intro u hu; simp at hu; rcases hu with rfl | rfl | rfl | rfl <;> rfl
      case e5 => unfold maxLen; omega
      case e6 => omega
      intro g cap w1 hown1 hgrow1 hloc1 hg1
      have hW1 : ∀ x, x < W.heap.size → (Value.slice na ns.length nc).ownBlock ≠ some x → w1.heap[x]? = W.heap[x]? := fun x hx hn => (hgrow1.block x (by rw [hp_drew, hp_drew, hp_drew, hp_alloc_size]; omega) (fun e => hn e.symm)).trans (heap_alloc_else _ _ _ hx)
      have hsz1 : W.heap.size + 1 ≤ w1.heap.size := by have := hgrow1.size; rw [hp_drew, hp_drew, hp_drew, hp_alloc_size] at this; exact this
      have hbW := lt_of_block HB.out.blk
      have hb1 := (hW1 b hbW HB.out.ne2).trans HB.out.blk
      have c0 := heap_eq_cell hb1 0
      have c1 := heap_eq_cell hb1 1
      have c2 := heap_eq_cell hb1 2
      have c3 := heap_eq_cell hb1 3
      have f1 := heap_eq_frozen hb1 1
      have Hown1 := Lib.hid hown1
      have Hgrow1 := Lib.hid hgrow1
      have Hloc1 := Lib.hid hloc1
      have HW1 := Lib.hid hW1
      clear hown1 hgrow1 hloc1 hW1 hb1
      go_wp2
      refine Strict.intro rfl ?_
      go_wp2
      refine abs_world (fun V => V.heap.size = w1.heap.size ∧ (∀ x, x ≠ b → V.heap[x]? = w1.heap[x]?) ∧
        V.heap[b]? = some (.cells #[.int .i64 s, .slice (some ⟨g, 0, none⟩) (ns.length + 1) cap, .slice la' ns.length lc', .map (some mb)] 107 (0, 0)) ∧ Fr (foot b (.slice na ns.length nc) (.slice la' ns.length lc') mb) W V) ?_ ?_
      · refine ⟨by simp only [hp_setCell_size], fun x hx => ?_, ?_, ?_⟩
        · simp only [hp_setCell, if_neg hx]
        · simp only [hp_setCell, if_true, (HW1.out b hbW HB.out.ne2).trans HB.out.blk, Option.map_some, upd_cells, List.set_cons_zero, List.set_cons_succ]
        · refine (((((((Fr.refl _ W).alloc _).drew).drew).drew).grown Hgrow1.out fun x hx => .inl ?_).setCell (.inl ?_) _)
          · simp [foot, hx]
          · simp [foot]
      rintro V ⟨hVs, hVo, hVb, hVf⟩
      have hV : ∀ x, x < W.heap.size → x ≠ b → (Value.slice na ns.length nc).ownBlock ≠ some x → V.heap[x]? = W.heap[x]? := fun x hx hn hn' => (hVo x hn).trans (HW1.out x hx hn')
      have hVl : V.ownsRow 0 3 1 (.slice la' ns.length lc') ns.length ((levs s ns).map (Value.int .i64)) := owns_of_block HB.out.levels fun x hx => hV x (owns_lt HB.out.levels hx) (fun e => HB.out.ne4 (by rw [hx, e])) fun e => HB.out.ne6 x e hx
      have hbnew : ∀ x, w.heap.size ≤ x → x < w.heap.size + 2 → V.heap[x]? = W.heap[x]? := fun x hx hx' => by
        have hSx := hS.lt
        refine hV x (by have := Hsz.out; omega) (fun e => ?_) fun e => ?_
        · have := hSx b (by simp [foot]); omega
        · have := hSx x (by simp [foot, e]); omega
      have v1 : V.cell? ⟨w.heap.size + 1, 0, none⟩ = some (.int .i64 la) := heap_eq_cell ((hbnew _ (by omega) (by omega)).trans HK1.out) 0
      have d0 := heap_eq_cell hVb 0
      have d1 := heap_eq_cell hVb 1
      have d2 := heap_eq_cell hVb 2
      have d3 := heap_eq_cell hVb 3
      have e2 := heap_eq_frozen hVb 2
      have HVo := Lib.hid hVo
      have HV := Lib.hid hV
      have HVb := Lib.hid hVb
      have HVf := Lib.hid hVf
      have HVl := Lib.hid hVl
      have HVs := Lib.hid hVs
      have Hbnew := Lib.hid hbnew
      clear hVo hV hVb hVf hVl hVs hbnew b0 b1 b2 b3 c0 c1 c2 c3 f1 k0 k1 k2 k3 l0
      have hla0 : 0 ≤ la := by assumption
      have hla1 : la < 256 := by assumption
      refine wp_region_text (by kernel_rfl) (by kernel_rfl) ?_
      go_wp2_with (at_builtin; refine wpList_append_lies _ rfl _ _ 71 rfl 0 3 j0 _ 1 8 Try.underlying71 hj0 hj1 hj2 hj3 rfl (by decide) (.slice la' ns.length lc') ns.length ((levs s ns).map (Value.int .i64)) rfl ?e2 _ 1 1 [.int .i64 (la + 1)] rfl rfl ?e3 ?e4 (by decide) ?e5 ?e6 (Nat.zero_le _) _ rfl ?_)
      case e2 => exact owns_of_block HVl.out fun x hx => heap_alloc_else _ _ _ (owns_lt HVl.out hx)
      case e3 =>
        intro j u hj
        have hsz' : (V.alloc (.cells #[.int .i64 (la + 1)] 3)).heap[V.heap.size]? = some (.cells #[.int .i64 (la + 1)] 3) := by rw [hp_alloc, if_pos rfl]
        have := cell_row_add hsz' j
        rw [show (World.drew (V.alloc (.cells #[.int .i64 (la + 1)] 3))).cell? _ = _ from this]
        simpa using hj
      case e4 => intro u hu; simp at hu; subst hu; rfl
      case e5 => unfold maxLen; omega
      case e6 => omega
      intro g2 cap2 w2 hown2 hgrow2 hloc2 hg2
      have hbV : b < V.heap.size := lt_of_block HVb.out
      have hW2 : ∀ x, x < V.heap.size → (Value.slice la' ns.length lc').ownBlock ≠ some x → w2.heap[x]? = V.heap[x]? := fun x hx hn => (hgrow2.block x (by rw [hp_drew, hp_alloc_size]; omega) (fun e => hn e.symm)).trans (heap_alloc_else _ _ _ hx)
      have hb2 := (hW2 b hbV HB.out.ne4).trans HVb.out
      have c0 := heap_eq_cell hb2 0
      have c1 := heap_eq_cell hb2 1
      have c2 := heap_eq_cell hb2 2
      have c3 := heap_eq_cell hb2 3
      have f2 := heap_eq_frozen hb2 2
      have Hown2 := Lib.hid hown2
      have Hgrow2 := Lib.hid hgrow2
      have Hloc2 := Lib.hid hloc2
      have HW2 := Lib.hid hW2
      clear hown2 hgrow2 hloc2 hW2 hb2
      go_wp2
      refine Strict.intro rfl ?_
      go_wp2
      refine abs_world (fun U => (∀ x, x ≠ b → U.heap[x]? = w2.heap[x]?) ∧
        U.heap[b]? = some (.cells #[.int .i64 s, .slice (some ⟨g, 0, none⟩) (ns.length + 1) cap, .slice (some ⟨g2, 0, none⟩) (ns.length + 1) cap2, .map (some mb)] 107 (0, 0)) ∧
        Fr (foot b (.slice na ns.length nc) (.slice la' ns.length lc') mb) W U) ?_ ?_
      · refine ⟨fun x hx => ?_, ?_, ?_⟩
        · simp only [hp_setCell, if_neg hx]
        · simp only [hp_setCell, if_true, (HW2.out b hbV HB.out.ne4).trans HVb.out, Option.map_some, upd_cells, List.set_cons_zero, List.set_cons_succ]
        · refine HVf.out.trans (((((Fr.refl (foot b (.slice na ns.length nc) (.slice la' ns.length lc') mb) V).alloc _).drew).grown Hgrow2.out fun x hx => .inl ?_).setCell (.inl ?_) _) fun x hx => .inl hx
          · simp [foot, hx]
          · simp [foot]
      rintro U ⟨hUo, hUb, hUf⟩
      have hU : ∀ x, x < W.heap.size → x ≠ b → (Value.slice na ns.length nc).ownBlock ≠ some x → (Value.slice la' ns.length lc').ownBlock ≠ some x → U.heap[x]? = W.heap[x]? := fun x hx h1 h2 h3 =>
        (hUo x h1).trans ((HW2.out x (by have := HVs.out; omega) h3).trans (HV.out x hx h1 h2))
      have hmbW : mb < W.heap.size := HB.out.known.lt
      have hmap : MapIs U mb kv (Value.int .i64) (pairs s ns) := HB.out.known.of_block (hU mb hmbW (fun e => HB.out.ne1 e.symm) HB.out.ne3 HB.out.ne5)
      have hkid : U.heap[w.heap.size]? = some (.cells #[.int .i64 k.a, .int .i64 k.b, .int .i64 k.c, .int .i64 k.d] 75 (0, 0)) := by
        have hSx := hS.lt
        refine (hU _ (by omega) (fun e => ?_) (fun e => ?_) fun e => ?_).trans HK0.out
        · have := hSx b (by simp [foot]); omega
        · have := hSx w.heap.size (by simp [foot, e]); omega
        · have := hSx w.heap.size (by simp [foot, e]); omega
      have k0 := heap_eq_cell hkid 0
      have k1 := heap_eq_cell hkid 1
      have k2 := heap_eq_cell hkid 2
      have k3 := heap_eq_cell hkid 3
      have d0 := heap_eq_cell hUb 0
      have d1 := heap_eq_cell hUb 1
      have d2 := heap_eq_cell hUb 2
      have d3 := heap_eq_cell hUb 3
      have HUo := Lib.hid hUo
      have HUb := Lib.hid hUb
      have HUf := Lib.hid hUf
      have Hmap := Lib.hid hmap
      have Hkid := Lib.hid hkid
      have HU := Lib.hid hU
      clear hUo hUb hUf hmap hkid hU c0 c1 c2 c3 f2 v1 e2
      refine wp_region_text (by kernel_rfl) (by kernel_rfl) ?_
      go_wp2_with (at_mapUpdate; refine wpList_update_is (f := kv) (g := Value.int .i64) (k := k) (v := s + ns.length) rfl rfl rfl rfl rfl (Hmap.out.of_block rfl) Try.underlying105 keys4 ?_)
      intro q hq
      go_wp2
      refine Strict.intro rfl ?_
      go_wp2
      go_ret2
      have hput := put_miss (s := s) hfind
      rw [hput] at hq
      have hjn : join s ns k = ((s + ns.length, 0), ns ++ [k]) := by rw [Hj.out, joinIn_new hfind Hfull.out]
      have hg1l : g < w1.heap.size := hg1
      have hgb : g ≠ b := fun e => by
        rcases Hloc1.out with h | h
        · exact HB.out.ne2 (by rw [h, e])
        · omega
      have hgm : g ≠ mb := fun e => by
        rcases Hloc1.out with h | h
        · exact HB.out.ne3 (by rw [h, e])
        · omega
      have hgl : (Value.slice la' ns.length lc').ownBlock ≠ some g := fun e => by
        rcases Hloc1.out with h | h
        · exact HB.out.ne6 g h e
        · have := owns_lt HB.out.levels e; omega
      have hg2b : g2 ≠ b := fun e => by
        rcases Hloc2.out with h | h
        · exact HB.out.ne4 (by rw [h, e])
        · omega
      have hg2m : g2 ≠ mb := fun e => by
        rcases Hloc2.out with h | h
        · exact HB.out.ne5 (by rw [h, e])
        · have := HVs.out; omega
      have hgg : g2 ≠ g := fun e => by
        rcases Hloc2.out with h | h
        · exact hgl (by rw [h, e])
        · have := HVs.out; omega
      unfold JoinPost
      rw [hjn]
      have hset : ∀ x, x ≠ mb → (U.heap.setIfInBounds mb q)[x]? = U.heap[x]? := fun x hx => by rw [Array.getElem?_setIfInBounds_ne fun e => hx e.symm]
      refine ⟨rfl, foot b (.slice (some ⟨g, 0, none⟩) (ns.length + 1) cap) (.slice (some ⟨g2, 0, none⟩) (ns.length + 1) cap2) mb, ?_, ?_, ?_⟩
      · refine ⟨hgood.snoc hfit (by simpa using hfind) Hfull.out, _, _, mb, ⟨?_, ?_, ?_, hq, HB.out.ne1, ?_, ?_, ?_, ?_, ?_⟩, rfl⟩
        · exact (hset b HB.out.ne1).trans HUb.out
        · rw [flat_snoc, List.length_append, List.length_singleton]
          refine owns_of_block Hown1.out fun x hx => ?_
          obtain rfl : g = x := by simpa [Value.ownBlock] using hx
          exact (hset g hgm).trans ((HUo.out g hgb).trans ((HW2.out g (by have := HVs.out; omega) hgl).trans (HVo.out g hgb)))
        · rw [levs_snoc, List.map_append, List.length_append, List.length_singleton, Hla.out]
          refine owns_of_block Hown2.out fun x hx => ?_
          obtain rfl : g2 = x := by simpa [Value.ownBlock] using hx
          exact (hset g2 hg2m).trans (HUo.out g2 hg2b)
        · simpa [Value.ownBlock] using hgb
        · simpa [Value.ownBlock] using hgm
        · simpa [Value.ownBlock] using hg2b
        · simpa [Value.ownBlock] using hg2m
        · intro x hx
          obtain rfl : g = x := by simpa [Value.ownBlock] using hx
          simpa [Value.ownBlock] using hgg
      · refine ((hW.mono (by simp)).trans HUf.out fun x hx => .inl hx).trans ((((Fr.refl [mb] U).drew).setBlock (.inl (by simp)) q)) fun x hx => .inl ?_
        simp at hx; subst hx; simp [foot]
      · intro x hx
        have hwW : w.heap.size ≤ W.heap.size := by omega
        simp only [foot, List.mem_cons, List.mem_append, Option.mem_toList, Value.ownBlock, Option.some.injEq] at hx
        rcases hx with rfl | rfl | rfl | rfl
        · left; simp [foot]
        · left; simp [foot]
        · rcases Hloc1.out with h | h
          · left; simp [foot, h]
          · right; omega
        · rcases Hloc2.out with h | h
          · left; simp [foot, h]
          · right; have := HVs.out; omega
    · have hd : decide ((100000 : Int) ≤ ↑ns.length) = true := by simp; omega
      have Hlen := Lib.hid hlen
      have Hfull := Lib.hid hfull
      clear hlen hfull
      go_wp2_with (at_lookup; refine wpList_lookup_miss (f := kv) (g := Value.int .i64) (k := k) (z := .int .i64 0) rfl rfl rfl rfl (HB.out.known.of_block rfl) Try.underlying105 keys4 (zero_int _) (find_miss hfind) ?_)
      refine Strict.intro rfl ?_
      go_wp2_with fail
      go_ret2
      refine JoinPost.same hS (hW.drew) ?_
      rw [Hj.out, joinIn_full hfind (by have := Hfull.out; omega)]
end Go.Proofs.Ytppmnmheodimoaa
end
