/- Own texts of this claim, part 18: no condition. -/
import Derived.IntWalk
import Derived.Test.YtjidldfnlejdhaaZM16
import Derived.Test.YtjidldfnlejdhaaZM2
import Derived.Test.YtjidldfnlejdhaaZM15
set_option linter.unusedVariables false
set_option linter.unusedSimpArgs false
section
/- solve: with. -/
namespace Go.Proofs.Ytjidldfnlejdhaa
open Go Go.RowKit Go.Proofs.Rg Go.Proofs.Mp Go.Proofs.Hp Go.Proofs.Sv
set_option linter.unusedVariables false
set_option linter.unusedSimpArgs false
theorem form_result {fn : Func} {p : Tmp} (h : fn.results = #[.cell p 24]) {tmps : Array Value} {b : Nat} {w' : World} {x y : Value} (h4 : tmps.getD p undef = .pointer (some ⟨b, 0, none⟩)) (hb : w'.heap[b]? = some (.cells #[x, y] 24 (0, 0))) :
    (results fn tmps).run Try.prog w' = .ok (.agg #[x, y]) w' := by
  rw [res_cell1 h, h4]
  simp only [asAddr, Sem.run_pure, Result.andThen]
  rw [run_loadVar_row w' b _ _ _ _ _ hb Try.underlying24 rfl (by kernel_rfl)]
theorem Has.oneRow {W w : World} {Ps : List Res} (h : Has W w Ps) (T : Nat) (v : Value) : Has W (w.alloc (.cells #[v] T (0, 0))) (Hp.row T 1 (.slice (some ⟨w.heap.size, 0, none⟩) 1 1) 1 [v] :: Ps) := by
  refine h.newRow ((Fr.refl [] w).alloc _) ?_
  refine ⟨rfl, .inr ⟨w.heap.size, 1, #[v], rfl, Nat.le_refl _, by rw [hp_alloc, if_pos rfl], Nat.le_refl _, by decide, rfl, rfl⟩⟩
def WithInv (W : World) (Ps : List Res) (V n fb rb : Nat) (vs : List Value) (l : List Int) (wr : World) : Prop :=
  ∃ (OV : List (Value × List Int)) (a1 : Option Addr) (c1 : Nat), OV.map (·.2) = l.map (fun x => [x]) ∧ Has W wr (Hp.row 51 1 (.slice a1 (n + l.length) c1) (n + l.length) (vs ++ OV.map (·.1)) :: Hp.blk fb (.cells #[.int .i64 (V : Int), .slice a1 (n + l.length) c1] 24 (0, 0)) ::
    Hp.blk rb (.cells #[.int .i64 0, .slice none 0 0] 24 (0, 0)) :: bun (OV.map rowC) :: Ps)
set_option maxHeartbeats 8000000 in
set_option maxRecDepth 100000 in
theorem with_calls {W w : World} {Ps : List Res} (h : Has W w Ps) {V : Nat} {a : Option Addr} {c : Nat} {vs : List Value} {cs : List (List Int)} (hF : FormHs W Ps a c vs cs) {b : Option Addr} {d : Nat} {l : List Int}
    (hl : ∀ w Qs, Has W w Qs → (∀ P ∈ Ps, P ∈ Qs) → IntsAt w (.slice b l.length d) l) (hn : cs.length ≤ 262144) (hll : l.length ≤ 65536) (h1 : ∀ u ∈ vs, u.oneCell' = true) :
    Calls Try.prog 32 #[.agg #[.int .i64 (V : Int), .slice a cs.length c], .slice b l.length d] w fun e w' => ∃ (OV : List (Value × List Int)) (a1 : Option Addr) (c1 : Nat), OV.map (·.2) = l.map (fun x => [x]) ∧
      e = .returned (.agg #[.int .i64 (V : Int), .slice a1 (cs.length + l.length) c1]) ∧ Has W w' (Hp.row 51 1 (.slice a1 (cs.length + l.length) c1) (cs.length + l.length) (vs ++ OV.map (·.1)) :: bun (OV.map rowC) :: Ps) := by
  have H0 := Lib.hid ((h.newBlk (.cells #[.int .i64 (V : Int), .slice a cs.length c] 24 (0, 0))).newBlk (.cells #[.int .i64 0, .slice none 0 0] 24 (0, 0)))
  have HF := Lib.hid hF
  have HL := Lib.hid hl
  have HV1 := Lib.hid h1
  obtain ⟨n, hnn⟩ : ∃ n, cs.length = n := ⟨_, rfl⟩
  obtain ⟨m, hmm⟩ : ∃ m, l.length = m := ⟨_, rfl⟩
  rw [hnn] at hn H0 ⊢
  rw [hmm] at hll ⊢
  have HN := Lib.hid (And.intro hnn hmm)
  clear h hF hl h1 hnn hmm
  go_enter Try.func32, Try.ntmps32
  go_wp2_with fail
  have hrd := (HF.out.1 _ _ H0.out fun P hP => List.mem_cons_of_mem _ (List.mem_cons_of_mem _ hP)).1
  rw [HN.out.1] at hrd
  simp only [hp_alloc_size] at H0
  refine (Clones_h H0.out hrd HV1.out (by omega)).mono ?_
  rintro e w1 ⟨v1, rfl, h1⟩
  obtain ⟨a1, c1, rfl, _, _⟩ := owns_form2 h1.row
  obtain ⟨fb, hfb⟩ : ∃ b, w.heap.size = b := ⟨_, rfl⟩
  obtain ⟨rb, hrb⟩ : ∃ b, fb + 1 = b := ⟨_, rfl⟩
  rw [hfb, hrb] at h1
  rw [hfb, hrb]
  have hb := (h1.bring 2).blk
  have c1' : _ = some _ := heap_eq_cell hb 1
  have z1 := heap_eq_frozen hb 1
  have cl := lt_of_block hb
  have H1 := Lib.hid (((h1.bring 2).blkSet 1 (.slice a1 n c1)).ord 3 [1, 0, 2])
  clear h1 hb hfb hrb H0 hrd
  go_wp2
  clear c1' z1 cl
  go_loopg [13] m (fun gg z wr => ∃ i : Nat, i ≤ m ∧ m - i ≤ gg ∧ z = .int .i64 (i : Int) ∧ Hid (WithInv W Ps V n fb rb vs (l.take i) wr))
  case atStart =>
    refine ⟨0, Nat.zero_le _, by omega, rfl, Lib.hid ⟨[], a1, c1, by simp, ?_⟩⟩
    simp only [List.take_zero, List.length_nil, Nat.add_zero, List.map_nil, List.append_nil]
    exact ((H1.out.bunNil).ord 4 [1, 2, 3, 0])
  case round =>
    obtain ⟨i, hi, hg, rfl, HI⟩ := hrel
    clear H1
    obtain ⟨OV, a1, c1, hOV, h⟩ := HI.out
    by_cases him : i < m
    · obtain ⟨x, hx⟩ : ∃ x, l[i]? = some x := ⟨_, List.getElem?_eq_getElem (by rw [HN.out.2]; exact him)⟩
      have hli := HL.out wr _ h fun P hP => List.mem_cons_of_mem _ (List.mem_cons_of_mem _ (List.mem_cons_of_mem _ (List.mem_cons_of_mem _ hP)))
      obtain ⟨g, off, rfl, hgl, hc⟩ := IntsAt.get hli hx
      have htl : (l.take i).length = i := by rw [List.length_take, HN.out.2]; omega
      rw [htl] at h
      have hb := (h.bring 1).blk
      have c1' : _ = some _ := heap_eq_cell hb 1
      have z1 := heap_eq_frozen hb 1
      have cl := lt_of_block hb
      have hmaxl : (400001 : Nat) ≤ maxLen := by decide
      have HLY := Lib.hid (show n + i + 1 ≤ maxLen ∧ (n + i + 1) * 24 ≤ 140737488355328 from by omega)
      have HX := Lib.hid (And.intro hx hOV)
      have H1 := Lib.hid h
      clear h hli hb hmaxl htl hx hOV HI
      go_wp2_with (at_builtin; refine append_has (W := W) (size := 1) (bytes := 24) (z := .slice none 0 0) (e := 51) (n := n + i) (xs := vs ++ OV.map (·.1)) (news := [.slice (some ⟨wr.heap.size, 0, none⟩) 1 1]) rfl rfl Try.underlying22 (by kernel_rfl) rfl (by decide) rfl rfl (((Has.oneRow H1.out 3 (.int .i64 x)).ord 2 [1, 0]).step (by (repeat first | exact Fr.refl _ _ | assumption | apply Fr.n | apply Fr.d | apply Fr.a | refine Fr.s ?_ (.inr (by simp; try omega)) _))) (by (repeat first | rw [if_pos (by omega)] | rw [if_neg (by omega)] | rw [hp_drew] | rw [hp_drewN] | rw [hp_alloc_size] | rw [hp_setCell_size] | rw [hp_alloc] | rw [hp_setCell] | rw [oMS] | rw [upd_cells] | rw [lSZ] | rw [lSS] | rfl)) rfl (by simp [Value.oneCell']) HLY.out.1 HLY.out.2 ?_)
      intro g2 cap2 w5 h5 hf5 hg5
      have hb := (h5.bring 2).blk
      clear c1' z1 cl hc hgl
      have c1' : _ = some _ := heap_eq_cell hb 1
      have z1 := heap_eq_frozen hb 1
      have cl := lt_of_block hb
      obtain ⟨q, hq⟩ : ∃ q : Value × List Int, q = (.slice (some ⟨wr.heap.size, 0, none⟩) 1 1, [x]) := ⟨_, rfl⟩
      have h6 : Has W (w5.setCell ⟨fb, 1, none⟩ (.slice (some ⟨g2, 0, none⟩) (n + i + 1) cap2)) (rowC q :: bun (OV.map rowC) :: Hp.row 51 1 (.slice (some ⟨g2, 0, none⟩) (n + i + 1) cap2) (n + i + 1) (vs ++ (OV.map (·.1) ++ [.slice (some ⟨wr.heap.size, 0, none⟩) 1 1])) :: Hp.blk fb (.cells #[.int .i64 (V : Int), .slice (some ⟨g2, 0, none⟩) (n + i + 1) cap2] 24 (0, 0)) :: Hp.blk rb (.cells #[.int .i64 0, .slice none 0 0] 24 (0, 0)) :: Ps) := by
        have e1 : rowC q = Hp.row 3 1 (.slice (some ⟨wr.heap.size, 0, none⟩) 1 1) 1 [.int .i64 x] := by rw [hq]; rfl
        rw [e1]
        exact ((h5.bring 2).blkSet 1 (.slice (some ⟨g2, 0, none⟩) (n + i + 1) cap2)).ord 5 [2, 4, 1, 0, 3]
      have h7 := (Has.layNew (R := rowC) h6).ord 4 [1, 2, 3, 0]
      have H7 := Lib.hid h7
      have HQ := Lib.hid hq
      clear h5 hb hf5 h6 h7 H1 hq
      go_wp2
      go_roundg (m - (i + 1))
      case measure => omega
      case rel =>
        refine ⟨i + 1, him, Nat.le_refl _, by simp, Lib.hid ⟨OV ++ [q], some ⟨g2, 0, none⟩, cap2, ?_, ?_⟩⟩
        · rw [List.map_append, List.take_add_one, HX.out.1, List.map_append, HX.out.2, HQ.out]; rfl
        · have htl : (l.take (i + 1)).length = i + 1 := by rw [List.length_take, HN.out.2]; omega
          rw [htl, List.map_append]
          have h8 := H7.out
          rw [← show q.1 = .slice (some ⟨wr.heap.size, 0, none⟩) 1 1 from by rw [HQ.out]] at h8
          exact h8
    · obtain rfl : i = m := by omega
      have htk : l.take i = l := List.take_of_length_le (by rw [HN.out.2]; exact Nat.le_refl _)
      rw [htk, HN.out.2] at h
      rw [htk] at hOV
      have hb := (h.bring 1).blk
      have c0 : _ = some _ := heap_eq_cell hb 0
      have c1' : _ = some _ := heap_eq_cell hb 1
      have cl := lt_of_block hb
      have hb2 := (h.bring 2).blk
      have d0 : _ = some _ := heap_eq_cell hb2 0
      have d1 : _ = some _ := heap_eq_cell hb2 1
      have y0 := heap_eq_frozen hb2 0
      have y1 := heap_eq_frozen hb2 1
      have dl := lt_of_block hb2
      have H2 := Lib.hid ((((h.bring 2).blkSet 0 (.int .i64 (V : Int))).blkSet 1 (.slice a1 (n + i) c1)))
      clear h hb hb2 HI
      go_wp2
      refine bodyPost_ret (form_result rfl (b := rb) (x := .int .i64 (V : Int)) (y := .slice a1 (n + i) c1) rfl ?_) rfl ?_
      · exact H2.out.blk
      · exact ⟨OV, a1, c1, hOV, rfl, ((H2.out.drop.bring 1).drop)⟩
end Go.Proofs.Ytjidldfnlejdhaa
end

section
/- A region that draws its order, in which some operations lie unordered that do not commute: each of their orders is walked. -/
namespace Go.Proofs.Rg
open Go
set_option linter.unusedVariables false
set_option linter.unusedSimpArgs false

def pairsX (gx : Nat → Nat → Bool) (P : Program) (ops : Array Oper) (π : List Nat) (b : Array Nat) (chk : Nat → List Nat) (o : Oper) (j : Nat) : Bool :=
  π.all fun i => !decide (rank π i < rank π j) || bitOf b j i || gx i j || match ops[i]? with
    | some oi => oi.apart ops o && clG (chk j) i (cl P oi.op) (cl P o.op)
    | none => true
def orderOKbX (gx : Nat → Nat → Bool) (P : Program) (ops : Array Oper) (π : List Nat) (chk : Nat → List Nat) (b : Array Nat) : Bool :=
  Region.noSelect ops && decide (π.length = ops.size) && (List.range ops.size).all (fun j => π.contains j) && π.all (fun j => decide (j < ops.size)) && decide π.Nodup &&
  (List.range ops.size).all fun j => match ops[j]? with
    | some o => edgesG π o j && maskOK b o j && lookG ops π b o j && pairsX gx P ops π b chk o j && selfG P ops o && (chk j).all (againG P ops π b j) && ((chk j).isEmpty || cl P o.op == .any)
    | none => true
def orderOKX (gx : Nat → Nat → Bool) (P : Program) (ops : Array Oper) (π : List Nat) (chk : Nat → List Nat) : Bool := orderOKbX gx P ops π chk (Region.before ops)
section
variable {P : Program} {ops : Array Oper} {K0 : Act → World → Prop} {b : Array Nat} {π : List Nat} {chk : Nat → List Nat}
structure OrderedX (gx : Nat → Nat → Bool) (P : Program) (ops : Array Oper) (π : List Nat) (chk : Nat → List Nat) (b : Array Nat) : Prop where
  select : Region.noSelect ops = true
  len : π.length = ops.size
  all : ∀ j : Nat, j < ops.size ↔ j ∈ π
  nodup : π.Nodup
  edges : ∀ (j : Nat) (o : Oper), ops[j]? = some o → ∀ e ∈ o.after, Region.binds .any e = true → e.on < j ∧ rank π e.on < rank π j
  mask : ∀ (j : Nat) (o : Oper), ops[j]? = some o → maskOK b o j = true
  look : ∀ (j : Nat) (o : Oper) (z : Nat) (oz : Oper), ops[j]? = some o → ops[z]? = some oz → ¬ (rank π z < rank π j ∧ bitOf b j z = true) → trivialOp o.op = true ∨ writes oz (o.looksAt ops) = false
  pair : ∀ (i j : Nat) (oi oj : Oper), ops[i]? = some oi → ops[j]? = some oj → rank π i < rank π j → bitOf b j i = false → gx i j = false → oi.apart ops oj = true ∧ clG (chk j) i (cl P oi.op) (cl P oj.op) = true
  self : ∀ (j : Nat) (o : Oper), ops[j]? = some o → cl P o.op = .load → writes o (o.looksAt ops) = false
  chkAny : ∀ (j : Nat) (o : Oper), ops[j]? = some o → cl P o.op ≠ .any → chk j = []
  chkLook : ∀ (j : Nat) (o : Oper) (k : Nat), ops[j]? = some o → k ∈ chk j → ∃ ok, ops[k]? = some ok ∧ rank π k < rank π j ∧ ∀ (z : Nat) (oz : Oper), ops[z]? = some oz → z ≠ k → ¬ (rank π z < rank π k ∧ bitOf b k z = true) →
    writes oz (ok.looksAt ops) = false ∧ writes oz ok.dst.toList = false
theorem OrderedX.of {gx : Nat → Nat → Bool} (h : orderOKbX gx P ops π chk b = true) : OrderedX gx P ops π chk b := by
  unfold orderOKbX at h
  simp only [Bool.and_eq_true, decide_eq_true_eq] at h
  obtain ⟨⟨⟨⟨⟨h1, h2⟩, h3⟩, h4⟩, h5⟩, h6⟩ := h
  have hall : ∀ j o, ops[j]? = some o → edgesG π o j = true ∧ maskOK b o j = true ∧ lookG ops π b o j = true ∧ pairsX gx P ops π b chk o j = true ∧ selfG P ops o = true ∧ (chk j).all (againG P ops π b j) = true ∧ ((chk j).isEmpty || cl P o.op == .any) = true := fun j o hj => by
    have := List.all_eq_true.1 h6 j (List.mem_range.2 (Array.getElem?_eq_some_iff.1 hj).1)
    simp only [hj, Bool.and_eq_true] at this
    obtain ⟨⟨⟨⟨⟨⟨a1, a2⟩, a3⟩, a4⟩, a5⟩, a6⟩, a7⟩ := this
    exact ⟨a1, a2, a3, a4, a5, a6, a7⟩
  have hmem : ∀ j, j < ops.size ↔ j ∈ π := fun j => ⟨fun hj => by simpa using List.all_eq_true.1 h3 j (List.mem_range.2 hj), fun hj => by simpa using List.all_eq_true.1 h4 j hj⟩
  have hlt : ∀ {j o}, ops[j]? = some o → j < ops.size := fun hj => (Array.getElem?_eq_some_iff.1 hj).1
  refine ⟨h1, h2, hmem, h5, fun j o hj e he hb => ?_, fun j o hj => (hall j o hj).2.1, fun j o z oz hj hz hn => ?_, fun i j oi oj hi hj hr hb hx => ?_, fun j o hj hc => ?_, fun j o hj hc => ?_, fun j o k hj hk => ?_⟩
  · have := Array.all_eq_true_iff_forall_mem.1 (hall j o hj).1 e he
    simpa [hb] using this
  · have h := (hall j o hj).2.2.1
    unfold lookG at h
    rw [Bool.or_eq_true] at h
    rcases h with h | h
    · exact .inl h
    · right
      have := List.all_eq_true.1 h z (List.mem_range.2 (hlt hz))
      simp only [hz, Bool.or_eq_true, Bool.not_eq_true', Bool.and_eq_true, decide_eq_true_eq] at this
      exact this.resolve_right hn
  · have := List.all_eq_true.1 (hall j oj hj).2.2.2.1 i ((hmem i).1 (hlt hi))
    simp only [hi, hr, hb, hx, decide_true, Bool.not_true, Bool.false_or, Bool.and_eq_true] at this
    exact this
  · have := (hall j o hj).2.2.2.2.1
    simpa [selfG, hc] using this
  · have := (hall j o hj).2.2.2.2.2.2
    simp only [Bool.or_eq_true, beq_iff_eq] at this
    simpa using this.resolve_right hc
  · have := List.all_eq_true.1 (hall j o hj).2.2.2.2.2.1 k hk
    unfold againG at this
    split at this
    · rename_i ok hok
      simp only [Bool.and_eq_true, decide_eq_true_eq] at this
      refine ⟨ok, hok, this.1.1.2, fun z oz hz hne hn => ?_⟩
      have h := List.all_eq_true.1 this.2 z (List.mem_range.2 (hlt hz))
      simp only [hz, Bool.or_eq_true, beq_iff_eq, hne, false_or, Bool.not_eq_true', Bool.or_eq_false_iff, Bool.and_eq_true, decide_eq_true_eq] at h
      exact h.resolve_right hn
    · cases this
/-- what a load gave is not touched by what stands behind it in the order -/
theorem OrderedX.againPut {gx : Nat → Nat → Bool} (O : OrderedX gx P ops π chk b) {j k z : Nat} {o oz : Oper} (hj : ops[j]? = some o) (hk : k ∈ chk j) (hz : ops[z]? = some oz) (hr : rank π k < rank π z) {a a' : Act} {v : Value} {w : World} (ht : a'.tmps = (a.put oz.dst v).tmps) :
    again P ops k a' w ↔ again P ops k a w := by
  obtain ⟨ok, hok, _, hall⟩ := O.chkLook j o k hj hk
  obtain ⟨h1, h2⟩ := hall z oz hz (fun e => by rw [e] at hr; omega) (by omega)
  exact again_put hok ht (writes_spec h1) (writes_dst h2) (Region.noSelect_spec O.select k ok · · hok)
theorem bubbleX {gx : Nat → Nat → Bool} (O : OrderedX gx P ops π chk b) {i : Nat} {oi : Oper} (hi : ops[i]? = some oi) (l2 : List Nat) (hl2 : ∀ z ∈ l2, rank π i < rank π z) : ∀ (l1 : List Nat) (C : List Nat), (l1 ++ i :: l2).Pairwise (fun x y => rank π x < rank π y) →
    (∀ z ∈ l1, z < ops.size) → (∀ z ∈ l1, bitOf b i z = false) → (∀ z ∈ l1, gx z i = false) → (∀ k ∈ C, k ∈ chk i ∧ ∀ z ∈ l1, rank π k < rank π z) → ∀ (a : Act) (w : World), wpG P ops (Strict ops K0) chk (l1 ++ i :: l2) a w →
    wpOp P ops (Strict ops K0) i (fun a w => (∀ k ∈ C, again P ops k a w) ∧ wpG P ops (Strict ops K0) chk (l1 ++ l2) a w) a w
  | [], C, _, _, _, _, hC, a, w, h => by
    have h : wpOp P ops (Strict ops K0) i (fun a' w' => (∀ k ∈ chk i, again P ops k a' w') ∧ wpG P ops (Strict ops K0) chk l2 a' w') a w := h
    exact wpOp_mono (fun a w h => ⟨fun k hk => h.1 k (hC k hk).1, h.2⟩) h
  | x :: l1, C, hs, hlt, hn, hnx, hC, a, w, h => by
    simp only [List.cons_append] at h ⊢ hs
    have hs' := List.pairwise_cons.1 hs
    have h : wpOp P ops (Strict ops K0) x (fun a' w' => (∀ k ∈ chk x, again P ops k a' w') ∧ wpG P ops (Strict ops K0) chk (l1 ++ i :: l2) a' w') a w := h
    let C' := if x ∈ chk i then x :: C else C
    have hC' : ∀ k ∈ C', k ∈ chk i ∧ ∀ z ∈ l1, rank π k < rank π z := by
      intro k hk
      by_cases hx : x ∈ chk i
      · simp only [C', hx, if_true, List.mem_cons] at hk
        rcases hk with rfl | hk
        · exact ⟨hx, fun z hz => hs'.1 z (by simp [hz])⟩
        · exact ⟨(hC k hk).1, fun z hz => (hC k hk).2 z (by simp [hz])⟩
      · simp only [C', hx, if_false] at hk
        exact ⟨(hC k hk).1, fun z hz => (hC k hk).2 z (by simp [hz])⟩
    have h := wpOp_mono (fun a w h => And.imp id (fun h => bubbleX O hi l2 hl2 l1 C' hs'.2 (fun z hz => hlt z (by simp [hz])) (fun z hz => hn z (by simp [hz])) (fun z hz => hnx z (by simp [hz])) hC' a w h) h) h
    obtain ⟨ox, hx⟩ : ∃ ox, ops[x]? = some ox := ⟨_, Array.getElem?_eq_getElem (hlt x (by simp))⟩
    have hxi : rank π x < rank π i := hs'.1 i (by simp)
    obtain ⟨hap, hcl⟩ := O.pair x i ox oi hx hi hxi (hn x (by simp)) (hnx x (by simp))
    have hself : ∀ {j o}, ops[j]? = some o → trivialOp o.op = true ∨ writes o (o.looksAt ops) = false := fun {j o} hj => O.look j o j o hj hj (by omega)
    have hsx := (Region.noSelect_spec O.select x ox · · hx)
    have hsi := (Region.noSelect_spec O.select i oi · · hi)
    have fin : ∀ {j o} {a w}, ops[j]? = some o → (∀ z ∈ l1 ++ l2, ¬ (rank π z < rank π j ∧ bitOf b j z = true)) → wpG P ops (Strict ops K0) chk (l1 ++ l2) a w → dynWant ops o a = true := fun {j o a w} hj hz hK => by
      cases htr : trivialOp o.op with
      | true => unfold dynWant; rw [dynOp_trivial htr]; rfl
      | false => exact finalG hj _ a w hK fun z hzm oz hoz => (O.look j o z oz hj hoz (hz z hzm)).resolve_left (by rw [htr]; exact Bool.false_ne_true)
    refine swapG hx hi hap hsx hsi (B := fun a w => ∀ k ∈ C', again P ops k a w) (A := fun a w => ∀ k ∈ chk x, again P ops k a w) ?_ (hself hx) (hself hi) (O.self x ox hx) ?_ ?_ ?_ ?_ (fun a w hK => ⟨fin hx (fun z hz hh => ?_) hK, fin hi (fun z hz hh => ?_) hK⟩) h
    · unfold clG clOK at hcl
      simp only [Bool.or_eq_true, Bool.and_eq_true, beq_iff_eq] at hcl
      rcases hcl with ((h | h) | h) | h
      · exact .inl h
      · exact .inr (.inl h)
      · exact .inr (.inr (.inl h))
      · refine .inr (.inr (.inr ⟨h.1, fun a w hB => hB x ?_⟩))
        have : x ∈ chk i := by simpa using h.2
        simp [C', this]
    · intro a1 v w1 hB k hk
      have hkC : k ∈ C' := by by_cases hx : x ∈ chk i <;> simp [C', hx, hk]
      exact (O.againPut hi (hC k hk).1 hx ((hC k hk).2 x (by simp)) rfl).1 (hB k hkC)
    · intro hc a w k hk
      have := O.chkAny i oi hi (by rw [hc]; exact fun h => by cases h)
      have hk' := (hC k hk).1
      rw [this] at hk'; cases hk'
    · intro hc a w k hk
      have := O.chkAny x ox hx (by rcases hc with hc | hc <;> rw [hc] <;> exact fun h => by cases h)
      rw [this] at hk; cases hk
    · intro a1 u w1 hA k hk
      obtain ⟨ok, hok, hrk, _⟩ := O.chkLook x ox k hx hk
      exact (O.againPut hx hk hi (by omega) rfl).2 (hA k hk)
    · have : rank π x < rank π z := hs'.1 z (by rcases List.mem_append.1 hz with h | h <;> simp [h])
      omega
    · rcases List.mem_append.1 hz with hz | hz
      · rw [hn z (by simp [hz])] at hh; cases hh.2
      · have := hl2 z hz; omega
theorem mask_listedX {gx : Nat → Nat → Bool} (O : OrderedX gx P ops π chk b) {listed : Array Bool} (hc : Closed ops listed) (hsz : listed.size = ops.size) : ∀ (d j : Nat) (o : Oper), j = d → ops[j]? = some o →
    (∀ e ∈ o.after, Region.binds .any e = true → listed.getD e.on false = true) → ∀ i, i < j → bitOf b j i = true → listed.getD i false = true := by
  intro d
  induction d using Nat.strongRecOn with
  | _ d ih =>
    intro j o hd hj hall i hij hb
    have hm := O.mask j o hj
    have := List.all_eq_true.1 hm i (List.mem_range.2 hij)
    have hb : (b.getD j 0).testBit i = true := by simp only [bitOf, Bool.and_eq_true] at hb; exact hb.2
    rw [hb] at this
    simp only [Bool.not_true, Bool.false_or] at this
    obtain ⟨e, hem, h2⟩ := Array.any_eq_true'.1 this
    simp only [Bool.and_eq_true, Bool.or_eq_true, beq_iff_eq, decide_eq_true_eq] at h2
    have hon := hall e hem h2.1
    rcases h2.2 with h3 | h3
    · rw [← h3]; exact hon
    · have hej := (O.edges j o hj e hem h2.1).1
      have hlt : e.on < ops.size := by
        have := (Array.getElem?_eq_some_iff.1 hj).1; omega
      have hoe : ops[e.on]? = some ops[e.on] := Array.getElem?_eq_getElem hlt
      refine ih e.on (by omega) e.on _ rfl hoe (hc _ _ hoe ?_) i h3.1 (by simp only [bitOf, Bool.and_eq_true, decide_eq_true_eq]; exact h3)
      have : e.on < listed.size := by omega
      simp [this] at hon ⊢; exact hon

/-- the orders that a draw can choose -/
def LinF (ops : Array Oper) : Nat → Array Bool → List Nat → Prop
  | 0, _, e => e = []
  | n + 1, listed, e => (Region.ready .any ops listed = [] ∧ e = []) ∨ ∃ i ∈ Region.ready .any ops listed, ∃ e', e = i :: e' ∧ LinF ops n (listed.setIfInBounds i true) e'
theorem linF_of : ∀ (fuel t : Nat) (listed : Array Bool), LinF ops fuel listed (Region.linearise.go .any ops fuel t listed [])
  | 0, t, listed => by simp [Region.linearise.go, LinF]
  | fuel + 1, t, listed => by
    simp only [Region.linearise.go]
    change LinF ops (fuel + 1) listed (match (Region.ready .any ops listed)[t % (Region.ready .any ops listed).length]? with
      | some i => Region.linearise.go .any ops fuel (t / (Region.ready .any ops listed).length) (listed.setIfInBounds i true) [i]
      | none => [].reverse)
    cases hi : (Region.ready .any ops listed)[t % (Region.ready .any ops listed).length]? with
    | none =>
      refine .inl ⟨?_, rfl⟩
      cases hr : Region.ready .any ops listed with
      | nil => rfl
      | cons x xs =>
        rw [hr] at hi
        have hlt : t % (x :: xs).length < (x :: xs).length := Nat.mod_lt _ (by simp)
        simp at hi
        simp at hlt
        omega
    | some i =>
      refine .inr ⟨i, List.mem_of_getElem? hi, Region.linearise.go .any ops fuel (t / (Region.ready .any ops listed).length) (listed.setIfInBounds i true) [], ?_, linF_of fuel _ _⟩
      simp only []
      rw [linearise_go_acc, List.reverse_singleton, List.singleton_append]
theorem ops_of_X {gx : Nat → Nat → Bool} {gs : List (List Nat)} (hgx : ∀ i j, gx i j = true → ∃ g ∈ gs, g.contains i = true ∧ g.contains j = true) (O : OrderedX gx P ops π chk b) : ∀ (fuel : Nat) (l : List Nat) (listed : Array Bool) (e : List Nat), l.length = fuel → listed.size = ops.size → l.Pairwise (fun x y => rank π x < rank π y) →
    (∀ k, k ∈ l ↔ k < ops.size ∧ listed.getD k true = false) → Closed ops listed → LinF ops fuel listed e →
    e.Perm l ∧ ((∀ g ∈ gs, l.filter g.contains = e.filter g.contains) → ∀ (a : Act) (w : World), wpG P ops (Strict ops K0) chk l a w → wpOps P ops (Strict ops K0) e a w)
  | 0, l, listed, e, hf, hsz, hs, hm, hc, he => by
    obtain rfl := List.eq_nil_of_length_eq_zero hf
    obtain rfl : e = [] := he
    exact ⟨List.Perm.refl _, fun _ a w h => h⟩
  | fuel + 1, l, listed, e, hf, hsz, hs, hm, hc, he => by
    rcases he with ⟨hr, rfl⟩ | ⟨i, hi, e', rfl, he⟩
    · exfalso
      cases l with
      | nil => cases hf
      | cons k l =>
        obtain ⟨hk, hkl⟩ := (hm k).1 (by simp)
        have hok : ops[k]? = some ops[k] := Array.getElem?_eq_getElem hk
        have : k ∈ Region.ready .any ops listed := mem_ready.2 ⟨hkl, _, hok, fun e he hbd => by
          have hej := O.edges k _ hok e he hbd
          cases hl : listed.getD e.on true with
          | true =>
            have hlt : e.on < listed.size := by omega
            simp [hlt] at hl ⊢; exact hl
          | false =>
            have := (hm e.on).2 ⟨by omega, hl⟩
            rcases List.mem_cons.1 this with h1 | h1
            · omega
            · have := (List.pairwise_cons.1 hs).1 _ h1; omega⟩
        rw [hr] at this
        cases this
    · obtain ⟨h1, oi, h2, hall⟩ := mem_ready.1 hi
      have hin : i < ops.size := (Array.getElem?_eq_some_iff.1 h2).1
      obtain ⟨l1, l2, rfl⟩ := List.append_of_mem ((hm i).2 ⟨hin, h1⟩)
      have hpw := List.pairwise_append.1 hs
      have hnot1 : i ∉ l1 := fun hx => by have := hpw.2.2 i hx i (by simp); omega
      have hnot2 : i ∉ l2 := fun hx => by have := (List.pairwise_cons.1 hpw.2.1).1 i hx; omega
      have ih := ops_of_X hgx O fuel (l1 ++ l2) _ e' (by simp at hf ⊢; omega) (by simp [hsz]) (hs.sublist (List.Sublist.append (List.Sublist.refl _) (List.sublist_cons_self _ _))) (fun k => by
        by_cases hki : k = i
        · subst hki
          have hlt : k < listed.size := by omega
          simp [hnot1, hnot2, hlt]
        · rw [getD_set_ne true (fun e => hki e.symm), ← hm k]
          simp [hki]) (by
        intro j o hj hl ed hed hbd
        by_cases hji : j = i
        · subst hji
          have : o = oi := Option.some.inj (hj.symm.trans h2)
          subst this
          exact getD_set_true (hall ed hed hbd)
        · rw [getD_set_ne true (fun e => hji e.symm)] at hl
          exact getD_set_true (hc j o hj hl ed hed hbd)) he
      refine ⟨(ih.1.cons i).trans List.perm_middle.symm, fun hg a w h => ?_⟩
      have hfirst : ∀ g ∈ gs, g.contains i = true → l1.filter g.contains = [] := fun g hgm hgi => by
        have := hg g hgm
        rw [List.filter_append, List.filter_cons_of_pos hgi, List.filter_cons_of_pos hgi] at this
        cases hq : l1.filter g.contains with
        | nil => rfl
        | cons z q =>
          rw [hq, List.cons_append] at this
          have hz : z = i := (List.cons.inj this).1
          have : z ∈ l1.filter g.contains := by rw [hq]; simp
          rw [hz] at this
          exact absurd (List.mem_filter.1 this).1 hnot1
      rw [wpOps_cons]
      refine wpOp_mono (fun a w h => ih.2 (fun g hgm => ?_) a w h.2)
        (bubbleX O h2 l2 (fun z hz => (List.pairwise_cons.1 hpw.2.1).1 z hz) l1 [] hs (fun z hz => ((hm z).1 (by simp [hz])).1) (fun z hz => ?_) (fun z hz => ?_) (by simp) a w h)
      · have hgg := hg g hgm
        rw [List.filter_append] at hgg ⊢
        cases hgi : g.contains i with
        | true =>
          rw [hfirst g hgm hgi, List.filter_cons_of_pos hgi, List.filter_cons_of_pos hgi] at hgg
          rw [hfirst g hgm hgi]
          exact (List.cons.inj hgg).2
        | false =>
          rwa [List.filter_cons_of_neg (by simp only [hgi, Bool.false_eq_true, not_false_eq_true]), List.filter_cons_of_neg (by simp only [hgi, Bool.false_eq_true, not_false_eq_true])] at hgg
      · cases ht : bitOf b i z with
        | false => rfl
        | true =>
          exfalso
          have h3 := mask_listedX O hc hsz i i oi rfl h2 hall z (by simp only [bitOf, Bool.and_eq_true, decide_eq_true_eq] at ht; exact ht.1) ht
          have h4 := ((hm z).1 (by simp [hz])).2
          have hlt : z < listed.size := by have := ((hm z).1 (by simp [hz])).1; omega
          simp [hlt] at h3 h4
          rw [h3] at h4; cases h4
      · cases ht : gx z i with
        | false => rfl
        | true =>
          exfalso
          obtain ⟨g, hgm, hgz, hgi⟩ := hgx z i ht
          have : z ∈ l1.filter g.contains := List.mem_filter.2 ⟨hz, hgz⟩
          rw [hfirst g hgm hgi] at this
          cases this
end
/-! ### Alternatives -/
def ins (x : Nat) : List Nat → List (List Nat)
  | [] => [[x]]
  | y :: l => (x :: y :: l) :: (ins x l).map (y :: ·)
def permsOf : List Nat → List (List Nat)
  | [] => [[]]
  | x :: g => (permsOf g).flatMap (ins x)
theorem mem_ins (x : Nat) : ∀ (q1 q2 : List Nat), q1 ++ x :: q2 ∈ ins x (q1 ++ q2)
  | [], [] => by simp [ins]
  | [], y :: q2 => by simp [ins]
  | y :: q1, q2 => by
    have := mem_ins x q1 q2
    simp only [List.cons_append, ins, List.mem_cons]
    exact .inr (List.mem_map.2 ⟨_, this, rfl⟩)
theorem mem_permsOf : ∀ {g q : List Nat}, q.Perm g → q ∈ permsOf g
  | [], q, h => by rw [h.eq_nil]; simp [permsOf]
  | x :: g, q, h => by
    obtain ⟨q1, q2, rfl⟩ := List.append_of_mem (h.mem_iff.2 (List.mem_cons_self))
    have : (q1 ++ q2).Perm g := (List.perm_middle.symm.trans h).cons_inv
    exact List.mem_flatMap.2 ⟨_, mem_permsOf this, mem_ins x q1 q2⟩
/-- each segment: the orders of its operations, and the loads that are looked at again behind it -/
abbrev Alts := List (List (List Nat) × List Nat)
def expand : Alts → List (List (List Nat × List Nat))
  | [] => [[]]
  | (ls, c) :: r => ls.flatMap fun l => (expand r).map fun ss => (l, c) :: ss
def allW (W : List Nat → Prop) : List (List Nat) → Prop
  | [] => True
  | [l] => W l
  | l :: ls => W l ∧ allW W ls
theorem allW_mem {W : List Nat → Prop} : ∀ {ls : List (List Nat)}, allW W ls → ∀ l ∈ ls, W l
  | [], _, l, hl => by cases hl
  | [x], h, l, hl => by
    obtain rfl := List.mem_singleton.1 hl
    exact h
  | x :: y :: ls, h, l, hl => by
    rcases List.mem_cons.1 hl with rfl | hl
    · exact h.1
    · exact allW_mem h.2 l hl
def wpSegsA (P : Program) (ops : Array Oper) (K0 : Act → World → Prop) : Alts → Act → World → Prop
  | [], a, w => Strict ops K0 .normal a w
  | (ls, c) :: r, a, w => allW (fun l => wpList P ops (Mid fun a w => againAll P ops c a w ∧ wpSegsA P ops K0 r a w) (pick ops l) a w) ls
theorem wpList_imp {P : Program} {ops : Array Oper} {K K' : Act → World → Prop} {l : List Nat} (hl : ∀ i ∈ l, i < ops.size) {a : Act} {w : World} (hk : ∀ a w, K a w → K' a w) (h : wpList P ops (Mid K) (pick ops l) a w) : wpList P ops (Mid K') (pick ops l) a w := by
  rw [wpList_pick l hl] at h ⊢
  induction l generalizing a w with
  | nil => exact hk a w h
  | cons i l ih =>
    rw [wpOps_cons] at h ⊢
    exact wpOp_mono (fun a w h => ih (fun j hj => hl j (by simp [hj])) h) (wpOp_post (Q' := Mid K') (fun _ _ _ h => h) (fun ⟨_, _, h⟩ => h.elim) h)
theorem wpSegs_of {P : Program} {ops : Array Oper} {K0 : Act → World → Prop} : ∀ {sss : Alts} {a : Act} {w : World} {ss : List (List Nat × List Nat)}, (∀ i ∈ orderOf ss, i < ops.size) → wpSegsA P ops K0 sss a w → ss ∈ expand sss → wpSegs P ops K0 ss a w
  | [], a, w, ss, hlt, h, hs => by
    obtain rfl := List.mem_singleton.1 hs
    exact h
  | (ls, c) :: r, a, w, ss, hlt, h, hs => by
    obtain ⟨l, hl, hs⟩ := List.mem_flatMap.1 hs
    obtain ⟨ss', hs', rfl⟩ := List.mem_map.1 hs
    exact wpList_imp (fun i hi => hlt i (by simp [orderOf, hi])) (fun a w h => ⟨h.1, wpSegs_of (fun i hi => hlt i (by simp [orderOf, hi])) h.2 hs'⟩) (allW_mem h l hl)
/-- whatever order the groups' operations stand in, one of the candidates has it -/
def coverB (base : List Nat) : List (List Nat) → List (List (List Nat × List Nat)) → Bool
  | [], cands => !cands.isEmpty
  | g :: gs, cands => (permsOf (base.filter g.contains)).all fun p => coverB base gs (cands.filter fun ss => (orderOf ss).filter g.contains == p)
theorem cover_of {base e : List Nat} (he : e.Perm base) : ∀ {gs : List (List Nat)} {cands : List (List (List Nat × List Nat))}, coverB base gs cands = true → ∃ ss ∈ cands, ∀ g ∈ gs, (orderOf ss).filter g.contains = e.filter g.contains
  | [], cands, h => by
    cases cands with
    | nil => cases h
    | cons x l => exact ⟨x, by simp, by simp⟩
  | g :: gs, cands, h => by
    have h1 := List.all_eq_true.1 h (e.filter g.contains) (mem_permsOf (he.filter _))
    obtain ⟨ss, h2, h3⟩ := cover_of he h1
    obtain ⟨h4, h5⟩ := List.mem_filter.1 h2
    refine ⟨ss, h4, fun g' hg' => ?_⟩
    rcases List.mem_cons.1 hg' with rfl | hg'
    · exact eq_of_beq h5
    · exact h3 g' hg'
def groupsX (gs : List (List Nat)) (i j : Nat) : Bool := gs.any fun g => g.contains i && g.contains j
def altsFit (P : Program) (ops : Array Oper) (gs : List (List Nat)) (sss : Alts) : Bool :=
  ((expand sss).all fun ss => orderOKX (groupsX gs) P ops (orderOf ss) (chkOf ss) && segsOK (chkOf ss) ss) && coverB (List.range ops.size) gs (expand sss)
/-- A REGION THAT DRAWS ITS ORDER, WALKED IN SEGMENTS WITH ALTERNATIVES: gs are the groups of operations that lie unordered and do not commute. -/
theorem wp_region_alts {P : Program} {id : Nat} {l : List Oper} {Q : Exit → Act → World → Prop} {a : Act} {w : World} (gs : List (List Nat)) (sss : Alts) (hm : P.follows .mixedOrders = true)
    (hc : altsFit P l.toArray gs sss = true) (h : wpSegsA P l.toArray (Q .normal) sss a w.drew) : (Code.region id l.toArray true).wp P Q a w := by
  refine Code.wp_mono (Strict.imp (ops := l.toArray) (Q := Q)) (wp_region_draw fun t => ?_)
  simp only [Region.schedule, hm, Bool.true_or, if_true]
  unfold altsFit at hc
  rw [Bool.and_eq_true] at hc
  have hlin := linF_of (ops := l.toArray) l.toArray.size t (Array.replicate l.toArray.size false)
  have start : ∀ ss ∈ expand sss, ∃ O : OrderedX (groupsX gs) P l.toArray (orderOf ss) (chkOf ss) (Region.before l.toArray), segsOK (chkOf ss) ss = true := fun ss hs => by
    have := List.all_eq_true.1 hc.1 ss hs
    rw [Bool.and_eq_true] at this
    exact ⟨OrderedX.of this.1, this.2⟩
  have hgx : ∀ i j, groupsX gs i j = true → ∃ g ∈ gs, g.contains i = true ∧ g.contains j = true := fun i j hij => by
    obtain ⟨g, hg, h2⟩ := List.any_eq_true.1 hij
    rw [Bool.and_eq_true] at h2
    exact ⟨g, hg, h2⟩
  have run : ∀ ss ∈ expand sss, ∀ e, LinF l.toArray l.toArray.size (Array.replicate l.toArray.size false) e → e.Perm (orderOf ss) ∧ ((∀ g ∈ gs, (orderOf ss).filter g.contains = e.filter g.contains) → ∀ (a : Act) (w : World), wpG P l.toArray (Strict l.toArray (Q .normal)) (chkOf ss) (orderOf ss) a w → wpOps P l.toArray (Strict l.toArray (Q .normal)) e a w) := fun ss hs e he => by
    obtain ⟨O, hsg⟩ := start ss hs
    have hlen : (orderOf ss).length = l.length := by simpa using O.len
    refine ops_of_X hgx O _ (orderOf ss) _ e (by simp [hlen]) (by simp) ?_ (fun k => ?_) ?_ he
    · have hnd := O.nodup
      rw [List.pairwise_iff_getElem]
      intro i j hi hj hij
      unfold rank
      rw [hnd.idxOf_getElem i hi, hnd.idxOf_getElem j hj]
      exact hij
    · rw [← O.all k]
      simp
      intro hk
      rw [Array.getElem?_replicate]
      simp [hk]
    · intro j o hj hl
      have hlt : j < l.length := by have := (Array.getElem?_eq_some_iff.1 hj).1; simpa using this
      rw [Array.getD_eq_getD_getElem?, Array.getElem?_replicate] at hl
      simp [hlt] at hl
  cases hx : expand sss with
  | nil =>
    exfalso
    have hne : ∀ gs, coverB (List.range l.toArray.size) gs [] = false := fun gs => by
      induction gs with
      | nil => rfl
      | cons g gs ih =>
        cases hp : coverB (List.range l.toArray.size) (g :: gs) [] with
        | false => rfl
        | true =>
          have h1 := List.all_eq_true.1 hp _ (mem_permsOf (List.Perm.refl _))
          simp only [List.filter_nil] at h1
          rw [ih] at h1; cases h1
    have := hc.2
    rw [hx, hne] at this; cases this
  | cons ss0 r0 =>
    have hs0 : ss0 ∈ expand sss := by rw [hx]; simp
    obtain ⟨O0, _⟩ := start ss0 hs0
    have hp0 := (run ss0 hs0 _ hlin).1
    have hbase : (orderOf ss0).Perm (List.range l.toArray.size) := (List.perm_ext_iff_of_nodup O0.nodup List.nodup_range).2 fun k => by rw [← O0.all k, List.mem_range]
    obtain ⟨ss, hs, hg⟩ := cover_of (hp0.trans hbase) hc.2
    obtain ⟨O, hsg⟩ := start ss hs
    exact (run ss hs _ hlin).2 hg _ _ (wpG_of_segs ss a _ hsg (fun i hi => (O.all i).2 hi) (wpSegs_of (fun i hi => (O.all i).2 hi) h hs))
/-- one segment: what follows it is a letter -/
theorem alts_step {P : Program} {ops : Array Oper} {K0 : Act → World → Prop} {ls : List (List Nat)} {c : List Nat} {r : Alts} {a : Act} {w : World}
    (h : ∀ K : Act → World → Prop, (∀ a w, againAll P ops c a w → wpSegsA P ops K0 r a w → K a w) → allW (fun l => wpList P ops (Mid K) (pick ops l) a w) ls) : wpSegsA P ops K0 ((ls, c) :: r) a w :=
  h (fun a w => againAll P ops c a w ∧ wpSegsA P ops K0 r a w) fun _ _ h1 h2 => ⟨h1, h2⟩
theorem alts_end {P : Program} {ops : Array Oper} {K0 : Act → World → Prop} {a : Act} {w : World} (hd : dynAll ops a = true) (h : K0 a w) : wpSegsA P ops K0 [] a w := Strict.intro hd h
end Go.Proofs.Rg
end

section
/- A region that draws its order, walked once for each of some orders. -/
namespace Go.Proofs.Rg
open Go
set_option linter.unusedVariables false
set_option linter.unusedSimpArgs false
def allS (W : List (List Nat × List Nat) → Prop) : List (List (List Nat × List Nat)) → Prop
  | [] => True
  | [l] => W l
  | l :: ls => W l ∧ allS W ls
theorem allS_mem {W : List (List Nat × List Nat) → Prop} : ∀ {ls : List (List (List Nat × List Nat))}, allS W ls → ∀ l ∈ ls, W l
  | [], _, l, hl => by cases hl
  | [x], h, l, hl => by
    obtain rfl := List.mem_singleton.1 hl
    exact h
  | x :: y :: ls, h, l, hl => by
    rcases List.mem_cons.1 hl with rfl | hl
    · exact h.1
    · exact allS_mem h.2 l hl
def candsFit (P : Program) (ops : Array Oper) (gs : List (List Nat)) (cs : List (List (List Nat × List Nat))) : Bool :=
  (cs.all fun ss => orderOKX (groupsX gs) P ops (orderOf ss) (chkOf ss) && segsOK (chkOf ss) ss) && coverB (List.range ops.size) gs cs
/-- A REGION THAT DRAWS ITS ORDER, WALKED ONCE FOR EACH OF SOME ORDERS: gs are the groups of operations that lie unordered and do not commute. -/
theorem wp_region_cands {P : Program} {id : Nat} {l : List Oper} {Q : Exit → Act → World → Prop} {a : Act} {w : World} (gs : List (List Nat)) (cs : List (List (List Nat × List Nat))) (hm : P.follows .mixedOrders = true)
    (hc : candsFit P l.toArray gs cs = true) (h : allS (fun ss => wpSegs P l.toArray (Q .normal) ss a w.drew) cs) : (Code.region id l.toArray true).wp P Q a w := by
  refine Code.wp_mono (Strict.imp (ops := l.toArray) (Q := Q)) (wp_region_draw fun t => ?_)
  simp only [Region.schedule, hm, Bool.true_or, if_true]
  unfold candsFit at hc
  rw [Bool.and_eq_true] at hc
  have hlin := linF_of (ops := l.toArray) l.toArray.size t (Array.replicate l.toArray.size false)
  have start : ∀ ss ∈ cs, ∃ O : OrderedX (groupsX gs) P l.toArray (orderOf ss) (chkOf ss) (Region.before l.toArray), segsOK (chkOf ss) ss = true := fun ss hs => by
    have := List.all_eq_true.1 hc.1 ss hs
    rw [Bool.and_eq_true] at this
    exact ⟨OrderedX.of this.1, this.2⟩
  have hgx : ∀ i j, groupsX gs i j = true → ∃ g ∈ gs, g.contains i = true ∧ g.contains j = true := fun i j hij => by
    obtain ⟨g, hg, h2⟩ := List.any_eq_true.1 hij
    rw [Bool.and_eq_true] at h2
    exact ⟨g, hg, h2⟩
  have run : ∀ ss ∈ cs, ∀ e, LinF l.toArray l.toArray.size (Array.replicate l.toArray.size false) e → e.Perm (orderOf ss) ∧ ((∀ g ∈ gs, (orderOf ss).filter g.contains = e.filter g.contains) → ∀ (a : Act) (w : World), wpG P l.toArray (Strict l.toArray (Q .normal)) (chkOf ss) (orderOf ss) a w → wpOps P l.toArray (Strict l.toArray (Q .normal)) e a w) := fun ss hs e he => by
    obtain ⟨O, hsg⟩ := start ss hs
    have hlen : (orderOf ss).length = l.length := by simpa using O.len
    refine ops_of_X hgx O _ (orderOf ss) _ e (by simp [hlen]) (by simp) ?_ (fun k => ?_) ?_ he
    · have hnd := O.nodup
      rw [List.pairwise_iff_getElem]
      intro i j hi hj hij
      unfold rank
      rw [hnd.idxOf_getElem i hi, hnd.idxOf_getElem j hj]
      exact hij
    · rw [← O.all k]
      simp
      intro hk
      rw [Array.getElem?_replicate]
      simp [hk]
    · intro j o hj hl
      have hlt : j < l.length := by have := (Array.getElem?_eq_some_iff.1 hj).1; simpa using this
      rw [Array.getD_eq_getD_getElem?, Array.getElem?_replicate] at hl
      simp [hlt] at hl
  cases hx : cs with
  | nil =>
    exfalso
    have hne : ∀ gs, coverB (List.range l.toArray.size) gs [] = false := fun gs => by
      induction gs with
      | nil => rfl
      | cons g gs ih =>
        cases hp : coverB (List.range l.toArray.size) (g :: gs) [] with
        | false => rfl
        | true =>
          have h1 := List.all_eq_true.1 hp _ (mem_permsOf (List.Perm.refl _))
          simp only [List.filter_nil] at h1
          rw [ih] at h1; cases h1
    have := hc.2
    rw [hx, hne] at this; cases this
  | cons ss0 r0 =>
    have hs0 : ss0 ∈ cs := by rw [hx]; simp
    obtain ⟨O0, _⟩ := start ss0 hs0
    have hp0 := (run ss0 hs0 _ hlin).1
    have hbase : (orderOf ss0).Perm (List.range l.toArray.size) := (List.perm_ext_iff_of_nodup O0.nodup List.nodup_range).2 fun k => by rw [← O0.all k, List.mem_range]
    obtain ⟨ss, hs, hg⟩ := cover_of (hp0.trans hbase) hc.2
    obtain ⟨O, hsg⟩ := start ss hs
    exact (run ss hs _ hlin).2 hg _ _ (wpG_of_segs ss a _ hsg (fun i hi => (O.all i).2 hi) (allS_mem h ss hs))
end Go.Proofs.Rg
end

section
/- The reference's valid formulas. -/
namespace Go.Proofs.Ytjidldfnlejdhaa
open Go Go.RowKit Go.Proofs.Rg Go.Proofs.Mp Go.Proofs.Hp Go.Proofs.Sv
set_option linter.unusedVariables false
set_option linter.unusedSimpArgs false
theorem Rliteral_calls {w : World} {V x : Int} (hV : 0 ≤ V ∧ V ≤ 65536) : Calls Try.prog 49 #[.int .i64 x, .int .i64 V] w fun e w' => e = .returned (.bool (okLit V x)) ∧ w' = w := by
  have hw1 : IntKind.i64.wrap (-V) = -V := IntWalk.i64_in _ (by omega)
  by_cases h0 : x = 0
  · have b0 : (x != 0) = false := by simpa using h0
    have HR := Lib.hid (show okLit V x = false by unfold okLit; simp [h0])
    clear h0
    go_enter Try.func49, Try.ntmps49
    go_wp2
    go_ret
    exact ⟨by rw [HR.out]; rfl, rfl⟩
  have b0 : (x != 0) = true := by simpa using h0
  by_cases h1 : x < -V
  · have b1 : decide (x ≥ -V) = false := by simp; omega
    have HR := Lib.hid (show okLit V x = false by unfold okLit; simp [h1])
    clear h0 h1
    go_enter Try.func49, Try.ntmps49
    go_wp2
    go_ret
    exact ⟨by rw [HR.out]; rfl, rfl⟩
  have b1 : decide (x ≥ -V) = true := by simp; omega
  by_cases h2 : x > V
  · have b2 : decide (x ≤ V) = false := by simp; omega
    have HR := Lib.hid (show okLit V x = false by unfold okLit; simp [h2])
    clear h0 h1 h2
    go_enter Try.func49, Try.ntmps49
    go_wp2
    go_ret
    exact ⟨by rw [HR.out]; rfl, rfl⟩
  have b2 : decide (x ≤ V) = true := by simp; omega
  have HR := Lib.hid (show okLit V x = true by unfold okLit; simp; omega)
  clear h0 h1 h2
  go_enter Try.func49, Try.ntmps49
  go_wp2
  go_ret
  exact ⟨by rw [HR.out]; rfl, rfl⟩
set_option maxHeartbeats 4000000 in
theorem R40Right_calls {w : World} {V : Int} {a : Option Addr} {c : Nat} {cs : List (List Int)} (h : FormAt w a c cs) :
    Calls Try.prog 26 #[.agg #[.int .i64 V, .slice a cs.length c]] w fun e w' => e = .returned (.bool (rightF V cs)) ∧ Fr [] w w' := by
  have HI := Lib.hid h
  obtain ⟨n, hn⟩ : ∃ n, cs.length = n := ⟨_, rfl⟩
  have hl := h.2.1
  unfold rightF
  rw [hn] at hl ⊢
  have HN := Lib.hid hn
  clear h hn
  by_cases h0 : V < 0
  · have b0 : decide (V < 0) = true := by simpa using h0
    go_enter Try.func26, Try.ntmps26
    go_wp2
    go_ret
    exact ⟨by simp [h0], by (repeat first | exact Fr.refl _ _ | assumption | apply Fr.n | apply Fr.d | apply Fr.a | refine Fr.s ?_ (.inr (by simp; try omega)) _)⟩
  by_cases h1 : V > 65536
  · have b0 : decide (V < 0) = false := by simpa using h0
    have b1 : decide (V > 65536) = true := by simpa using h1
    go_enter Try.func26, Try.ntmps26
    go_wp2
    go_ret
    exact ⟨by simp [h1], by (repeat first | exact Fr.refl _ _ | assumption | apply Fr.n | apply Fr.d | apply Fr.a | refine Fr.s ?_ (.inr (by simp; try omega)) _)⟩
  have b0 : decide (V < 0) = false := by simpa using h0
  have b1 : decide (V > 65536) = false := by simpa using h1
  by_cases h2 : n > 262144
  · have b2 : decide ((n : Int) > 262144) = true := by simp; omega
    have hb3 : decide (n > 262144) = true := by simpa using h2
    rw [b0, b1, hb3]
    clear hb3
    go_enter Try.func26, Try.ntmps26
    go_wp2
    go_ret
    exact ⟨by simp, by (repeat first | exact Fr.refl _ _ | assumption | apply Fr.n | apply Fr.d | apply Fr.a | refine Fr.s ?_ (.inr (by simp; try omega)) _)⟩
  have b2 : decide ((n : Int) > 262144) = false := by simp; omega
  have hb3 : decide (n > 262144) = false := by simpa using h2
  have HV := Lib.hid (show 0 ≤ V ∧ V ≤ 65536 by omega)
  obtain ⟨R, hR⟩ : ∃ R, cs.all (fun c => c.all (okLit V)) = R := ⟨_, rfl⟩
  rw [b0, b1, hb3, hR]
  have HR := Lib.hid hR
  have hn6 : n ≤ 262144 := by omega
  clear hb3 hR h0 h1 h2
  go_enter Try.func26, Try.ntmps26
  go_wp2
  obtain ⟨bb, hbb⟩ : ∃ b, w.heap.size = b := ⟨_, rfl⟩
  refine abs_world (fun w' => w'.cell? ⟨bb, 0, none⟩ = some (.int .i64 V) ∧ w'.cell? ⟨bb, 1, none⟩ = some (.slice a n c) ∧ bb < w'.heap.size ∧ Fr [] w w') ⟨?_, ?_, ?_, ?_⟩ ?_
  · rw [← hbb]; simp
  · rw [← hbb]; simp
  · rw [← hbb]; simp
  · (repeat first | exact Fr.refl _ _ | assumption | apply Fr.n | apply Fr.d | apply Fr.a | refine Fr.s ?_ (.inr (by simp; try omega)) _)
  rintro w1 ⟨v0, v1, vl, hf1⟩
  rw [hbb]
  have HF1 := Lib.hid hf1
  clear hbb hf1
  go_loopg [3] n (fun gg z wr => ∃ i : Nat, i ≤ n ∧ n - i ≤ gg ∧ z = .int .i64 (i : Int) ∧ Hid (Fr [] w1 wr) ∧ Hid ((cs.take i).all (fun c => c.all (okLit V)) = true))
  case atStart => exact ⟨0, Nat.zero_le _, by omega, rfl, Lib.hid (Fr.refl [] _), Lib.hid rfl⟩
  case round =>
    obtain ⟨i, hi, hg, rfl, HW, HA⟩ := hrel
    have u0 := (HW.out.cell (p := ⟨bb, 0, none⟩) vl (by simp)).trans v0
    have u1 := (HW.out.cell (p := ⟨bb, 1, none⟩) vl (by simp)).trans v1
    have ul := Nat.lt_of_lt_of_le vl HW.out.size
    by_cases hin : i < n
    · obtain ⟨r, hr⟩ : ∃ r, cs[i]? = some r := ⟨_, List.getElem?_eq_getElem (by rw [HN.out]; exact hin)⟩
      obtain ⟨g, off, ra, rc, hae, hgl, hc, hri⟩ := (HI.out.fr (HF1.out.trans0 HW.out)).1.row hr
      subst hae
      have hrl := HI.out.2.2 r (List.mem_of_getElem? hr)
      have htk : cs.take (i + 1) = cs.take i ++ [r] := by rw [List.take_add_one, hr]; rfl
      have HTK := Lib.hid htk
      have HRI := Lib.hid (And.intro hri hr)
      obtain ⟨m, hm⟩ : ∃ m, r.length = m := ⟨_, rfl⟩
      rw [hm] at hrl hc
      have HM := Lib.hid hm
      have HC := Lib.hid hc
      obtain ⟨wo, hwo⟩ : ∃ wo, wr = wo := ⟨_, rfl⟩
      rw [hwo] at HW HRI HC hgl
      have HWO := Lib.hid hwo
      clear htk hri hr hm hwo
      go_wp2
      clear u0 u1 ul hc
      go_loopg [4] m (fun gg z wq => ∃ k : Nat, k ≤ m ∧ m - k ≤ gg ∧ z = .int .i64 (k : Int) ∧ Hid (Fr [] wo wq) ∧ Hid ((r.take k).all (okLit V) = true))
      case atStart => exact ⟨0, Nat.zero_le _, by omega, rfl, Lib.hid (by rw [HWO.out]; exact Fr.refl [] _), Lib.hid rfl⟩
      case round =>
        obtain ⟨k, hk, hgk, rfl, HQ, HB⟩ := hrel
        have HWQ := Lib.hid (HW.out.trans0 HQ.out)
        have u0 := (HWQ.out.cell (p := ⟨bb, 0, none⟩) vl (by simp)).trans v0
        have u1 := (HWQ.out.cell (p := ⟨bb, 1, none⟩) vl (by simp)).trans v1
        have ul := Nat.lt_of_lt_of_le vl HWQ.out.size
        have hc := (HQ.out.cell (p := ⟨g, off + i, none⟩) hgl (by simp)).trans HC.out
        have hglq := Nat.lt_of_lt_of_le hgl HQ.out.size
        by_cases hkm : k < m
        · obtain ⟨x, hx⟩ : ∃ x, r[k]? = some x := ⟨_, List.getElem?_eq_getElem (by rw [HM.out]; exact hkm)⟩
          obtain ⟨g2, off2, rfl, hgl2, hc2⟩ := IntsAt.get (HRI.out.1.fr HQ.out) hx
          have htk : r.take (k + 1) = r.take k ++ [x] := by rw [List.take_add_one, hx]; rfl
          have HTK2 := Lib.hid htk
          have HX := Lib.hid hx
          obtain ⟨ok, hok⟩ : ∃ ok, okLit V x = ok := ⟨_, rfl⟩
          have HOK := Lib.hid hok
          clear htk hx hok
          go_wp2
          (refine wp_region_text (by kernel_rfl) (by kernel_rfl) ?_)
          go_wp2_with fail
          refine (Rliteral_calls HV.out).mono ?_
          rintro e w2 ⟨rfl, rfl⟩
          rw [HOK.out]
          cases ok with
          | true =>
            go_wp2
            refine Strict.intro rfl ?_
            go_wp2
            go_roundg (m - (k + 1))
            case measure => omega
            case rel => exact ⟨k + 1, hkm, Nat.le_refl _, by simp, Lib.hid (HQ.out.trans0 (by (repeat first | exact Fr.refl _ _ | assumption | apply Fr.n | apply Fr.d | apply Fr.a | refine Fr.s ?_ (.inr (by simp; try omega)) _))), Lib.hid (by rw [HTK2.out, List.all_append, HB.out]; simp [HOK.out])⟩
          | false =>
            have hres : R = false := by
              rw [← HR.out, List.all_eq_false]
              refine ⟨r, List.mem_of_getElem? HRI.out.2, ?_⟩
              rw [Bool.not_eq_true, List.all_eq_false]
              exact ⟨x, List.mem_of_getElem? HX.out, by rw [HOK.out]; simp⟩
            have HRES := Lib.hid hres
            clear hres
            go_wp2
            refine Strict.intro rfl ?_
            go_wp2
            go_ret
            exact ⟨by rw [HRES.out]; rfl, HF1.out.trans0 (HWQ.out.trans0 (by (repeat first | exact Fr.refl _ _ | assumption | apply Fr.n | apply Fr.d | apply Fr.a | refine Fr.s ?_ (.inr (by simp; try omega)) _)))⟩
        · obtain rfl : k = m := by omega
          have hall := HB.out
          rw [List.take_of_length_le (by rw [HM.out]; exact Nat.le_refl _)] at hall
          have HALL := Lib.hid hall
          clear hall HB
          go_wp2
          go_roundg (n - (i + 1))
          case measure => omega
          case rel => exact ⟨i + 1, hin, Nat.le_refl _, by simp, HWQ, Lib.hid (by rw [HTK.out, List.all_append, HA.out]; simp [HALL.out])⟩
    · obtain rfl : i = n := by omega
      have hall := HA.out
      rw [List.take_of_length_le (by rw [HN.out]; exact Nat.le_refl _), HR.out] at hall
      have HALL := Lib.hid hall
      clear hall HA
      go_wp2
      go_ret
      exact ⟨by rw [HALL.out]; rfl, HF1.out.trans0 HW.out⟩
end Go.Proofs.Ytjidldfnlejdhaa
end
