/- Own texts of this claim, part 6: no condition. -/
import Derived.Laws.EntriesVeiled
import Derived.Test.YtbpaadpocihahaaZM4
import Derived.Test.YtbpaadpocihahaaZM1
set_option linter.unusedVariables false
set_option linter.unusedSimpArgs false
section
/- refute: the engine in the heap; value, set. -/
namespace Go.Proofs.Ytbpaadpocihahaa
open Go Go.RowKit Go.Proofs.Rg Go.Proofs.Mp Go.Proofs.Hp Go.Proofs.Sv Go.Proofs.Rp
set_option linter.unusedVariables false
set_option linter.unusedSimpArgs false
/-- the engine's things -/
def engL (p V : Nat) (CV : List (Value × List Int)) (L : List (Int × (Value × List Nat))) (mb : Nat) (cv uv vv tv : Value) (tr : List Int) (dn : Nat) (us : List Int) (em : Bool) : List Res :=
  [blk p (.cells #[cv, .map (some mb), uv, .bool em, vv, tv, .int .i64 (dn : Int)] 60 (0, 0)),
   Hp.row 25 1 cv CV.length (CV.map (·.1)), bun (CV.map rowC), mapT mb (fun n : Int => Value.int .i64 n) (fun q : Value × List Nat => q.1) L, bun (L.map (rowI 3)),
   Hp.row 77 1 vv (V + 1) (vals V tr), Hp.row 3 1 tv tr.length (iv tr), Hp.row 3 1 uv us.length (iv us)]
def engR (p V : Nat) (CV : List (Value × List Int)) (L : List (Int × (Value × List Nat))) (tr : List Int) (dn : Nat) (us : List Int) (em : Bool) : Res :=
  exR fun q : Nat × Value × Value × Value × Value => bun (engL p V CV L q.1 q.2.1 q.2.2.1 q.2.2.2.1 q.2.2.2.2 tr dn us em)
section
variable {W w : World} {Ps : List Res} {p V : Nat} {CV : List (Value × List Int)} {L : List (Int × (Value × List Nat))} {tr : List Int} {dn : Nat} {us : List Int} {em : Bool}
theorem eng_open (h : Has W w (engR p V CV L tr dn us em :: Ps)) : ∃ mb cv uv vv tv, Has W w (engL p V CV L mb cv uv vv tv tr dn us em ++ Ps) := by
  obtain ⟨⟨mb, cv, uv, vv, tv⟩, h1⟩ := h.unex
  exact ⟨mb, cv, uv, vv, tv, h1.unbun⟩
theorem eng_close {mb : Nat} {cv uv vv tv : Value} (h : Has W w (engL p V CV L mb cv uv vv tv tr dn us em ++ Ps)) : Has W w (engR p V CV L tr dn us em :: Ps) :=
  Has.inex (mb, cv, uv, vv, tv) h.rebun
/-- the values as they are read -/
def OfAt (w : World) (p V : Nat) (tr : List Int) : Prop :=
  p < w.heap.size ∧ ∃ g cap, g < w.heap.size ∧ w.cell? ⟨p, 4, none⟩ = some (.slice (some ⟨g, 0, none⟩) (V + 1) cap) ∧ ∀ v, v ≤ V → w.cell? ⟨g, v, none⟩ = some (.int .i8 (vof tr v))
theorem OfAt.keep {w' : World} (h : OfAt w p V tr) (hk : ∀ b < w.heap.size, w'.heap[b]? = w.heap[b]?) (hs : w.heap.size ≤ w'.heap.size) : OfAt w' p V tr := by
  obtain ⟨h1, g, cap, h2, h3, h4⟩ := h
  refine ⟨by omega, g, cap, by omega, ?_, fun v hv => ?_⟩
  · rw [World.cell?_of_block (w := w) (a := ⟨p, 4, none⟩) (hk p h1)]; exact h3
  · rw [World.cell?_of_block (w := w) (a := ⟨g, v, none⟩) (hk g h2)]; exact h4 v hv
theorem OfAt.fr {w' : World} (h : OfAt w p V tr) (hf : Fr [] w w') : OfAt w' p V tr := h.keep (fun b hb => hf.block b hb (by simp)) hf.size
/-- the engine's block and the row of values -/
theorem ofAt_raw {q0 q1 q2 q3 q5 q6 vv : Value} (h : Has W w (blk p (.cells #[q0, q1, q2, q3, vv, q5, q6] 60 (0, 0)) :: Hp.row 77 1 vv (V + 1) (vals V tr) :: Ps)) : OfAt w p V tr := by
  have hb := h.blk
  have h5 := (h.bring 1).row
  obtain ⟨a, cap, rfl, ha, _⟩ := owns_form h5
  obtain ⟨g, rfl⟩ := ha (by omega)
  exact ⟨lt_of_block hb, g, cap, owns_lt h5 rfl, heap_eq_cell hb 4, fun v hv => owns_cell h5 rfl (vals_get hv)⟩
theorem ofAt (h : Has W w (engR p V CV L tr dn us em :: Ps)) : OfAt w p V tr := by
  obtain ⟨mb, cv, uv, vv, tv, h⟩ := eng_open h
  exact ofAt_raw (h.ord 8 [0, 5, 1, 2, 3, 4, 6, 7])
end
set_option maxHeartbeats 4000000 in
theorem value_calls {w : World} {p V : Nat} {tr : List Int} (h : OfAt w p V tr) (ht : TrOk V tr) {x : Int} (h0 : x ≠ 0) (hx : x.natAbs ≤ V) (hV : V < 9223372036854775807) :
    Calls Try.prog 56 #[.pointer (some ⟨p, 0, none⟩), .int .i64 x] w fun e w' => e = .returned (.int .i8 (lv tr x)) ∧ w' = w := by
  obtain ⟨_, g, cap, _, hc, hv⟩ := h
  obtain ⟨v, hvx⟩ : ∃ v, x.natAbs = v := ⟨_, rfl⟩
  have hcv := hv v (by omega)
  clear hv
  by_cases hn : x < 0
  · obtain rfl : x = -(v : Int) := by omega
    rw [lv_neg ht]
    have h1 : IntKind.i64.wrap (- -(v : Int)) = v := by rw [Int.neg_neg]; exact IntWalk.i64_in _ (by omega)
    rcases vof_cases tr v with e | e | e <;> rw [e] at hcv ⊢ <;> clear e ht
    all_goals
      go_enter Try.func56, Try.ntmps56
      go_wp2
      go_ret
      exact ⟨rfl, rfl⟩
  · obtain rfl : x = (v : Int) := by omega
    rw [lv_pos]
    clear ht
    obtain ⟨z, hz⟩ : ∃ z, vof tr v = z := ⟨_, rfl⟩
    rw [hz] at hcv ⊢
    clear hz
    go_enter Try.func56, Try.ntmps56
    go_wp2
    go_ret
    exact ⟨rfl, rfl⟩
/-- a literal made true: the trail, and whether it was not false -/
def setF (tr : List Int) (x : Int) : List Int × Bool := if x ∈ tr then (tr, true) else if -x ∈ tr then (tr, false) else (tr ++ [x], true)
theorem setF_true {tr : List Int} {x : Int} (h : x ∈ tr) : setF tr x = (tr, true) := if_pos h
theorem setF_false {V : Nat} {tr : List Int} (ht : TrOk V tr) {x : Int} (h : -x ∈ tr) : setF tr x = (tr, false) := by
  unfold setF
  rw [if_neg (fun e => ht.not_both e h), if_pos h]
theorem setF_new {tr : List Int} {x : Int} (h : x ∉ tr) (h2 : -x ∉ tr) : setF tr x = (tr ++ [x], true) := by
  unfold setF
  rw [if_neg h, if_neg h2]
set_option maxHeartbeats 4000000 in
/-- set, at the engine's block and the rows of values and of the trail -/
theorem set_gen {W w : World} {Ps : List Res} {p V : Nat} {q0 q1 q2 q3 q6 vv tv : Value} {tr : List Int} (h : Has W w (blk p (.cells #[q0, q1, q2, q3, vv, tv, q6] 60 (0, 0)) :: Hp.row 77 1 vv (V + 1) (vals V tr) :: Hp.row 3 1 tv tr.length (iv tr) :: Ps)) (ht : TrOk V tr) (hV : V ≤ 65536) {x : Int} (h0 : x ≠ 0) (hx : x.natAbs ≤ V) :
    Calls Try.prog 38 #[.pointer (some ⟨p, 0, none⟩), .int .i64 x] w fun e w' => e = .returned (.bool (setF tr x).2) ∧ ∃ tv', Has W w' (blk p (.cells #[q0, q1, q2, q3, vv, tv', q6] 60 (0, 0)) :: Hp.row 77 1 vv (V + 1) (vals V (setF tr x).1) :: Hp.row 3 1 tv' (setF tr x).1.length (iv (setF tr x).1) :: Ps) := by
  have hl := tr_len ht
  obtain ⟨v, hvx⟩ : ∃ v, x.natAbs = v := ⟨_, rfl⟩
  have HO := Lib.hid (ofAt_raw h)
  have H0 := Lib.hid ht
  have HX := Lib.hid (And.intro h0 hx)
  obtain ⟨lc, hlc⟩ : ∃ lc, lv tr x = lc := ⟨_, rfl⟩
  have HLC := Lib.hid hlc
  rcases lv_cases tr x with e | e | e
  · have HS := Lib.hid (setF_true (lv_one.1 e))
    have H := Lib.hid h
    rw [e] at hlc
    subst hlc
    clear h ht h0 hx e
    go_enter Try.func38, Try.ntmps38
    go_wp2_with fail
    refine (value_calls (HO.out.fr (by (repeat first | exact Fr.refl _ _ | assumption | apply Fr.n | apply Fr.d | apply Fr.a | refine Fr.s ?_ (.inr (by simp; try omega)) _))) H0.out HX.out.1 HX.out.2 (by omega)).mono ?_
    rw [HLC.out]
    rintro e w2 ⟨rfl, rfl⟩
    go_wp2
    go_ret
    rw [HS.out]
    exact ⟨rfl, tv, H.out.step (by (repeat first | exact Fr.refl _ _ | assumption | apply Fr.n | apply Fr.d | apply Fr.a | refine Fr.s ?_ (.inr (by simp; try omega)) _))⟩
  · have HS := Lib.hid (setF_false ht ((lv_mone ht).1 e))
    have H := Lib.hid h
    rw [e] at hlc
    subst hlc
    clear h ht h0 hx e
    go_enter Try.func38, Try.ntmps38
    go_wp2_with fail
    refine (value_calls (HO.out.fr (by (repeat first | exact Fr.refl _ _ | assumption | apply Fr.n | apply Fr.d | apply Fr.a | refine Fr.s ?_ (.inr (by simp; try omega)) _))) H0.out HX.out.1 HX.out.2 (by omega)).mono ?_
    rw [HLC.out]
    rintro e w2 ⟨rfl, rfl⟩
    go_wp2
    go_ret
    rw [HS.out]
    exact ⟨rfl, tv, H.out.step (by (repeat first | exact Fr.refl _ _ | assumption | apply Fr.n | apply Fr.d | apply Fr.a | refine Fr.s ?_ (.inr (by simp; try omega)) _))⟩
  · have hn1 : x ∉ tr := fun q => by have := lv_one.2 q; omega
    have hn2 : -x ∉ tr := fun q => by have := (lv_mone ht).2 q; omega
    have HS := Lib.hid (setF_new hn1 hn2)
    have HN := Lib.hid (And.intro hn1 hn2)
    rw [e] at hlc
    subst hlc
    have hb := h.blk
    have h5 := (h.bring 1).row
    obtain ⟨a, cap, rfl, ha, _⟩ := owns_form h5
    obtain ⟨g, rfl⟩ := ha (by omega)
    have h6 := (h.bring 2).row
    obtain ⟨ta, tc, rfl, _, _⟩ := owns_form h6
    have hcv := owns_cell h5 rfl (vals_get (tr := tr) (show v ≤ V by omega))
    have hzv := owns_frozen h5 rfl v
    have hgl := owns_lt h5 rfl
    have c4 : _ = some _ := heap_eq_cell hb 4
    have c5 : _ = some _ := heap_eq_cell hb 5
    have z5 := heap_eq_frozen hb 5
    have cl := lt_of_block hb
    have hpg : p ≠ g := h.br
    have hmaxl : (65537 : Nat) ≤ maxLen := by decide
    have H := Lib.hid h
    rw [HS.out]
    have hv0 : 1 ≤ v := by omega
    have hvV : v ≤ V := by omega
    clear h hb h5 h6 ht hn1 hn2 ha e
    by_cases hneg : x < 0
    · obtain rfl : x = -(v : Int) := by omega
      clear h0 hx
      have hdec : decide (-(v : Int) > 0) = false := by simp
      have h1 : IntKind.i64.wrap (- -(v : Int)) = v := by rw [Int.neg_neg]; exact IntWalk.i64_in _ (by omega)
      have hs := vals_set (V := V) (fun u => vof_neg (u := u) (show 1 ≤ v by omega) (by have := HN.out.2; rwa [Int.neg_neg] at this))
      have H1 := Lib.hid (((H.out.bring 1).rowSet (j := v) (by simp [vals]; omega) (.int .i8 (-1))).bring 2)
      rw [hs] at H1
      simp only [List.filterMap_cons, List.filterMap_nil, List.getElem?_cons_zero, List.getElem?_cons_succ, List.drop_succ_cons, List.drop_zero, List.cons_append, List.nil_append, List.take_succ_cons, List.take_zero, List.eraseIdx_cons_succ, List.eraseIdx_zero, List.eraseIdx_cons_zero, List.tail_cons, Option.toList_some] at H1
      clear hs
      go_enter Try.func38, Try.ntmps38
      go_wp2_with fail
      refine (value_calls (HO.out.fr (by (repeat first | exact Fr.refl _ _ | assumption | apply Fr.n | apply Fr.d | apply Fr.a | refine Fr.s ?_ (.inr (by simp; try omega)) _))) H0.out HX.out.1 HX.out.2 (by omega)).mono ?_
      rw [HLC.out]
      rintro e w1 ⟨rfl, hw1⟩
      subst hw1
      go_wp2_with (at_builtin; refine append_has (W := W) (size := 1) (bytes := 8) (z := .int .i64 0) (e := 3) (n := tr.length) (xs := iv tr) (news := [.int .i64 (-(v : Int))]) rfl rfl Try.underlying25 (by kernel_rfl) rfl (by decide) rfl rfl ((H1.out.step (by (repeat first | exact Fr.refl _ _ | assumption | apply Fr.n | apply Fr.d | apply Fr.a | refine Fr.s ?_ (.inr (by simp; try omega)) _)))) (by (repeat first | rw [if_pos (by omega)] | rw [if_neg (by omega)] | rw [hp_drew] | rw [hp_drewN] | rw [hp_alloc_size] | rw [hp_setCell_size] | rw [hp_alloc] | rw [hp_setCell] | rw [oMS] | rw [upd_cells] | rw [lSZ] | rw [lSS] | rfl)) rfl (by simp [Value.oneCell']) ?b1A ?b2A ?_)
      case b1A => exact Nat.le_trans (show tr.length + 1 ≤ 65537 by omega) hmaxl
      case b2A => omega
      intro g2 cap2 w2 h2 hf2 hg2
      have hb2 := (h2.bring 2).blk
      clear c4 c5 z5 cl hcv hzv
      have c5 : _ = some _ := heap_eq_cell hb2 5
      have z5 := heap_eq_frozen hb2 5
      have cl := lt_of_block hb2
      have H2 := Lib.hid h2
      clear h2 hb2 hf2 hg2
      go_wp2
      go_ret
      refine ⟨rfl, .slice (some ⟨g2, 0, none⟩) (tr.length + 1) cap2, ?_⟩
      have h3 := ((H2.out.bring 2).blkSet 5 (.slice (some ⟨g2, 0, none⟩) (tr.length + 1) cap2)).ord 3 [0, 2, 1]
      rw [List.length_append, show iv (tr ++ [(-(v : Int))]) = iv tr ++ [.int .i64 ((-(v : Int)))] by simp [iv]]
      exact h3.step (by (repeat first | exact Fr.refl _ _ | assumption | apply Fr.n | apply Fr.d | apply Fr.a | refine Fr.s ?_ (.inr (by simp; try omega)) _))
    · obtain rfl : x = (v : Int) := by omega
      clear h0 hx
      have hdec : decide ((v : Int) > 0) = true := by simp; omega
      have hs := vals_set (V := V) (tr := tr) (fun u => vof_pos (u := u) (show 1 ≤ v by omega))
      have H1 := Lib.hid (((H.out.bring 1).rowSet (j := v) (by simp [vals]; omega) (.int .i8 1)).bring 2)
      rw [hs] at H1
      simp only [List.filterMap_cons, List.filterMap_nil, List.getElem?_cons_zero, List.getElem?_cons_succ, List.drop_succ_cons, List.drop_zero, List.cons_append, List.nil_append, List.take_succ_cons, List.take_zero, List.eraseIdx_cons_succ, List.eraseIdx_zero, List.eraseIdx_cons_zero, List.tail_cons, Option.toList_some] at H1
      clear hs
      go_enter Try.func38, Try.ntmps38
      go_wp2_with fail
      refine (value_calls (HO.out.fr (by (repeat first | exact Fr.refl _ _ | assumption | apply Fr.n | apply Fr.d | apply Fr.a | refine Fr.s ?_ (.inr (by simp; try omega)) _))) H0.out HX.out.1 HX.out.2 (by omega)).mono ?_
      rw [HLC.out]
      rintro e w1 ⟨rfl, hw1⟩
      subst hw1
      go_wp2_with (at_builtin; refine append_has (W := W) (size := 1) (bytes := 8) (z := .int .i64 0) (e := 3) (n := tr.length) (xs := iv tr) (news := [.int .i64 ((v : Int))]) rfl rfl Try.underlying25 (by kernel_rfl) rfl (by decide) rfl rfl ((H1.out.step (by (repeat first | exact Fr.refl _ _ | assumption | apply Fr.n | apply Fr.d | apply Fr.a | refine Fr.s ?_ (.inr (by simp; try omega)) _)))) (by (repeat first | rw [if_pos (by omega)] | rw [if_neg (by omega)] | rw [hp_drew] | rw [hp_drewN] | rw [hp_alloc_size] | rw [hp_setCell_size] | rw [hp_alloc] | rw [hp_setCell] | rw [oMS] | rw [upd_cells] | rw [lSZ] | rw [lSS] | rfl)) rfl (by simp [Value.oneCell']) ?b1B ?b2B ?_)
      case b1B => exact Nat.le_trans (show tr.length + 1 ≤ 65537 by omega) hmaxl
      case b2B => omega
      intro g2 cap2 w2 h2 hf2 hg2
      have hb2 := (h2.bring 2).blk
      clear c4 c5 z5 cl hcv hzv
      have c5 : _ = some _ := heap_eq_cell hb2 5
      have z5 := heap_eq_frozen hb2 5
      have cl := lt_of_block hb2
      have H2 := Lib.hid h2
      clear h2 hb2 hf2 hg2
      go_wp2
      go_ret
      refine ⟨rfl, .slice (some ⟨g2, 0, none⟩) (tr.length + 1) cap2, ?_⟩
      have h3 := ((H2.out.bring 2).blkSet 5 (.slice (some ⟨g2, 0, none⟩) (tr.length + 1) cap2)).ord 3 [0, 2, 1]
      rw [List.length_append, show iv (tr ++ [((v : Int))]) = iv tr ++ [.int .i64 (((v : Int)))] by simp [iv]]
      exact h3.step (by (repeat first | exact Fr.refl _ _ | assumption | apply Fr.n | apply Fr.d | apply Fr.a | refine Fr.s ?_ (.inr (by simp; try omega)) _))
theorem set_calls {W w : World} {Ps : List Res} {p V : Nat} {CV : List (Value × List Int)} {L : List (Int × (Value × List Nat))} {tr : List Int} {dn : Nat} {us : List Int} {em : Bool} (h : Has W w (engR p V CV L tr dn us em :: Ps)) (ht : TrOk V tr) (hV : V ≤ 65536) {x : Int} (h0 : x ≠ 0) (hx : x.natAbs ≤ V) :
    Calls Try.prog 38 #[.pointer (some ⟨p, 0, none⟩), .int .i64 x] w fun e w' => e = .returned (.bool (setF tr x).2) ∧ Has W w' (engR p V CV L (setF tr x).1 dn us em :: Ps) := by
  obtain ⟨mb, cv, uv, vv, tv, h⟩ := eng_open h
  simp only [engL, List.cons_append, List.nil_append] at h
  refine (set_gen (h.ord 8 [0, 5, 6, 1, 2, 3, 4, 7]) ht hV h0 hx).mono ?_
  rintro e w' ⟨he, tv', h'⟩
  refine ⟨he, eng_close (mb := mb) (cv := cv) (uv := uv) (vv := vv) (tv := tv') ?_⟩
  simp only [engL, List.cons_append, List.nil_append]
  exact h'.ord 8 [0, 3, 4, 5, 6, 1, 2, 7]
end Go.Proofs.Ytbpaadpocihahaa
end

section
/- A region that draws its order, walked in an order of our choice, cut into segments; behind a segment loads are looked at again. -/
namespace Go.Proofs.Rg
open Go
set_option linter.unusedVariables false
set_option linter.unusedSimpArgs false

/-- the operation k, run here, gives what it gave -/
def again (P : Program) (ops : Array Oper) (k : Nat) (a : Act) (w : World) : Prop :=
  ∀ o, ops[k]? = some o → Region.wanted o (yielded ops a.tmps) = true → ∃ u, (execOp a.eval o).run P w = .ok (.value u) w ∧ (a.put o.dst u).tmps = a.tmps
/-- operations one after the other; behind each, those that chk names are looked at again -/
def wpG (P : Program) (ops : Array Oper) (Q : Exit → Act → World → Prop) (chk : Nat → List Nat) : List Nat → Act → World → Prop
  | [], a, w => Q .normal a w
  | i :: rest, a, w => wpOp P ops Q i (fun a' w' => (∀ k ∈ chk i, again P ops k a' w') ∧ wpG P ops Q chk rest a' w') a w

section
variable {P : Program} {ops : Array Oper} {K0 : Act → World → Prop}

theorem put_put (a : Act) (d : Option Tmp) (v u : Value) : (a.put d v).put d u = a.put d u := by
  cases d with
  | none => rfl
  | some d => simp [Act.put]
theorem again_put {k : Nat} {o : Oper} (hk : ops[k]? = some o) {dst : Option Tmp} {v : Value} {a a' : Act} {w : World} (ht : a'.tmps = (a.put dst v).tmps) (h1 : ∀ d, dst = some d → d ∉ o.looksAt ops) (h2 : ∀ d, dst = some d → o.dst ≠ some d)
    (hs : ∀ cs b, o.op ≠ .select cs b) : again P ops k a' w ↔ again P ops k a w := by
  have he : execOp a'.eval o = execOp a.eval o := execOp_congr o hs fun x hx => by rw [eval_of_tmps ht, eval_put' h1 hx]
  have hw : Region.wanted o (yielded ops a'.tmps) = Region.wanted o (yielded ops a.tmps) := by rw [ht, wanted_put o a dst v h1]
  have hput : ∀ u, (a'.put o.dst u).tmps = ((a.put dst v).put o.dst u).tmps := fun u => by
    cases hd : o.dst with
    | none => exact ht
    | some d => simp only [Act.put, ht]
  have key : ∀ u, (a'.put o.dst u).tmps = a'.tmps ↔ (a.put o.dst u).tmps = a.tmps := fun u => by
    rw [hput, ht, Act.put_comm a v u h2]
    cases dst with
    | none => exact Iff.rfl
    | some d =>
      cases hd : o.dst with
      | none => exact ⟨fun _ => rfl, fun _ => rfl⟩
      | some e =>
        have hne : d ≠ e := fun q => h2 d rfl (by rw [hd, q])
        simp only [Act.put]
        constructor
        · intro h
          apply Array.ext_getElem?
          intro i
          by_cases hi : i = d
          · subst hi
            rw [Array.getElem?_setIfInBounds_ne (fun q => hne q.symm)]
          · have := congrArg (fun x : Array Value => x[i]?) h
            rwa [Array.getElem?_setIfInBounds_ne (fun q => hi q.symm), Array.getElem?_setIfInBounds_ne (xs := a.tmps) (fun q => hi q.symm)] at this
        · intro h; rw [h]
  unfold again
  constructor
  · intro h o' ho' hw'
    obtain rfl : o = o' := Option.some.inj (hk.symm.trans ho')
    obtain ⟨u, hr, hp⟩ := h o hk (by rw [hw]; exact hw')
    exact ⟨u, by rw [← he]; exact hr, (key u).1 hp⟩
  · intro h o' ho' hw'
    obtain rfl : o = o' := Option.some.inj (hk.symm.trans ho')
    obtain ⟨u, hr, hp⟩ := h o hk (by rw [← hw]; exact hw')
    exact ⟨u, by rw [he]; exact hr, (key u).2 hp⟩
theorem put_eq_of_tmps {a : Act} {d : Option Tmp} {v u : Value} (h : ((a.put d v).put d u).tmps = (a.put d v).tmps) : a.put d u = a.put d v := by
  rw [put_put] at h
  cases d with
  | none => rfl
  | some d => simp only [Act.put] at h ⊢; rw [h]

theorem put_through {i : Nat} {ox oi : Oper} {v : Value} (hi : ops[i]? = some oi) (hap : ox.apart ops oi = true) (hsi : ∀ cs b, oi.op ≠ .select cs b) {R : Act → World → Prop} {a : Act} {w : World}
    (h : wpOp P ops (Strict ops K0) i R (a.put ox.dst v) w) : wpOp P ops (Strict ops K0) i (fun a1 w1 => R (a1.put ox.dst v) w1) a w := by
  obtain ⟨h1, h2, h3⟩ := Oper.apart_spec hap
  have comm : ∀ (a : Act) u, (a.put ox.dst v).put oi.dst u = (a.put oi.dst u).put ox.dst v := fun a u => Act.put_comm a v u h2
  cases hw : Region.wanted oi (yielded ops a.tmps) with
  | false =>
    have hw' : Region.wanted oi (yielded ops (a.put ox.dst v).tmps) = false := by rw [wanted_put oi a ox.dst v h1]; exact hw
    unfold wpOp at h ⊢
    simp only [hi, hw, hw', Bool.false_eq_true, if_false] at h ⊢
    rw [← comm]; exact h
  | true =>
    have hw' : Region.wanted oi (yielded ops (a.put ox.dst v).tmps) = true := by rw [wanted_put oi a ox.dst v h1]; exact hw
    obtain ⟨h, _⟩ := ran hi hw' h
    unfold wpOp
    simp only [hi, hw, if_true]
    refine .inl ?_
    unfold Oper.wp
    rw [execOp_put oi hsi a ox.dst v h1] at h
    generalize (execOp a.eval oi).run P w = r at h ⊢
    cases r with
    | ok n w' =>
      cases n <;> simp only [Oper.upon] at h ⊢
      case value u => rw [← comm]; exact h
      case skip => rw [← comm]; exact h
      case defer d =>
        rw [← Act.put_comm _ v undef h2, ← Act.put_defers]
        exact h
      case enter f args =>
        refine Calls.mono h fun e w'' he => ?_
        cases e with
        | returned u => simp only at he ⊢; rw [← comm]; exact he
        | panicked c => exact he
        | outgrown => exact he
      case row row args => exact Rows.mono h fun u w'' he => by rw [← comm]; exact he
    | halt x w' =>
      cases x <;> simp only [Oper.upon] at h ⊢
      case panic u => exact h
theorem put_back {i : Nat} {ox oi : Oper} {v : Value} (hi : ops[i]? = some oi) (hap : ox.apart ops oi = true) (hsi : ∀ cs b, oi.op ≠ .select cs b) {R : Act → World → Prop} {a : Act} {w : World}
    (h : wpOp P ops (Strict ops K0) i (fun a1 w1 => R (a1.put ox.dst v) w1) a w) : wpOp P ops (Strict ops K0) i R (a.put ox.dst v) w := by
  obtain ⟨h1, h2, h3⟩ := Oper.apart_spec hap
  have comm : ∀ (a : Act) u, (a.put ox.dst v).put oi.dst u = (a.put oi.dst u).put ox.dst v := fun a u => Act.put_comm a v u h2
  cases hw : Region.wanted oi (yielded ops a.tmps) with
  | false =>
    have hw' : Region.wanted oi (yielded ops (a.put ox.dst v).tmps) = false := by rw [wanted_put oi a ox.dst v h1]; exact hw
    unfold wpOp at h ⊢
    simp only [hi, hw, hw', Bool.false_eq_true, if_false] at h ⊢
    rw [comm]; exact h
  | true =>
    have hw' : Region.wanted oi (yielded ops (a.put ox.dst v).tmps) = true := by rw [wanted_put oi a ox.dst v h1]; exact hw
    obtain ⟨h, _⟩ := ran hi hw h
    unfold wpOp
    simp only [hi, hw', if_true]
    refine .inl ?_
    unfold Oper.wp
    rw [execOp_put oi hsi a ox.dst v h1]
    generalize (execOp a.eval oi).run P w = r at h ⊢
    cases r with
    | ok n w' =>
      cases n <;> simp only [Oper.upon] at h ⊢
      case value u => rw [comm]; exact h
      case skip => rw [comm]; exact h
      case defer d =>
        rw [← Act.put_comm _ v undef h2, ← Act.put_defers] at h
        exact h
      case enter f args =>
        refine Calls.mono h fun e w'' he => ?_
        cases e with
        | returned u => simp only at he ⊢; rw [comm]; exact he
        | panicked c => exact he
        | outgrown => exact he
      case row row args => exact Rows.mono h fun u w'' he => by rw [comm]; exact he
    | halt x w' =>
      cases x <;> simp only [Oper.upon] at h ⊢
      case panic u => exact h
theorem finalG {o : Oper} {chk : Nat → List Nat} {j : Nat} (hj : ops[j]? = some o) : ∀ (l : List Nat) (a : Act) (w : World), wpG P ops (Strict ops K0) chk l a w →
    (∀ k ∈ l, ∀ ok, ops[k]? = some ok → writes ok (o.looksAt ops) = false) → dynWant ops o a = true
  | [], a, w, h, _ => by
    have h1 : dynAll ops a = true := h.1
    exact List.all_eq_true.1 h1 o (by simpa using Array.mem_of_getElem? hj)
  | k :: l, a, w, h, hl => by
    unfold wpG at h
    cases hk : ops[k]? with
    | none =>
      unfold wpOp at h
      simp only [hk] at h
      exact finalG hj l a w h.2 fun z hz => hl z (List.mem_cons_of_mem _ hz)
    | some ok =>
      obtain ⟨v, a', w', ht, h'⟩ := reach hk h
      have := finalG hj l a' w' h'.2 fun z hz => hl z (List.mem_cons_of_mem _ hz)
      rw [dynWant_put ht (writes_spec (hl k (by simp) ok hk))] at this
      exact this

/-- x first, with a value that does not hang on what i does -/
theorem swapA {x i : Nat} {ox oi : Oper} {v : Value} (hx : ops[x]? = some ox) (hi : ops[i]? = some oi) (hap : ox.apart ops oi = true) (hsi : ∀ cs b, oi.op ≠ .select cs b)
    {R S : Act → World → Prop} {a : Act} {w : World} (h : wpOp P ops (Strict ops K0) i R (a.put ox.dst v) w) (hS : ∀ a1 w1, R (a1.put ox.dst v) w1 → S a1 w1) : wpOp P ops (Strict ops K0) i S a w :=
  wpOp_mono hS (put_through hi hap hsi h)
theorem ext_of {i : Nat} {oi : Oper} (hi : ops[i]? = some oi) (hc : cl P oi.op = .load ∨ cl P oi.op = .alloc) {R : Act → World → Prop} {a : Act} {w : World} (hd : dynWant ops oi a = true) (h : wpOp P ops (Strict ops K0) i R a w) :
    wpOp P ops (Strict ops K0) i (fun a1 w1 => R a1 w1 ∧ Ext w w1) a w := by
  cases hw : Region.wanted oi (yielded ops a.tmps) with
  | false =>
    unfold wpOp at h ⊢
    simp only [hi, hw, Bool.false_eq_true, if_false] at h ⊢
    exact ⟨h, Ext.refl _⟩
  | true =>
    obtain ⟨h, n, w1, hr⟩ := ran hi hw h
    have hg : Ext w w1 ∧ ∃ v, n = .value v := by
      rcases hc with hc | hc
      · obtain ⟨hs, hv⟩ := exec_load (P := P) (ρ := a.eval) hc (by simpa [dynWant, hw] using hd)
        obtain ⟨rfl, _⟩ := hs _ _ _ hr
        exact ⟨Ext.refl _, hv _ ⟨_, _, hr⟩⟩
      · obtain ⟨hs, hv⟩ := exec_alloc (P := P) (ρ := a.eval) hc
        exact ⟨hs _ _ _ hr, hv _ ⟨_, _, hr⟩⟩
    obtain ⟨he, v, rfl⟩ := hg
    unfold wpOp
    simp only [hi, hw, if_true]
    refine .inl ?_
    unfold Oper.wp
    rw [hr] at h ⊢
    exact ⟨h, he⟩
theorem swapG {x i : Nat} {ox oi : Oper} (hx : ops[x]? = some ox) (hi : ops[i]? = some oi) (hap : ox.apart ops oi = true) (hsx : ∀ cs b, ox.op ≠ .select cs b) (hsi : ∀ cs b, oi.op ≠ .select cs b)
    {A B B' K : Act → World → Prop} (hcl : cl P ox.op = .pure ∨ cl P oi.op = .pure ∨ (cl P ox.op = .load ∧ (cl P oi.op = .load ∨ cl P oi.op = .alloc)) ∨ (cl P ox.op = .load ∧ ∀ a w, B a w → again P ops x a w))
    (hwx : trivialOp ox.op = true ∨ writes ox (ox.looksAt ops) = false) (hwi : trivialOp oi.op = true ∨ writes oi (oi.looksAt ops) = false) (hlx : cl P ox.op = .load → writes ox (ox.looksAt ops) = false)
    (hB : ∀ a1 v w1, B (a1.put ox.dst v) w1 → B' a1 w1) (hB2 : cl P oi.op = .pure → ∀ a w, B' a w) (hA1 : cl P ox.op = .pure ∨ cl P ox.op = .load → ∀ a w, A a w) (hA2 : ∀ a1 u w1, A a1 w1 → A (a1.put oi.dst u) w1)
    (hK : ∀ a w, K a w → dynWant ops ox a = true ∧ dynWant ops oi a = true) {a : Act} {w : World}
    (h : wpOp P ops (Strict ops K0) x (fun a w => A a w ∧ wpOp P ops (Strict ops K0) i (fun a' w' => B a' w' ∧ K a' w') a w) a w) :
    wpOp P ops (Strict ops K0) i (fun a' w' => B' a' w' ∧ wpOp P ops (Strict ops K0) x (fun a'' w'' => A a'' w'' ∧ K a'' w'') a' w') a w := by
  obtain ⟨h1, h2, h3⟩ := Oper.apart_spec hap
  obtain ⟨u, a1, w1, ht1, hr1⟩ := reach hx h
  obtain ⟨v, a2, w2, ht2, hr2⟩ := reach hi hr1.2
  have hdx : dynWant ops ox a = true := by
    rcases hwx with hwx | hwx
    · unfold dynWant; rw [dynOp_trivial hwx]; rfl
    · have := (hK _ _ hr2.2).1
      rw [dynWant_put ht2 h3, dynWant_put ht1 (writes_spec hwx)] at this
      exact this
  have hdi : dynWant ops oi a1 = true := by
    rcases hwi with hwi | hwi
    · unfold dynWant; rw [dynOp_trivial hwi]; rfl
    · have := (hK _ _ hr2.2).2
      rw [dynWant_put ht2 (writes_spec hwi)] at this
      exact this
  by_cases hci : cl P oi.op = .pure
  · obtain ⟨v, hy⟩ := yields_pure hi hci hdi hr1.2
    have hy : Yields P ops oi v a := by
      refine hy.of_same ?_ ?_
      · refine execOp_congr oi hsi fun y hy => ?_
        rw [eval_of_tmps ht1, eval_put' h1 hy]
      · rw [ht1, wanted_put oi a ox.dst u h1]
    refine Yields.wpOp hi hy ⟨hB2 hci _ _, ?_⟩
    exact put_rev hx (apart_symm hap) hsx hsi hy (wpOp_mono (fun a1 w1 hh hy' => ⟨hA2 _ _ _ hh.1, (Yields.inv hi hy' hh.2).2⟩) h)
  · -- x is calm or a load
    have hcx : cl P ox.op = .pure ∨ cl P ox.op = .load := by
      rcases hcl with h | h | h | h
      · exact .inl h
      · exact absurd h hci
      · exact .inr h.1
      · exact .inr h.1
    have hA := hA1 hcx
    have viaYields : ∀ v, Yields P ops ox v a → wpOp P ops (Strict ops K0) i (fun a' w' => B' a' w' ∧ wpOp P ops (Strict ops K0) x (fun a'' w'' => A a'' w'' ∧ K a'' w'') a' w') a w := fun v hy => by
      have h' := (Yields.inv hx hy h).2
      refine wpOp_mono ?_ (wpOp_put hi hap hsx hsi (fun _ _ _ h => h) hy h')
      rintro a' w' ⟨hy', hb, hk⟩
      exact ⟨hB _ _ _ hb, Yields.wpOp hx hy' ⟨hA _ _, hk⟩⟩
    by_cases hcp : cl P ox.op = .pure
    · obtain ⟨v, hy⟩ := yields_pure hx hcp hdx h
      exact viaYields v hy
    · have hcload : cl P ox.op = .load := hcx.resolve_left hcp
      cases hwa : Region.wanted ox (yielded ops a.tmps) with
      | false => exact viaYields undef (.inr ⟨hwa, rfl⟩)
      | true =>
        obtain ⟨hst, hval⟩ := exec_load (P := P) (ρ := a.eval) hcload (by simpa [dynWant, hwa] using hdx)
        obtain ⟨hu, n, w1', hr⟩ := ran hx hwa h
        obtain ⟨y, rfl⟩ := hval n ⟨_, _, hr⟩
        obtain ⟨rfl, hlater⟩ := hst _ _ _ hr
        rw [hr] at hu
        have hu := hu.2
        have hlx := writes_spec (hlx hcload)
        -- what i leaves of x
        have same : ∀ (a1 : Act) (w2 : World), (∃ R, R) → True := fun _ _ _ => trivial
        have acts : ∀ (o1 : Act) (w2 : World), execOp o1.eval ox = execOp a.eval ox → Region.wanted ox (yielded ops o1.tmps) = true → (execOp a.eval ox).run P w2 = .ok (.value y) w2 → K (o1.put ox.dst y) w2 → wpOp P ops (Strict ops K0) x (fun a'' w'' => A a'' w'' ∧ K a'' w'') o1 w2 := by
          intro o1 w2 he hw hrun hk
          unfold wpOp
          simp only [hx, hw, if_true]
          refine .inl ?_
          unfold Oper.wp
          rw [he, hrun]
          exact ⟨hA _ _, hk⟩
        -- the acts that i leaves look alike to x
        have keep : wpOp P ops (Strict ops K0) i (fun a1 w1 => (execOp a1.eval ox = execOp a.eval ox ∧ Region.wanted ox (yielded ops a1.tmps) = true) ∧ (fun a' w' => B a' w' ∧ K a' w') (a1.put ox.dst y) w1) a w1' := by
          have hh := put_through hi hap hsi hu
          have base : ∀ (a1 : Act) (u : Value), a1.tmps = (a.put oi.dst u).tmps → execOp a1.eval ox = execOp a.eval ox ∧ Region.wanted ox (yielded ops a1.tmps) = true := fun a1 u ht => by
            refine ⟨execOp_congr ox hsx fun z hz => ?_, ?_⟩
            · rw [eval_of_tmps ht, eval_put' h3 hz]
            · rw [ht, wanted_put ox a oi.dst u h3]; exact hwa
          cases hwi' : Region.wanted oi (yielded ops a.tmps) with
          | false =>
            unfold wpOp at hh ⊢
            simp only [hi, hwi', Bool.false_eq_true, if_false] at hh ⊢
            exact ⟨base _ _ rfl, hh⟩
          | true =>
            obtain ⟨hh, _⟩ := ran hi hwi' hh
            unfold wpOp
            simp only [hi, hwi', if_true]
            refine .inl ?_
            unfold Oper.wp
            generalize (execOp a.eval oi).run P w1' = r at hh ⊢
            cases r with
            | ok n w' =>
              cases n <;> simp only [Oper.upon] at hh ⊢
              case value u => exact ⟨base _ _ rfl, hh⟩
              case skip => exact ⟨base _ _ rfl, hh⟩
              case defer d => exact ⟨base _ undef (by cases oi.dst <;> rfl), hh⟩
              case enter f args =>
                refine Calls.mono hh fun e w'' he => ?_
                cases e with
                | returned u => exact ⟨base _ _ rfl, he⟩
                | panicked c => exact he
                | outgrown => exact he
              case row row args => exact Rows.mono hh fun u w'' he => ⟨base _ _ rfl, he⟩
            | halt z w' =>
              cases z <;> simp only [Oper.upon] at hh ⊢
              case panic u => exact hh
        rcases hcl with h | h | h | h
        · exact absurd h hcp
        · exact absurd h hci
        · refine wpOp_mono ?_ (ext_of hi h.2 (by have hdi2 := hdi; rw [dynWant_put ht1 h1] at hdi2; exact hdi2) keep)
          rintro o1 w2 ⟨⟨⟨he, hw⟩, hb, hk⟩, hext⟩
          exact ⟨hB _ _ _ hb, acts o1 w2 he hw (hlater _ hext) hk⟩
        · refine wpOp_mono ?_ keep
          rintro o1 w2 ⟨⟨he, hw⟩, hb, hk⟩
          refine ⟨hB _ _ _ hb, ?_⟩
          obtain ⟨u, hru, hpu⟩ := h.2 _ _ hb ox hx (by rw [wanted_put ox o1 ox.dst y hlx]; exact hw)
          rw [execOp_put ox hsx o1 ox.dst y hlx, he] at hru
          have heq := put_eq_of_tmps hpu
          have hy2 : ∀ u', K (o1.put ox.dst u') w2 → (execOp a.eval ox).run P w2 = .ok (.value u') w2 → wpOp P ops (Strict ops K0) x (fun a'' w'' => A a'' w'' ∧ K a'' w'') o1 w2 := by
            intro u' hk' hrun
            unfold wpOp
            simp only [hx, hw, if_true]
            refine .inl ?_
            unfold Oper.wp
            rw [he, hrun]
            exact ⟨hA _ _, hk'⟩
          exact hy2 u (by rw [heq]; exact hk) hru
end

/-! ### The check and the bubble -/
def rank (π : List Nat) (i : Nat) : Nat := π.idxOf i
def clG (c : List Nat) (x : Nat) (a b : Cl) : Bool := clOK a b || (a == .load && c.contains x)
def bitOf (b : Array Nat) (j i : Nat) : Bool := decide (i < j) && (b.getD j 0).testBit i
def edgesG (π : List Nat) (o : Oper) (j : Nat) : Bool := o.after.all fun e => !Region.binds .any e || (decide (e.on < j) && decide (rank π e.on < rank π j))
def lookG (ops : Array Oper) (π : List Nat) (b : Array Nat) (o : Oper) (j : Nat) : Bool :=
  trivialOp o.op || (List.range ops.size).all fun z => match ops[z]? with
    | some oz => !writes oz (o.looksAt ops) || (decide (rank π z < rank π j) && bitOf b j z)
    | none => true
def pairsG (P : Program) (ops : Array Oper) (π : List Nat) (b : Array Nat) (chk : Nat → List Nat) (o : Oper) (j : Nat) : Bool :=
  π.all fun i => !decide (rank π i < rank π j) || bitOf b j i || match ops[i]? with
    | some oi => oi.apart ops o && clG (chk j) i (cl P oi.op) (cl P o.op)
    | none => true
/-- what is looked at again is a load ahead, and nothing behind it writes what it looks at, or its result -/
def againG (P : Program) (ops : Array Oper) (π : List Nat) (b : Array Nat) (j k : Nat) : Bool :=
  match ops[k]? with
  | some ok => cl P ok.op == .load && decide (rank π k < rank π j) && !writes ok (ok.looksAt ops) && (List.range ops.size).all fun z => z == k || (match ops[z]? with
    | some oz => !(writes oz (ok.looksAt ops) || writes oz ok.dst.toList) || (decide (rank π z < rank π k) && bitOf b k z)
    | none => true)
  | none => false
/-- what a load looks at is not what it writes -/
def selfG (P : Program) (ops : Array Oper) (o : Oper) : Bool := !(cl P o.op == .load) || !writes o (o.looksAt ops)
def orderOKb (P : Program) (ops : Array Oper) (π : List Nat) (chk : Nat → List Nat) (b : Array Nat) : Bool :=
  Region.noSelect ops && decide (π.length = ops.size) && (List.range ops.size).all (fun j => π.contains j) && π.all (fun j => decide (j < ops.size)) && decide π.Nodup &&
  (List.range ops.size).all fun j => match ops[j]? with
    | some o => edgesG π o j && maskOK b o j && lookG ops π b o j && pairsG P ops π b chk o j && selfG P ops o && (chk j).all (againG P ops π b j) && ((chk j).isEmpty || cl P o.op == .any)
    | none => true
def orderOK (P : Program) (ops : Array Oper) (π : List Nat) (chk : Nat → List Nat) : Bool := orderOKb P ops π chk (Region.before ops)
section
variable {P : Program} {ops : Array Oper} {K0 : Act → World → Prop} {b : Array Nat} {π : List Nat} {chk : Nat → List Nat}
structure Ordered (P : Program) (ops : Array Oper) (π : List Nat) (chk : Nat → List Nat) (b : Array Nat) : Prop where
  select : Region.noSelect ops = true
  len : π.length = ops.size
  all : ∀ j : Nat, j < ops.size ↔ j ∈ π
  nodup : π.Nodup
  edges : ∀ (j : Nat) (o : Oper), ops[j]? = some o → ∀ e ∈ o.after, Region.binds .any e = true → e.on < j ∧ rank π e.on < rank π j
  mask : ∀ (j : Nat) (o : Oper), ops[j]? = some o → maskOK b o j = true
  look : ∀ (j : Nat) (o : Oper) (z : Nat) (oz : Oper), ops[j]? = some o → ops[z]? = some oz → ¬ (rank π z < rank π j ∧ bitOf b j z = true) → trivialOp o.op = true ∨ writes oz (o.looksAt ops) = false
  pair : ∀ (i j : Nat) (oi oj : Oper), ops[i]? = some oi → ops[j]? = some oj → rank π i < rank π j → bitOf b j i = false → oi.apart ops oj = true ∧ clG (chk j) i (cl P oi.op) (cl P oj.op) = true
  self : ∀ (j : Nat) (o : Oper), ops[j]? = some o → cl P o.op = .load → writes o (o.looksAt ops) = false
  chkAny : ∀ (j : Nat) (o : Oper), ops[j]? = some o → cl P o.op ≠ .any → chk j = []
  chkLook : ∀ (j : Nat) (o : Oper) (k : Nat), ops[j]? = some o → k ∈ chk j → ∃ ok, ops[k]? = some ok ∧ rank π k < rank π j ∧ ∀ (z : Nat) (oz : Oper), ops[z]? = some oz → z ≠ k → ¬ (rank π z < rank π k ∧ bitOf b k z = true) →
    writes oz (ok.looksAt ops) = false ∧ writes oz ok.dst.toList = false
theorem Ordered.of (h : orderOKb P ops π chk b = true) : Ordered P ops π chk b := by
  unfold orderOKb at h
  simp only [Bool.and_eq_true, decide_eq_true_eq] at h
  obtain ⟨⟨⟨⟨⟨h1, h2⟩, h3⟩, h4⟩, h5⟩, h6⟩ := h
  have hall : ∀ j o, ops[j]? = some o → edgesG π o j = true ∧ maskOK b o j = true ∧ lookG ops π b o j = true ∧ pairsG P ops π b chk o j = true ∧ selfG P ops o = true ∧ (chk j).all (againG P ops π b j) = true ∧ ((chk j).isEmpty || cl P o.op == .any) = true := fun j o hj => by
    have := List.all_eq_true.1 h6 j (List.mem_range.2 (Array.getElem?_eq_some_iff.1 hj).1)
    simp only [hj, Bool.and_eq_true] at this
    obtain ⟨⟨⟨⟨⟨⟨a1, a2⟩, a3⟩, a4⟩, a5⟩, a6⟩, a7⟩ := this
    exact ⟨a1, a2, a3, a4, a5, a6, a7⟩
  have hmem : ∀ j, j < ops.size ↔ j ∈ π := fun j => ⟨fun hj => by simpa using List.all_eq_true.1 h3 j (List.mem_range.2 hj), fun hj => by simpa using List.all_eq_true.1 h4 j hj⟩
  have hlt : ∀ {j o}, ops[j]? = some o → j < ops.size := fun hj => (Array.getElem?_eq_some_iff.1 hj).1
  refine ⟨h1, h2, hmem, h5, fun j o hj e he hb => ?_, fun j o hj => (hall j o hj).2.1, fun j o z oz hj hz hn => ?_, fun i j oi oj hi hj hr hb => ?_, fun j o hj hc => ?_, fun j o hj hc => ?_, fun j o k hj hk => ?_⟩
  · have := Array.all_eq_true_iff_forall_mem.1 (hall j o hj).1 e he
    simpa [hb] using this
  · have h := (hall j o hj).2.2.1
    unfold lookG at h
    rw [Bool.or_eq_true] at h
    rcases h with h | h
    · exact .inl h
    · right
      have := List.all_eq_true.1 h z (List.mem_range.2 (hlt hz))
      simp only [hz, Bool.or_eq_true, Bool.not_eq_true', Bool.and_eq_true, decide_eq_true_eq] at this
      exact this.resolve_right hn
  · have := List.all_eq_true.1 (hall j oj hj).2.2.2.1 i ((hmem i).1 (hlt hi))
    simp only [hi, hr, hb, decide_true, Bool.not_true, Bool.false_or, Bool.and_eq_true] at this
    exact this
  · have := (hall j o hj).2.2.2.2.1
    simpa [selfG, hc] using this
  · have := (hall j o hj).2.2.2.2.2.2
    simp only [Bool.or_eq_true, beq_iff_eq] at this
    simpa using this.resolve_right hc
  · have := List.all_eq_true.1 (hall j o hj).2.2.2.2.2.1 k hk
    unfold againG at this
    split at this
    · rename_i ok hok
      simp only [Bool.and_eq_true, decide_eq_true_eq] at this
      refine ⟨ok, hok, this.1.1.2, fun z oz hz hne hn => ?_⟩
      have h := List.all_eq_true.1 this.2 z (List.mem_range.2 (hlt hz))
      simp only [hz, Bool.or_eq_true, beq_iff_eq, hne, false_or, Bool.not_eq_true', Bool.or_eq_false_iff, Bool.and_eq_true, decide_eq_true_eq] at h
      exact h.resolve_right hn
    · cases this
theorem writes_dst {oz ok : Oper} (h : writes oz ok.dst.toList = false) : ∀ d, oz.dst = some d → ok.dst ≠ some d := fun d hd e => by
  have := writes_spec h d hd
  rw [e] at this
  simp at this
/-- what a load gave is not touched by what stands behind it in the order -/
theorem Ordered.againPut (O : Ordered P ops π chk b) {j k z : Nat} {o oz : Oper} (hj : ops[j]? = some o) (hk : k ∈ chk j) (hz : ops[z]? = some oz) (hr : rank π k < rank π z) {a a' : Act} {v : Value} {w : World} (ht : a'.tmps = (a.put oz.dst v).tmps) :
    again P ops k a' w ↔ again P ops k a w := by
  obtain ⟨ok, hok, _, hall⟩ := O.chkLook j o k hj hk
  obtain ⟨h1, h2⟩ := hall z oz hz (fun e => by rw [e] at hr; omega) (by omega)
  exact again_put hok ht (writes_spec h1) (writes_dst h2) (Region.noSelect_spec O.select k ok · · hok)
theorem bubbleG (O : Ordered P ops π chk b) {i : Nat} {oi : Oper} (hi : ops[i]? = some oi) (l2 : List Nat) (hl2 : ∀ z ∈ l2, rank π i < rank π z) : ∀ (l1 : List Nat) (C : List Nat), (l1 ++ i :: l2).Pairwise (fun x y => rank π x < rank π y) →
    (∀ z ∈ l1, z < ops.size) → (∀ z ∈ l1, bitOf b i z = false) → (∀ k ∈ C, k ∈ chk i ∧ ∀ z ∈ l1, rank π k < rank π z) → ∀ (a : Act) (w : World), wpG P ops (Strict ops K0) chk (l1 ++ i :: l2) a w →
    wpOp P ops (Strict ops K0) i (fun a w => (∀ k ∈ C, again P ops k a w) ∧ wpG P ops (Strict ops K0) chk (l1 ++ l2) a w) a w
  | [], C, _, _, _, hC, a, w, h => by
    have h : wpOp P ops (Strict ops K0) i (fun a' w' => (∀ k ∈ chk i, again P ops k a' w') ∧ wpG P ops (Strict ops K0) chk l2 a' w') a w := h
    exact wpOp_mono (fun a w h => ⟨fun k hk => h.1 k (hC k hk).1, h.2⟩) h
  | x :: l1, C, hs, hlt, hn, hC, a, w, h => by
    simp only [List.cons_append] at h ⊢ hs
    have hs' := List.pairwise_cons.1 hs
    have h : wpOp P ops (Strict ops K0) x (fun a' w' => (∀ k ∈ chk x, again P ops k a' w') ∧ wpG P ops (Strict ops K0) chk (l1 ++ i :: l2) a' w') a w := h
    let C' := if x ∈ chk i then x :: C else C
    have hC' : ∀ k ∈ C', k ∈ chk i ∧ ∀ z ∈ l1, rank π k < rank π z := by
      intro k hk
      by_cases hx : x ∈ chk i
      · simp only [C', hx, if_true, List.mem_cons] at hk
        rcases hk with rfl | hk
        · exact ⟨hx, fun z hz => hs'.1 z (by simp [hz])⟩
        · exact ⟨(hC k hk).1, fun z hz => (hC k hk).2 z (by simp [hz])⟩
      · simp only [C', hx, if_false] at hk
        exact ⟨(hC k hk).1, fun z hz => (hC k hk).2 z (by simp [hz])⟩
    have h := wpOp_mono (fun a w h => And.imp id (fun h => bubbleG O hi l2 hl2 l1 C' hs'.2 (fun z hz => hlt z (by simp [hz])) (fun z hz => hn z (by simp [hz])) hC' a w h) h) h
    obtain ⟨ox, hx⟩ : ∃ ox, ops[x]? = some ox := ⟨_, Array.getElem?_eq_getElem (hlt x (by simp))⟩
    have hxi : rank π x < rank π i := hs'.1 i (by simp)
    obtain ⟨hap, hcl⟩ := O.pair x i ox oi hx hi hxi (hn x (by simp))
    have hself : ∀ {j o}, ops[j]? = some o → trivialOp o.op = true ∨ writes o (o.looksAt ops) = false := fun {j o} hj => O.look j o j o hj hj (by omega)
    have hsx := (Region.noSelect_spec O.select x ox · · hx)
    have hsi := (Region.noSelect_spec O.select i oi · · hi)
    have fin : ∀ {j o} {a w}, ops[j]? = some o → (∀ z ∈ l1 ++ l2, ¬ (rank π z < rank π j ∧ bitOf b j z = true)) → wpG P ops (Strict ops K0) chk (l1 ++ l2) a w → dynWant ops o a = true := fun {j o a w} hj hz hK => by
      cases htr : trivialOp o.op with
      | true => unfold dynWant; rw [dynOp_trivial htr]; rfl
      | false => exact finalG hj _ a w hK fun z hzm oz hoz => (O.look j o z oz hj hoz (hz z hzm)).resolve_left (by rw [htr]; exact Bool.false_ne_true)
    refine swapG hx hi hap hsx hsi (B := fun a w => ∀ k ∈ C', again P ops k a w) (A := fun a w => ∀ k ∈ chk x, again P ops k a w) ?_ (hself hx) (hself hi) (O.self x ox hx) ?_ ?_ ?_ ?_ (fun a w hK => ⟨fin hx (fun z hz hh => ?_) hK, fin hi (fun z hz hh => ?_) hK⟩) h
    · unfold clG clOK at hcl
      simp only [Bool.or_eq_true, Bool.and_eq_true, beq_iff_eq] at hcl
      rcases hcl with ((h | h) | h) | h
      · exact .inl h
      · exact .inr (.inl h)
      · exact .inr (.inr (.inl h))
      · refine .inr (.inr (.inr ⟨h.1, fun a w hB => hB x ?_⟩))
        have : x ∈ chk i := by simpa using h.2
        simp [C', this]
    · intro a1 v w1 hB k hk
      have hkC : k ∈ C' := by by_cases hx : x ∈ chk i <;> simp [C', hx, hk]
      exact (O.againPut hi (hC k hk).1 hx ((hC k hk).2 x (by simp)) rfl).1 (hB k hkC)
    · intro hc a w k hk
      have := O.chkAny i oi hi (by rw [hc]; exact fun h => by cases h)
      have hk' := (hC k hk).1
      rw [this] at hk'; cases hk'
    · intro hc a w k hk
      have := O.chkAny x ox hx (by rcases hc with hc | hc <;> rw [hc] <;> exact fun h => by cases h)
      rw [this] at hk; cases hk
    · intro a1 u w1 hA k hk
      obtain ⟨ok, hok, hrk, _⟩ := O.chkLook x ox k hx hk
      exact (O.againPut hx hk hi (by omega) rfl).2 (hA k hk)
    · have : rank π x < rank π z := hs'.1 z (by rcases List.mem_append.1 hz with h | h <;> simp [h])
      omega
    · rcases List.mem_append.1 hz with hz | hz
      · rw [hn z (by simp [hz])] at hh; cases hh.2
      · have := hl2 z hz; omega
theorem mask_listedG (O : Ordered P ops π chk b) {listed : Array Bool} (hc : Closed ops listed) (hsz : listed.size = ops.size) : ∀ (d j : Nat) (o : Oper), j = d → ops[j]? = some o →
    (∀ e ∈ o.after, Region.binds .any e = true → listed.getD e.on false = true) → ∀ i, i < j → bitOf b j i = true → listed.getD i false = true := by
  intro d
  induction d using Nat.strongRecOn with
  | _ d ih =>
    intro j o hd hj hall i hij hb
    have hm := O.mask j o hj
    have := List.all_eq_true.1 hm i (List.mem_range.2 hij)
    have hb : (b.getD j 0).testBit i = true := by simp only [bitOf, Bool.and_eq_true] at hb; exact hb.2
    rw [hb] at this
    simp only [Bool.not_true, Bool.false_or] at this
    obtain ⟨e, hem, h2⟩ := Array.any_eq_true'.1 this
    simp only [Bool.and_eq_true, Bool.or_eq_true, beq_iff_eq, decide_eq_true_eq] at h2
    have hon := hall e hem h2.1
    rcases h2.2 with h3 | h3
    · rw [← h3]; exact hon
    · have hej := (O.edges j o hj e hem h2.1).1
      have hlt : e.on < ops.size := by
        have := (Array.getElem?_eq_some_iff.1 hj).1; omega
      have hoe : ops[e.on]? = some ops[e.on] := Array.getElem?_eq_getElem hlt
      refine ih e.on (by omega) e.on _ rfl hoe (hc _ _ hoe ?_) i h3.1 (by simp only [bitOf, Bool.and_eq_true, decide_eq_true_eq]; exact h3)
      have : e.on < listed.size := by omega
      simp [this] at hon ⊢; exact hon
theorem any_of_G (O : Ordered P ops π chk b) : ∀ (fuel : Nat) (l : List Nat) (listed : Array Bool) (a : Act) (w : World), l.length = fuel → listed.size = ops.size → l.Pairwise (fun x y => rank π x < rank π y) →
    (∀ k, k ∈ l ↔ k < ops.size ∧ listed.getD k true = false) → Closed ops listed → wpG P ops (Strict ops K0) chk l a w → wpAny P .any ops (Strict ops K0) fuel listed a w
  | 0, l, listed, a, w, hf, hsz, hs, hm, hc, h => by
    obtain rfl := List.eq_nil_of_length_eq_zero hf
    refine ⟨?_, h⟩
    refine List.eq_nil_iff_forall_not_mem.2 fun j hj => ?_
    obtain ⟨h1, o, h2, _⟩ := mem_ready.1 hj
    have := (hm j).2 ⟨(Array.getElem?_eq_some_iff.1 h2).1, h1⟩
    cases this
  | fuel + 1, l, listed, a, w, hf, hsz, hs, hm, hc, h => by
    refine ⟨fun hr => ?_, fun i hi => ?_⟩
    · exfalso
      cases l with
      | nil => cases hf
      | cons k l =>
        obtain ⟨hk, hkl⟩ := (hm k).1 (by simp)
        have hok : ops[k]? = some ops[k] := Array.getElem?_eq_getElem hk
        have : k ∈ Region.ready .any ops listed := mem_ready.2 ⟨hkl, _, hok, fun e he hbd => by
          have hej := O.edges k _ hok e he hbd
          cases hl : listed.getD e.on true with
          | true =>
            have hlt : e.on < listed.size := by omega
            simp [hlt] at hl ⊢; exact hl
          | false =>
            have := (hm e.on).2 ⟨by omega, hl⟩
            rcases List.mem_cons.1 this with h1 | h1
            · omega
            · have := (List.pairwise_cons.1 hs).1 _ h1; omega⟩
        rw [hr] at this
        cases this
    · obtain ⟨h1, oi, h2, hall⟩ := mem_ready.1 hi
      have hin : i < ops.size := (Array.getElem?_eq_some_iff.1 h2).1
      obtain ⟨l1, l2, rfl⟩ := List.append_of_mem ((hm i).2 ⟨hin, h1⟩)
      have hpw := List.pairwise_append.1 hs
      have hnot1 : i ∉ l1 := fun hx => by have := hpw.2.2 i hx i (by simp); omega
      have hnot2 : i ∉ l2 := fun hx => by have := (List.pairwise_cons.1 hpw.2.1).1 i hx; omega
      refine wpOp_mono (fun a w h => any_of_G O fuel (l1 ++ l2) _ a w ?_ (by simp [hsz]) ?_ (fun k => ?_) ?_ h.2)
        (bubbleG O h2 l2 (fun z hz => (List.pairwise_cons.1 hpw.2.1).1 z hz) l1 [] hs (fun z hz => ((hm z).1 (by simp [hz])).1) (fun z hz => ?_) (by simp) a w h)
      · simp at hf ⊢; omega
      · exact hs.sublist (List.Sublist.append (List.Sublist.refl _) (List.sublist_cons_self _ _))
      · by_cases hki : k = i
        · subst hki
          have hlt : k < listed.size := by omega
          simp [hnot1, hnot2, hlt]
        · rw [getD_set_ne true (fun e => hki e.symm), ← hm k]
          simp [hki]
      · intro j o hj hl e he hbd
        by_cases hji : j = i
        · subst hji
          have : o = oi := Option.some.inj (hj.symm.trans h2)
          subst this
          exact getD_set_true (hall e he hbd)
        · rw [getD_set_ne true (fun e => hji e.symm)] at hl
          exact getD_set_true (hc j o hj hl e he hbd)
      · cases ht : bitOf b i z with
        | false => rfl
        | true =>
          exfalso
          have h3 := mask_listedG O hc hsz i i oi rfl h2 hall z (by simp only [bitOf, Bool.and_eq_true, decide_eq_true_eq] at ht; exact ht.1) ht
          have h4 := ((hm z).1 (by simp [hz])).2
          have hlt : z < listed.size := by have := ((hm z).1 (by simp [hz])).1; omega
          simp [hlt] at h3 h4
          rw [h3] at h4; cases h4
end
/-! ### Segments -/
/-- the operations of a list of numbers -/
def pick (ops : Array Oper) : List Nat → List Oper
  | [] => []
  | i :: l => ops.getD i default :: pick ops l
/-- a segment's end that is reached neither by a panic nor by want of room -/
def Mid (K : Act → World → Prop) : Exit → Act → World → Prop
  | .normal, a, w => K a w
  | _, _, _ => False
theorem Mid.intro {K : Act → World → Prop} {a : Act} {w : World} (h : K a w) : Mid K .normal a w := h
def againAll (P : Program) (ops : Array Oper) : List Nat → Act → World → Prop
  | [], _, _ => True
  | k :: c, a, w => again P ops k a w ∧ againAll P ops c a w
/-- segments one after the other -/
def wpSegs (P : Program) (ops : Array Oper) (K0 : Act → World → Prop) : List (List Nat × List Nat) → Act → World → Prop
  | [], a, w => Strict ops K0 .normal a w
  | (l, c) :: r, a, w => wpList P ops (Mid fun a w => againAll P ops c a w ∧ wpSegs P ops K0 r a w) (pick ops l) a w
def chkOf : List (List Nat × List Nat) → Nat → List Nat
  | [], _ => []
  | (l, c) :: r, i => if l.getLast? == some i then c else chkOf r i
def orderOf : List (List Nat × List Nat) → List Nat
  | [] => []
  | (l, _) :: r => l ++ orderOf r
/-- each segment's own check stands at its last operation alone -/
def segsOK (chk : Nat → List Nat) : List (List Nat × List Nat) → Bool
  | [] => true
  | (l, c) :: r => (match l.reverse with
    | [] => c.isEmpty
    | i :: l' => chk i == c && l'.all fun x => (chk x).isEmpty) && segsOK chk r
section
variable {P : Program} {ops : Array Oper} {K0 : Act → World → Prop}
theorem againAll_mem : ∀ {c : List Nat} {a : Act} {w : World}, againAll P ops c a w → ∀ k ∈ c, again P ops k a w
  | [], _, _, _, k, hk => by cases hk
  | x :: c, a, w, h, k, hk => by
    rcases List.mem_cons.1 hk with rfl | hk
    · exact h.1
    · exact againAll_mem h.2 k hk
theorem wpOp_post {Q Q' : Exit → Act → World → Prop} (hp : ∀ c a w, Q (.panic c) a w → Q' (.panic c) a w) (ho : LetsOut Q → LetsOut Q') {i : Nat} {K : Act → World → Prop} {a : Act} {w : World} (h : wpOp P ops Q i K a w) : wpOp P ops Q' i K a w := by
  unfold wpOp at h ⊢
  split
  · rename_i hi; simp only [hi] at h; exact h
  · rename_i o hi
    simp only [hi] at h
    split
    · rename_i hw
      simp only [hw, if_true] at h
      rcases h with h | h
      · refine .inl ?_
        unfold Oper.wp at h ⊢
        generalize (execOp a.eval o).run P w = r at h ⊢
        cases r with
        | ok n w' =>
          cases n <;> simp only [Oper.upon] at h ⊢ <;> first | exact h | skip
          refine Calls.mono h fun e w'' he => ?_
          cases e with
          | returned u => exact he
          | panicked c => exact hp _ _ _ he
          | outgrown => exact ho he
        | halt z w' =>
          cases z <;> simp only [Oper.upon] at h ⊢ <;> first | exact h | exact hp _ _ _ h
      · exact .inr ⟨h.1, ho h.2⟩
    · rename_i hw
      simp only [hw] at h
      exact h
theorem wpList_pick {Q : Exit → Act → World → Prop} : ∀ (l : List Nat), (∀ i ∈ l, i < ops.size) → wpList P ops Q (pick ops l) = wpOps P ops Q l
  | [], _ => by funext a w; rfl
  | i :: l, h => by
    have hi : i < ops.size := h i (by simp)
    have hg : ops[i]? = some (ops.getD i default) := by simp [hi]
    funext a w
    simp only [pick, wpOps, hg, wpList]
    rw [wpList_pick l fun j hj => h j (by simp [hj])]
theorem wpG_append {chk : Nat → List Nat} {c : List Nat} {K : Act → World → Prop} {r : List Nat} (hK : ∀ a w, againAll P ops c a w ∧ K a w → (∀ k ∈ c, again P ops k a w) ∧ wpG P ops (Strict ops K0) chk r a w) : ∀ (l : List Nat) (a : Act) (w : World),
    (match l.reverse with | [] => c.isEmpty | i :: l' => chk i == c && l'.all fun x => (chk x).isEmpty) = true → wpOps P ops (Mid fun a w => againAll P ops c a w ∧ K a w) l a w → wpG P ops (Strict ops K0) chk (l ++ r) a w
  | [], a, w, hc, h => (hK a w h).2
  | i :: l, a, w, hc, h => by
    rw [wpOps_cons] at h
    have h := wpOp_post (Q' := Strict ops K0) (fun _ _ _ h => h) (fun ⟨_, _, h⟩ => h.elim) h
    show wpOp P ops (Strict ops K0) i _ a w
    cases l with
    | nil =>
      simp only [List.reverse_cons, List.reverse_nil, List.nil_append, Bool.and_eq_true, beq_iff_eq] at hc
      refine wpOp_mono (fun a w h => ?_) h
      have := hK a w h
      rw [hc.1]
      exact this
    | cons j l =>
      have hci : chk i = [] ∧ (match (j :: l).reverse with | [] => c.isEmpty | i :: l' => chk i == c && l'.all fun x => (chk x).isEmpty) = true := by
        rw [List.reverse_cons] at hc
        cases hr : (j :: l).reverse with
        | nil => simp at hr
        | cons z q =>
          rw [hr] at hc
          simp only [List.cons_append, List.all_append, List.all_cons, List.all_nil, Bool.and_true, Bool.and_eq_true, List.isEmpty_iff] at hc ⊢
          exact ⟨hc.2.2, hc.1, hc.2.1⟩
      refine wpOp_mono (fun a w h => ⟨fun k hk => ?_, wpG_append hK (j :: l) a w hci.2 h⟩) h
      rw [hci.1] at hk; cases hk
theorem wpG_of_segs {chk : Nat → List Nat} : ∀ (ss : List (List Nat × List Nat)) (a : Act) (w : World), segsOK chk ss = true → (∀ i ∈ orderOf ss, i < ops.size) → wpSegs P ops K0 ss a w → wpG P ops (Strict ops K0) chk (orderOf ss) a w
  | [], a, w, _, _, h => h
  | (l, c) :: r, a, w, hc, hlt, h => by
    simp only [segsOK, Bool.and_eq_true] at hc
    have h : wpList P ops (Mid fun a w => againAll P ops c a w ∧ wpSegs P ops K0 r a w) (pick ops l) a w := h
    rw [wpList_pick l fun i hi => hlt i (by simp [orderOf, hi])] at h
    exact wpG_append (fun a w h => ⟨againAll_mem h.1, wpG_of_segs r a w hc.2 (fun i hi => hlt i (by simp [orderOf, hi])) h.2⟩) l a w hc.1 h
end
def segsFit (P : Program) (ops : Array Oper) (ss : List (List Nat × List Nat)) : Bool := orderOK P ops (orderOf ss) (chkOf ss) && segsOK (chkOf ss) ss
/-- A REGION THAT DRAWS ITS ORDER, WALKED IN SEGMENTS: each is a list of the operations' numbers, with the loads that are looked at again behind it. -/
theorem wp_region_segs {P : Program} {id : Nat} {l : List Oper} {Q : Exit → Act → World → Prop} {a : Act} {w : World} (ss : List (List Nat × List Nat)) (hm : P.follows .mixedOrders = true)
    (hc : segsFit P l.toArray ss = true) (h : wpSegs P l.toArray (Q .normal) ss a w.drew) : (Code.region id l.toArray true).wp P Q a w := by
  unfold segsFit at hc
  rw [Bool.and_eq_true] at hc
  have O := Ordered.of hc.1
  have hlen : (orderOf ss).length = l.length := by simpa using O.len
  refine Code.wp_mono Strict.imp (wp_region_any hm (any_of_G O _ (orderOf ss) _ a _ (by simp [hlen]) (by simp) ?_ (fun k => ?_) ?_ ?_))
  · have hnd := O.nodup
    rw [List.pairwise_iff_getElem]
    intro i j hi hj hij
    unfold rank
    rw [hnd.idxOf_getElem i hi, hnd.idxOf_getElem j hj]
    exact hij
  · rw [← O.all k]
    simp
    intro hk
    rw [Array.getElem?_replicate]
    simp [hk]
  · intro j o hj hl
    have hlt : j < l.length := by have := (Array.getElem?_eq_some_iff.1 hj).1; simpa using this
    rw [Array.getD_eq_getD_getElem?, Array.getElem?_replicate] at hl
    simp [hlt] at hl
  · exact wpG_of_segs ss a _ hc.2 (fun i hi => (O.all i).2 hi) h
def flatDesc : TypeDesc → Bool
  | .struct _ | .array _ _ => false
  | _ => true
/-- a load of one cell, looked at again -/
theorem again_cell {P : Program} {ops : Array Oper} {k : Nat} {o : Oper} {a : Act} {w : World} {T : TypeId} {x : Operand} {ad : Addr} {v : Value} {d : TypeDesc} (hk : ops[k]? = some o) (ho : o.op = .load T x) (hx : a.eval x = .pointer (some ad))
    (hT : P.underlying T = some d) (hd : flatDesc d = true) (hc : w.cell? ad = some v) (hv : (a.put o.dst v).tmps = a.tmps) : again P ops k a w := by
  intro o' ho' _
  obtain rfl : o = o' := Option.some.inj (hk.symm.trans ho')
  refine ⟨v, ?_, hv⟩
  unfold execOp
  simp only [ho, hx]
  unfold Instr.loadAt Go.loadVar Go.isAgg
  have hu : (Go.underlying T).run P w = .ok d w := by unfold Go.underlying; simp [hT]
  rw [Sem.run_bind, Sem.run_bind]
  show ((Result.ok ad w).andThen _).andThen _ = _
  simp only [Result.andThen_ok]
  rw [Sem.run_bind, Sem.run_bind, hu]
  cases d <;> first | (cases hd; done) | simp [hc]
end Go.Proofs.Rg
end
