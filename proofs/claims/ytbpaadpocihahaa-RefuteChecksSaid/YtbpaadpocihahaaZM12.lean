/- Own texts of this claim, part 13: no condition. -/
import Derived.ProofKit
import Derived.OpenShut
import Derived.Deep.Slices
import Derived.Test.YtbpaadpocihahaaZM1
import Derived.Test.YtbpaadpocihahaaZM8
import Derived.Test.YtbpaadpocihahaaZM11
set_option linter.unusedVariables false
set_option linter.unusedSimpArgs false
section
/- The frame of a law that answers true and leaves old memory as it was; slices opened into their cells. No condition on a program. -/
namespace Go.Proofs.Lw
open Go Go.ChangeShapes Go.WideShapes Go.ChangeAt Go.RowKit Go.Proofs.Hp
set_option linter.unusedVariables false
set_option linter.unusedSimpArgs false
/-- behind a call that left old memory as it was, each argument reads as it did -/
theorem args_stay {H : Type} {enc : TypeId × Value → H} {P : Program} (hl : laidOutB P = true) {W W' : World} (hb : Below W.heap.size W W') :
    ∀ {ts : List TypeId} {vs : List Value} {ds : List (DataW H)} {ps : List MemPlace}, ts.all (fun t => P.readableRec t && decide (t < P.types.size)) = true → DataW.TrodAll enc P W 0 (fun _ => true) true ts vs ds ps →
      (∀ x ∈ ps, x.block < W.heap.size) → DataW.TrodAll enc P W' 0 (fun b => decide (b < W.heap.size)) true ts vs ds ps := by
  intro ts
  induction ts with
  | nil => intro vs ds ps _ h _; obtain ⟨rfl, rfl, rfl⟩ := trodAll_nil h; exact trodAll_mk0
  | cons t ts ih =>
    intro vs ds ps hok h hlt
    obtain ⟨v, vs1, d, ds1, p, q, rfl, rfl, rfl, h1, h2⟩ := trodAll_cons h
    simp only [List.all_cons, Bool.and_eq_true, decide_eq_true_eq] at hok
    exact trodAll_cons_mk (Below.trod hl hok.1.1 hok.1.2 h1 hb fun x hx => hlt x (List.mem_append_left _ hx)) (ih (by simpa only [List.all_eq_true, Bool.and_eq_true, decide_eq_true_eq] using hok.2) h2 fun x hx => hlt x (List.mem_append_right _ hx))
/-- the answer of such a law -/
theorem law_post {H : Type} {enc : TypeId × Value → H} {P : Program} (hl : laidOutB P = true) {f : Func} {s : ChangeSpec} {ts : List TypeId} {tb : TypeId} (hf : f.params.toList = ts) (hr : f.resultTypes = #[tb])
    (hb : P.underlying tb = some .bool) (hv : s.vars = []) (hok : ts.all (fun t => P.readableRec t && decide (t < P.types.size)) = true)
    (hfn : ∀ ds : List (DataW H), ds.length = ts.length → s.fn H ds = { results := [.lit (.bool true)], args := ds }) {W W' : World} {args : Array Value} {ds gs : List (DataW H)} {before : List MemPlace}
    (hW : DataW.Whole enc P f.params.toList s.vars false W args.toList ds gs before) (hB : Fr [] W W') : s.post enc P f false true false false W args (.bool true) W' := by
  have hW' := hW
  obtain ⟨p, q, hA, hV, rfl, hfz, hnd⟩ := hW
  rw [hf] at hA
  rw [hv] at hV
  obtain ⟨rfl, rfl⟩ := trodVars_none hV
  have hlen : ∀ {ts : List TypeId} {vs : List Value} {ds : List (DataW H)} {ps : List MemPlace}, DataW.TrodAll enc P W 0 (fun _ => true) true ts vs ds ps → ds.length = ts.length := by
    intro ts
    induction ts with
    | nil => intro vs ds ps h; obtain ⟨rfl, rfl, rfl⟩ := trodAll_nil h; rfl
    | cons t ts ih => intro vs ds ps h; obtain ⟨v, vs1, d, ds1, p, q, rfl, rfl, rfl, h1, h2⟩ := trodAll_cons h; simp [ih h2]
  have e := hfn (ds ++ []) (by simpa using hlen hA)
  refine ⟨ds, [], p ++ [], [], p, [], hW', ?_, ?_, ?_, hB.below.frame _ |> World.keptBut_mono (w := W) (w' := W') (fun x hx => hx), fun h => by cases h⟩
  · rw [e, hr]
    exact trodAll_mk1 (shut_bool hb true)
  · rw [e, hf, List.append_nil]
    exact args_stay hl hB.below hok hA fun x hx => by simpa using hW'.lt x (by simpa using hx)
  · rw [e, hv]
    exact rfl
/-- a slice whose elements are some cells each, read whole: its elements' cells -/
theorem open_rows {H : Type} {enc : TypeId × Value → H} {P : Program} {W : World} {t e : TypeId} {sz fuel n c : Nat} {a : Option Addr} {x : DataW H × List MemPlace} (ht : P.underlying t = some (.slice e)) (hsz : P.cellsOf e = sz) (hpos : 0 < sz)
    (h : DataW.trod enc P W 0 (fun _ => true) true fuel t [.slice a n c] = some x) :
    n ≤ c ∧ c ≤ maxLen ∧ ∃ xs : List (List Value), xs.length = n ∧ (∀ cs' ∈ xs, cs'.length = sz ∧ ∃ fuel y, DataW.trod enc P W 0 (fun _ => true) true fuel e cs' = some y) ∧
      (a = none → n = 0 ∧ c = 0) ∧ (0 < n → ∃ g off, a = some ⟨g, off, none⟩ ∧ g < W.heap.size ∧ ∀ j u, xs.flatten[j]? = some u → W.cell? ⟨g, off + j, none⟩ = some u) := by
  rcases Go.Deep.open_slice ht h with ⟨h0, _⟩ | ⟨ad, len, cap, m, k, D, Pl, hcs, _, hlc, hcm, hm, _, hx⟩
  · simp only [List.cons.injEq, Value.slice.injEq, and_true] at h0
    obtain ⟨rfl, rfl, rfl⟩ := h0
    exact ⟨Nat.le_refl _, Nat.zero_le _, [], rfl, by simp, by simp, by omega⟩
  · simp only [List.cons.injEq, Value.slice.injEq, and_true] at hcs
    obtain ⟨rfl, rfl, rfl⟩ := hcs
    simp only [if_true] at hm
    subst hm
    rw [hsz] at hx
    obtain ⟨C, hC⟩ := Go.Deep.choose_lt (α := List Value) (n := m) (p := fun i cs' => W.cells? 0 (ad.add (i * sz)) sz = some cs' ∧ DataW.trod enc P W 0 (fun _ => true) true k e cs' = some (D i, Pl i)) hx
    have hlen : ∀ i, i < n → (C i).length = sz := fun i hi => (World.cells?_some (hC i (by omega)).1).2.1
    refine ⟨hlc, hcm, (List.range n).map C, by simp, ?_, by simp, ?_⟩
    · intro cs' hm'
      obtain ⟨i, hi, rfl⟩ := List.mem_map.1 hm'
      have hi' := List.mem_range.1 hi
      exact ⟨hlen i hi', k, _, (hC i (by omega)).2⟩
    · intro hn
      have h0 := (hC 0 (by omega)).1
      have hblock := World.cells?_block h0 hpos
      obtain ⟨g, off, spot⟩ := ad
      have hsp : spot = none := by
        have hl0 := (World.cells?_some h0).2.1
        have hc0 := (World.cells?_some h0).2.2 0 (by omega)
        rw [List.getElem?_eq_getElem (by omega)] at hc0
        simpa [Addr.add] using World.cell?_spot hc0
      subst hsp
      refine ⟨g, off, rfl, by simpa [Addr.add] using hblock, ?_⟩
      have key : ∀ k, k ≤ n → ∀ j u, ((List.range k).map C).flatten[j]? = some u → W.cell? ⟨g, off + j, none⟩ = some u := by
        intro k
        induction k with
        | zero => intro _ j u hj; simp at hj
        | succ k ih =>
          intro hk j u hj
          have hfl : ∀ q, q ≤ n → ((List.range q).map C).flatten.length = q * sz := by
            intro q
            induction q with
            | zero => intro _; simp
            | succ q iq => intro hq; rw [List.range_succ, List.map_append, List.flatten_append, List.length_append, iq (by omega)]; simp [hlen q (by omega), Nat.succ_mul]
          rw [List.range_succ, List.map_append, List.flatten_append] at hj
          rcases Nat.lt_or_ge j (k * sz) with h1 | h1
          · rw [List.getElem?_append_left (by rw [hfl k (by omega)]; exact h1)] at hj
            exact ih (by omega) j u hj
          · rw [List.getElem?_append_right (by rw [hfl k (by omega)]; exact h1), hfl k (by omega)] at hj
            simp only [List.map_cons, List.map_nil, List.flatten_cons, List.flatten_nil, List.append_nil] at hj
            have hjl := (List.getElem?_eq_some_iff.1 hj).1
            rw [hlen k (by omega)] at hjl
            have := (World.cells?_some (hC k (by omega)).1).2.2 (j - k * sz) (by omega)
            rw [hj, add_plain, add_plain] at this
            rw [show off + j = off + k * sz + (j - k * sz) by omega]
            exact this
      exact key n (Nat.le_refl _)
/-- one witness for each member -/
theorem map_of_all {α β : Type} {f : β → α} : ∀ {xs : List α}, (∀ x ∈ xs, ∃ k, x = f k) → ∃ ks : List β, xs = ks.map f
  | [], _ => ⟨[], rfl⟩
  | x :: xs, h => by
    obtain ⟨k, rfl⟩ := h x (by simp)
    obtain ⟨ks, rfl⟩ := map_of_all (xs := xs) fun y hy => h y (by simp [hy])
    exact ⟨k :: ks, rfl⟩
end Go.Proofs.Lw
end

section
/- Drawn formulas and assignments, opened. -/
namespace Go.Proofs.Ytbpaadpocihahaa
open Go Go.ChangeShapes Go.WideShapes Go.RowKit Go.Proofs.Hp Go.Proofs.Lw Go.Proofs.Sv
set_option linter.unusedVariables false
set_option linter.unusedSimpArgs false
def i64 (n : Int) : Prop := -9223372036854775808 ≤ n ∧ n ≤ 9223372036854775807
theorem i64_of {n : Int} (h : (Lit.int .i64 n).wf = true) : i64 n := by
  unfold i64
  simpa [Lit.wf, IntKind.min, IntKind.max, IntKind.signed, IntKind.bits] using h
set_option maxRecDepth 100000 in
theorem open_ints1 {H : Type} {enc : TypeId × Value → H} {W : World} {fuel : Nat} {v : Value} {x : DataW H × List MemPlace} (h : DataW.trod enc Try.prog W 0 (fun _ => true) true fuel 25 [v] = some x) :
    ∃ (a : Option Addr) (c : Nat) (l : List Int), v = .slice a l.length c ∧ IntsAt W (.slice a l.length c) l ∧ (∀ n ∈ l, i64 n) ∧ l.length ≤ maxLen := by
  have hform : ∃ a n c, v = .slice a n c := by
    rcases DataW.trod_slice Try.underlying25 h with ⟨h, _⟩ | ⟨a, len, cap, _, _, _, _, h, _⟩
    · simp only [List.cons.injEq, and_true] at h; exact ⟨_, _, _, h⟩
    · simp only [List.cons.injEq, and_true] at h; exact ⟨_, _, _, h⟩
  obtain ⟨a, n, c, rfl⟩ := hform
  obtain ⟨hlc, hcm, xs, hxl, hxs, hnil, hcell⟩ := open_rows Try.underlying25 (sz := 1) (by kernel_rfl) (by omega) h
  obtain ⟨l, rfl, hb⟩ : ∃ l : List Int, xs = l.map (fun n : Int => [Value.int .i64 n]) ∧ ∀ n ∈ l, i64 n := by
    have key : ∀ ys : List (List Value), (∀ y ∈ ys, y ∈ xs) → ∃ l : List Int, ys = l.map (fun n : Int => [Value.int .i64 n]) ∧ ∀ n ∈ l, i64 n := by
      intro ys
      induction ys with
      | nil => intro _; exact ⟨[], rfl, by simp⟩
      | cons y ys ih =>
        intro hy
        obtain ⟨l, rfl, hl⟩ := ih fun z hz => hy z (by simp [hz])
        obtain ⟨_, fuel, q, hq⟩ := hxs y (hy y (by simp))
        obtain ⟨z, rfl, _, hw⟩ := DataW.trod_int Try.underlying3 hq
        refine ⟨z :: l, rfl, fun u hu => ?_⟩
        rw [List.mem_cons] at hu
        rcases hu with rfl | hu
        · exact i64_of hw
        · exact hl u hu
    exact key xs fun _ h => h
  have hn : l.length = n := by simpa using hxl
  subst hn
  have e : ∀ l : List Int, (l.map fun x : Int => [Value.int .i64 x]).flatten = iv l := fun l => by
    induction l with
    | nil => rfl
    | cons x l ih => rw [List.map_cons, List.flatten_cons, ih]; rfl
  rw [e] at hcell
  exact ⟨a, c, l, rfl, ⟨by simp [iv], a, c, rfl, hcell⟩, hb, Nat.le_trans hlc hcm⟩
set_option maxRecDepth 100000 in
theorem open_clauses {H : Type} {enc : TypeId × Value → H} {W : World} {fuel n c : Nat} {a : Option Addr} {x : DataW H × List MemPlace} (h : DataW.trod enc Try.prog W 0 (fun _ => true) true fuel 22 [.slice a n c] = some x) :
    ∃ l : List (List Int), l.length = n ∧ FormAt W a c l := by
  obtain ⟨hlc, hcm, xs, hxl, hxs, hnil, hcell⟩ := open_rows Try.underlying22 (sz := 1) (by kernel_rfl) (by omega) h
  have hm : maxLen ≤ 9223372036854775807 := by decide
  obtain ⟨l, vs, hlen, rfl, hr, hb⟩ : ∃ (l : List (List Int)) (vs : List Value), l.length = vs.length ∧ xs = vs.map (fun p => [p]) ∧ (∀ (i : Nat) (x : List Int), l[i]? = some x → ∃ u, vs[i]? = some u ∧ IntsAt W u x) ∧ ∀ r ∈ l, r.length ≤ maxLen := by
    have key : ∀ ys : List (List Value), (∀ y ∈ ys, y ∈ xs) → ∃ (l : List (List Int)) (vs : List Value), l.length = vs.length ∧ ys = vs.map (fun p => [p]) ∧ (∀ (i : Nat) (x : List Int), l[i]? = some x → ∃ u, vs[i]? = some u ∧ IntsAt W u x) ∧ ∀ r ∈ l, r.length ≤ maxLen := by
      intro ys
      induction ys with
      | nil => intro _; exact ⟨[], [], rfl, rfl, by simp, by simp⟩
      | cons y ys ih =>
        intro hy
        obtain ⟨l, vs, hlen, rfl, hr, hl⟩ := ih fun z hz => hy z (by simp [hz])
        obtain ⟨hy1, fuel, q, hq⟩ := hxs y (hy y (by simp))
        obtain ⟨u, rfl⟩ := List.length_eq_one_iff.1 hy1
        obtain ⟨ua, uc, p, rfl, h1, _, h3⟩ := open_ints1 hq
        refine ⟨p :: l, .slice ua p.length uc :: vs, by simp [hlen], by simp, fun i x hi => ?_, fun z hz => ?_⟩
        · cases i with
          | zero =>
            simp at hi
            subst hi
            exact ⟨_, rfl, h1⟩
          | succ i =>
            obtain ⟨u', hu', hr'⟩ := hr i x (by simpa using hi)
            exact ⟨u', by simpa using hu', hr'⟩
        · rw [List.mem_cons] at hz
          rcases hz with rfl | hz
          · exact h3
          · exact hl z hz
    exact key xs fun _ h => h
  have hn : l.length = n := by
    rw [← hxl, List.length_map]
    exact hlen
  subst hn
  have e : ∀ l : List Value, (l.map fun x => [x]).flatten = l := fun l => by
    induction l with
    | nil => rfl
    | cons x l ih => rw [List.map_cons, List.flatten_cons, ih]; rfl
  rw [e] at hcell
  exact ⟨l, rfl, ⟨vs, ⟨by rw [← hlen, Nat.mul_one], a, c, rfl, hcell⟩, hr⟩, by omega, fun r hr => Nat.le_trans (hb r hr) hm⟩
set_option maxRecDepth 100000 in
theorem open_formula {H : Type} {enc : TypeId × Value → H} {W : World} {base : Nat} {v : Value} {d : DataW H} {ps : List MemPlace} (hval : Value.okWide Try.prog W .any base 24 v)
    (h : DataW.Trod enc Try.prog W 0 (fun _ => true) true 24 v d ps) :
    ∃ (V : Int) (a : Option Addr) (c : Nat) (cs : List (List Int)), v = .agg #[.int .i64 V, .slice a cs.length c] ∧ FormAt W a c cs ∧ i64 V := by
  obtain ⟨cs, rfl, hsz⟩ := okWide_struct Try.underlying24 hval
  have hs3 : cs.size = 2 := hsz.trans (by kernel_rfl)
  obtain ⟨fuel, hf⟩ := h
  obtain ⟨xs, n, rfl, _, _, hn, hf⟩ := DataW.trod_struct Try.underlying24 hf
  obtain ⟨c0, c1, rfl⟩ : ∃ c0 c1, cs = #[c0, c1] := ⟨cs[0], cs[1], by apply Array.ext <;> simp [hs3]; intro i hi; match i, hi with | 0, _ => intro _; rfl | 1, _ => intro _; rfl⟩
  have e1 : Try.prog.cellsOf 3 = 1 := by kernel_rfl
  have e2 : Try.prog.cellsOf 22 = 1 := by kernel_rfl
  have hx3 : xs.length = 2 := hn
  have h0 := hf 0 _ rfl
  have h1 := hf 1 _ rfl
  rw [List.getElem?_eq_getElem (by omega)] at h0 h1
  change DataW.trod enc Try.prog W 0 (fun _ => true) true n 3 (([c0, c1].drop 0).take (Try.prog.cellsOf 3)) = some _ at h0
  change DataW.trod enc Try.prog W 0 (fun _ => true) true n 22 (([c0, c1].drop 1).take (Try.prog.cellsOf 22)) = some _ at h1
  rw [e1] at h0
  rw [e2] at h1
  simp only [List.drop_zero, List.drop_succ_cons, List.take_succ_cons, List.take_zero] at h0 h1
  obtain ⟨s, hs, _, ws⟩ := DataW.trod_int Try.underlying3 h0
  simp only [List.cons.injEq, and_true] at hs
  subst hs
  have hf1 : ∃ a n c, c1 = .slice a n c := by
    rcases DataW.trod_slice Try.underlying22 h1 with ⟨h, _⟩ | ⟨a, len, cap, _, _, _, _, h, _⟩
    · simp only [List.cons.injEq, and_true] at h; exact ⟨_, _, _, h⟩
    · simp only [List.cons.injEq, and_true] at h; exact ⟨_, _, _, h⟩
  obtain ⟨a1, n1, k1, rfl⟩ := hf1
  obtain ⟨l, rfl, hl⟩ := open_clauses h1
  exact ⟨s, a1, k1, l, rfl, hl, i64_of ws⟩
set_option maxRecDepth 100000 in
theorem open_bools {H : Type} {enc : TypeId × Value → H} {W : World} {base : Nat} {v : Value} {d : DataW H} {ps : List MemPlace} (hval : Value.okWide Try.prog W .any base 42 v)
    (h : DataW.Trod enc Try.prog W 0 (fun _ => true) true 42 v d ps) :
    ∃ (a : Option Addr) (c : Nat) (l : List Bool), v = .slice a l.length c ∧ BoolsAt W (.slice a l.length c) l ∧ l.length ≤ c := by
  obtain ⟨a, n, c, rfl⟩ := okWide_slice Try.underlying42 hval
  obtain ⟨fuel, hf⟩ := h
  obtain ⟨hlc, _, xs, hxl, hxs, _, hcell⟩ := open_rows Try.underlying42 (sz := 1) (by kernel_rfl) (by omega) hf
  obtain ⟨l, rfl⟩ := map_of_all (f := fun x : Bool => [Value.bool x]) fun x hx => by
    obtain ⟨_, fuel, y, hy⟩ := hxs x hx
    obtain ⟨z, hz, _⟩ := DataW.trod_bool Try.underlying4 hy
    exact ⟨z, hz⟩
  obtain rfl : l.length = n := by simpa using hxl
  have e : ∀ l : List Bool, (l.map fun x : Bool => [Value.bool x]).flatten = bv l := fun l => by
    induction l with
    | nil => rfl
    | cons x l ih => rw [List.map_cons, List.flatten_cons, ih]; rfl
  rw [e] at hcell
  exact ⟨a, c, l, rfl, ⟨by simp [bv], a, c, rfl, hcell⟩, hlc⟩
set_option maxRecDepth 100000 in
theorem open_int {H : Type} {enc : TypeId × Value → H} {W : World} {base : Nat} {v : Value} {d : DataW H} {ps : List MemPlace} (hval : Value.okWide Try.prog W .any base 3 v)
    (h : DataW.Trod enc Try.prog W 0 (fun _ => true) true 3 v d ps) : ∃ n : Int, v = .int .i64 n ∧ i64 n := by
  obtain ⟨m, rfl⟩ := okWide_int Try.underlying3 hval
  obtain ⟨fuel, hf⟩ := h
  change DataW.trod enc Try.prog W 0 (fun _ => true) true fuel 3 [.int .i64 m] = _ at hf
  obtain ⟨n, hs, _, ws⟩ := DataW.trod_int Try.underlying3 hf
  simp only [List.cons.injEq, and_true] at hs
  exact ⟨n, hs, i64_of ws⟩
set_option maxRecDepth 100000 in
theorem open_byte {H : Type} {enc : TypeId × Value → H} {W : World} {base : Nat} {v : Value} {d : DataW H} {ps : List MemPlace} (hval : Value.okWide Try.prog W .any base 5 v)
    (h : DataW.Trod enc Try.prog W 0 (fun _ => true) true 5 v d ps) : ∃ n : Nat, v = .int .u8 (n : Int) ∧ n < 256 := by
  obtain ⟨m, rfl⟩ := okWide_int Try.underlying5 hval
  obtain ⟨fuel, hf⟩ := h
  change DataW.trod enc Try.prog W 0 (fun _ => true) true fuel 5 [.int .u8 m] = _ at hf
  obtain ⟨n, hs, _, ws⟩ := DataW.trod_int Try.underlying5 hf
  simp only [List.cons.injEq, and_true] at hs
  have : 0 ≤ n ∧ n ≤ 255 := by simpa [Lit.wf, IntKind.min, IntKind.max, IntKind.signed, IntKind.bits] using ws
  exact ⟨n.toNat, by rw [hs, Int.toNat_of_nonneg this.1], by omega⟩
set_option maxRecDepth 100000 in
theorem open_proof {H : Type} {enc : TypeId × Value → H} {W : World} {base : Nat} {v : Value} {d : DataW H} {ps : List MemPlace} (hval : Value.okWide Try.prog W .any base 22 v)
    (h : DataW.Trod enc Try.prog W 0 (fun _ => true) true 22 v d ps) :
    ∃ (a : Option Addr) (c : Nat) (l : List (List Int)), v = .slice a l.length c ∧ FormAt W a c l := by
  obtain ⟨a, n, c, rfl⟩ := okWide_slice Try.underlying22 hval
  obtain ⟨fuel, hf⟩ := h
  obtain ⟨l, rfl, hl⟩ := open_clauses hf
  exact ⟨a, c, l, rfl, hl⟩
end Go.Proofs.Ytbpaadpocihahaa
end

section
/- refute: Core. -/
namespace Go.Proofs.Ytbpaadpocihahaa
open Go Go.RowKit Go.Proofs.Rg Go.Proofs.Mp Go.Proofs.Hp Go.Proofs.Sv Go.Proofs.Rp
set_option linter.unusedVariables false
set_option linter.unusedSimpArgs false
def coreEV (V : Int) (cs p : List (List Int)) : Int := if validB V cs p then (if cs.length > 300 then 14 else chkE cs p) else 2
def coreLV (V : Int) (cs p : List (List Int)) : List Nat := if coreEV V cs p = 0 then coreF cs p else []
def CorePost (W : World) (Ps : List Res) (E : Int) (L : List Nat) (e : Ending) (w' : World) : Prop :=
  ∃ va vc, e = .returned (.tuple #[.slice va L.length vc, .int .i64 E]) ∧ Has W w' (Hp.row 3 1 (.slice va L.length vc) L.length (nv L) :: Ps)
theorem CorePost.none {W w : World} {Ps : List Res} {E : Int} {e : Ending} (he : e = .returned (.tuple #[.slice Option.none 0 0, .int .i64 E])) (h : Has W w Ps) : CorePost W Ps E [] e w := ⟨Option.none, 0, he, h.nilRow _ _⟩
theorem core_next (p : List (List Int)) (s : List (List Int) × List Nat) (k : Nat) : (List.range (k + 1)).reverse.foldl (coreStep p) s = (List.range k).reverse.foldl (coreStep p) (coreStep p s k) := by
  rw [List.range_succ, List.reverse_append]; rfl
theorem nv_iv (L : List Nat) : nv L = iv (L.map fun n : Nat => (n : Int)) := by simp [nv, iv]
set_option maxHeartbeats 8000000 in
set_option maxRecDepth 100000 in
theorem Core_calls {W w : World} {Ps : List Res} (h : Has W w Ps) {V : Int} {a : Option Addr} {c : Nat} {vs : List Value} {cs : List (List Int)} (hF : FormHs W Ps a c vs cs) {pa : Option Addr} {pc : Nat} {pvs : List Value} {p : List (List Int)} (hP : FormHs W Ps pa pc pvs p)
    (hs : ∀ r ∈ cs, r.length ≤ 1000000) (hsp : ∀ r ∈ p, r.length ≤ 1000000) :
    Calls Try.prog 16 #[.agg #[.int .i64 V, .slice a cs.length c], .slice pa p.length pc] w (CorePost W Ps (coreEV V cs p) (coreLV V cs p)) := by
  have HA := Lib.hid (hF.src _ _ h fun P hP => hP)
  have HB := Lib.hid (hP.src _ _ h fun P hP => hP)
  have HH := Lib.hid (h.newBlk (.cells #[.int .i64 V, .slice a cs.length c] 24 (0, 0)))
  have HF := Lib.hid hF
  have HP := Lib.hid hP
  have HS := Lib.hid hs
  have HSP := Lib.hid hsp
  obtain ⟨b, hb⟩ : ∃ b, validB V cs p = b := ⟨_, rfl⟩
  have HVB := Lib.hid hb
  have HVC := Lib.hid (fun w' (hf : Fr [] w w') => valid_calls (V := V) (HA.out.fr hf) (HB.out.fr hf))
  have HPO := Lib.hid (hF.vone h)
  obtain ⟨n, hn⟩ : ∃ n, cs.length = n := ⟨_, rfl⟩
  have HN := Lib.hid hn
  obtain ⟨PV0, hp1, hp2, hp3⟩ := hF.pairs h
  have HPV := Lib.hid (And.intro hp1 (And.intro hp2 hp3))
  rw [hn] at HVC HH ⊢
  clear h hF hP hs hsp hb hp1 hp2 hp3 hn
  go_enter Try.func16, Try.ntmps16
  go_wp2_with fail
  refine (HVC.out _ (by (repeat first | exact Fr.refl _ _ | assumption | apply Fr.n | apply Fr.d | apply Fr.a | refine Fr.s ?_ (.inr (by simp; try omega)) _))).mono ?_
  rw [HVB.out]
  rintro e w1 ⟨rfl, hf1⟩
  obtain ⟨fb, hfb⟩ : ∃ b, w.heap.size = b := ⟨_, rfl⟩
  have h1 := HH.out.step hf1
  rw [hfb] at h1 ⊢
  have hb := h1.blk
  have c0 : _ = some _ := heap_eq_cell hb 0
  have c1 : _ = some _ := heap_eq_cell hb 1
  have cl := lt_of_block hb
  have H1 := Lib.hid h1
  clear h1 hb hf1 HH HVC hfb
  cases b with
  | false =>
    have HE := Lib.hid (show coreEV V cs p = 2 from by unfold coreEV; rw [HVB.out]; rfl)
    have HL := Lib.hid (show coreLV V cs p = [] from by unfold coreLV; rw [HE.out]; rfl)
    go_wp2
    go_ret2
    rw [HE.out, HL.out]
    exact CorePost.none rfl (H1.out.drop.step (by (repeat first | exact Fr.refl _ _ | assumption | apply Fr.n | apply Fr.d | apply Fr.a | refine Fr.s ?_ (.inr (by simp; try omega)) _)))
  | true =>
    by_cases hn3 : n > 300
    · have hd : decide ((n : Int) > 300) = true := by simp; omega
      have HE := Lib.hid (show coreEV V cs p = 14 from by unfold coreEV; rw [HVB.out, HN.out, if_pos rfl, if_pos hn3])
      have HL := Lib.hid (show coreLV V cs p = [] from by unfold coreLV; rw [HE.out]; rfl)
      go_wp2
      go_ret2
      rw [HE.out, HL.out]
      exact CorePost.none rfl (H1.out.drop.step (by (repeat first | exact Fr.refl _ _ | assumption | apply Fr.n | apply Fr.d | apply Fr.a | refine Fr.s ?_ (.inr (by simp; try omega)) _)))
    · have hd : decide ((n : Int) > 300) = false := by simp; omega
      obtain ⟨hr, hrp⟩ := validB_one HVB.out
      obtain ⟨V', rfl, hV⟩ := rightF_nat hr
      have HRR := Lib.hid (And.intro hr hrp)
      have HE := Lib.hid (show coreEV V' cs p = chkE cs p from by unfold coreEV; rw [HVB.out, HN.out, if_pos rfl, if_neg hn3])
      have HCK := Lib.hid (fun w' (hf : Fr [] w1 w') => check_calls (H1.out.step hf) (HF.out.more fun P hP => List.mem_cons_of_mem _ hP) (HP.out.more fun P hP => List.mem_cons_of_mem _ hP) HVB.out HS.out HSP.out)
      rw [HN.out] at HCK
      clear hr hrp
      go_wp2_with fail
      refine (HCK.out _ (by (repeat first | exact Fr.refl _ _ | assumption | apply Fr.n | apply Fr.d | apply Fr.a | refine Fr.s ?_ (.inr (by simp; try omega)) _))).mono ?_
      rintro e w2 ⟨rfl, h2⟩
      obtain ⟨N, hN⟩ : ∃ N : Int, (chkN cs p : Int) = N := ⟨_, rfl⟩
      obtain ⟨E, hE⟩ : ∃ E, chkE cs p = E := ⟨_, rfl⟩
      rw [hN, hE]
      have HEE := Lib.hid hE
      have H2 := Lib.hid h2
      clear h2 HCK hN hE H1 c0 c1 cl
      by_cases hE0 : E = 0
      · subst hE0
        have hacc : accB cs p = true := by
          have := HEE.out
          rw [chkE_acc] at this
          cases ha : accB cs p with
          | true => rfl
          | false => rw [ha] at this; simp at this
        have HL := Lib.hid (show coreLV V' cs p = coreF cs p from by unfold coreLV; rw [HE.out, HEE.out]; rfl)
        have HEZ := Lib.hid (show coreEV V' cs p = 0 from by rw [HE.out, HEE.out])
        have hrd := (HF.out.1 w2 _ H2.out (fun P hP => List.mem_cons_of_mem _ hP)).1
        have HRD := Lib.hid hrd
        rw [HN.out] at HRD
        have hb := H2.out.blk
        have c0 : _ = some _ := heap_eq_cell hb 0
        have c1 : _ = some _ := heap_eq_cell hb 1
        have cl := lt_of_block hb
        clear hacc hrd hb
        go_wp2_with fail
        refine (Clones_h (H2.out.step (by (repeat first | exact Fr.refl _ _ | assumption | apply Fr.n | apply Fr.d | apply Fr.a | refine Fr.s ?_ (.inr (by simp; try omega)) _))) (Reads.fr HRD.out (by (repeat first | exact Fr.refl _ _ | assumption | apply Fr.n | apply Fr.d | apply Fr.a | refine Fr.s ?_ (.inr (by simp; try omega)) _))) HPO.out (by omega)).mono ?_
        rintro e w3 ⟨v3, rfl, h3⟩
        obtain ⟨va, vc, rfl, _, _⟩ := owns_form2 h3.row
        have H3 := Lib.hid h3
        clear h3 HRD H2 c0 c1 cl
        have hpvl : PV0.length = n := by rw [← HN.out, ← HPV.out.2.1, List.length_map]
        have HPL := Lib.hid hpvl
        clear hpvl
        go_wp2
        go_loopg [8, 9, 10] n (fun gg z8 z9 z10 wr => ∃ (j m t : Nat) (zi : Int) (PV : List (Value × List Int)) (O : List Nat) (va : Option Addr) (vc : Nat) (ua : Option Addr) (uc : Nat), j ≤ gg ∧ j ≤ m ∧ m ≤ n ∧ t ≤ n - j ∧ z8 = .slice ua t uc ∧ z9 = .slice va m vc ∧ z10 = .int .i64 zi ∧ Hid (zi = (j : Int) - 1) ∧ Hid (PV.length = m ∧ O.length = t ∧ (List.range j).reverse.foldl (coreStep p) (PV.map (·.2), O.reverse) = coreS cs p ∧ ClOks W Ps PV ∧ ∀ q ∈ PV, q.2 ∈ cs) ∧ Hid (Has W wr (Hp.row 25 1 (.slice va m vc) m (PV.map (·.1)) :: Hp.row 3 1 (.slice ua t uc) t (nv O) :: Hp.blk fb (.cells #[.int .i64 (V' : Int), .slice a n c] 24 (0, 0)) :: Ps)))
        case atStart =>
          refine ⟨n, n, 0, _, PV0, [], va, vc, none, 0, Nat.le_refl _, Nat.le_refl _, Nat.le_refl _, by omega, rfl, rfl, rfl, Lib.hid (by omega), Lib.hid ⟨HPL.out, rfl, ?_, HPV.out.2.2, fun q hq => by rw [← HPV.out.2.1]; exact List.mem_map_of_mem hq⟩, Lib.hid (by rw [HPV.out.1]; exact ((H3.out.nilRow 3 1).ord 2 [1, 0]).step (by (repeat first | exact Fr.refl _ _ | assumption | apply Fr.n | apply Fr.d | apply Fr.a | refine Fr.s ?_ (.inr (by simp; try omega)) _)))⟩
          rw [HPV.out.2.1]
          unfold coreS
          rw [HN.out]
          rfl
        case round =>
          obtain ⟨j, m, t, zi, PV, O, va, vc, ua, uc, hjg, hjm, hmn, htn2, rfl, rfl, rfl, HZ, HI, HH⟩ := hrel
          clear H3
          by_cases hj0 : j = 0
          · subst hj0
            have hzn : decide (zi ≥ 0) = false := by have := HZ.out; simp; omega
            have hfin : coreF cs p = O.reverse := by
              unfold coreF
              rw [← HI.out.2.2.1]; rfl
            have HFIN := Lib.hid hfin
            have h9 : Has W wr (Hp.row 3 1 (.slice ua (O.map fun n : Nat => (n : Int)).length uc) (O.map fun n : Nat => (n : Int)).length (iv (O.map fun n : Nat => (n : Int))) :: Ps) := by
              rw [List.length_map, HI.out.2.1, ← nv_iv]
              exact HH.out.ord 3 [1]
            have HRV := Lib.hid (fun w' (hf : Fr [] wr w') => Reverse_n (h9.step hf) (by rw [List.length_map, HI.out.2.1]; omega))
            have hol : (O.map fun n : Nat => (n : Int)).length = t := by rw [List.length_map, HI.out.2.1]
            rw [hol] at HRV
            clear h9 hfin hol
            go_wp2_with fail
            refine (HRV.out _ (by (repeat first | exact Fr.refl _ _ | assumption | apply Fr.n | apply Fr.d | apply Fr.a | refine Fr.s ?_ (.inr (by simp; try omega)) _))).mono ?_
            rintro e w5 ⟨rfl, h5⟩
            have H5 := Lib.hid h5
            clear h5 HRV
            go_wp2
            go_ret2
            rw [HEZ.out, HL.out, HFIN.out]
            refine ⟨ua, uc, by rw [List.length_reverse, HI.out.2.1]; rfl, ?_⟩
            rw [List.length_reverse, HI.out.2.1, nv_iv, List.map_reverse]
            exact H5.out.step (by (repeat first | exact Fr.refl _ _ | assumption | apply Fr.n | apply Fr.d | apply Fr.a | refine Fr.s ?_ (.inr (by simp; try omega)) _))
          · obtain ⟨i, rfl⟩ : ∃ i, j = i + 1 := ⟨j - 1, by omega⟩
            obtain rfl : zi = (i : Int) := by have := HZ.out; omega
            have hone := HI.out.2.2.2.1.one
            have HONE := Lib.hid hone
            clear hone
            go_wp2_with fail
            refine (Clones_h (HH.out.step (by (repeat first | exact Fr.refl _ _ | assumption | apply Fr.n | apply Fr.d | apply Fr.a | refine Fr.s ?_ (.inr (by simp; try omega)) _))) (Reads.fr HH.out.rowReads (by (repeat first | exact Fr.refl _ _ | assumption | apply Fr.n | apply Fr.d | apply Fr.a | refine Fr.s ?_ (.inr (by simp; try omega)) _))) HONE.out (by omega)).mono ?_
            rintro e w5 ⟨v5, rfl, h5⟩
            obtain ⟨la, lc, rfl, hl0, hl1⟩ := owns_form2 h5.row
            obtain ⟨lg, rfl⟩ : ∃ lg, la = some ⟨lg, 0, none⟩ := by
              cases la with
              | none => have := (hl0 rfl).1; omega
              | some ad => obtain ⟨q, rfl⟩ := hl1 ad rfl; exact ⟨q, rfl⟩
            have H5 := Lib.hid h5
            have HML := Lib.hid (show (PV.map (·.1)).length = m from by rw [List.length_map, HI.out.1])
            clear h5 hl0 hl1
            go_wp2_with fail
            refine (DeleteC_h (i := i) H5.out HONE.out HML.out (by omega) (by omega)).mono ?_
            rintro e w6 ⟨rfl, h6⟩
            rw [← map_erase] at h6
            have hel : (PV.eraseIdx i).length = m - 1 := by rw [List.length_eraseIdx, HI.out.1, if_pos (by omega)]
            have hsub : ∀ q ∈ PV.eraseIdx i, q.2 ∈ cs := fun q hq => HI.out.2.2.2.2 q (List.mem_of_mem_eraseIdx hq)
            have hfm := (HI.out.2.2.2.1.erase i).form (va := some ⟨lg, 0, none⟩) (vc := lc) hel (by omega) (fun q hq => HS.out _ (hsub q hq)) (Rs := Hp.row 25 1 (.slice (some ⟨lg, 0, none⟩) (m - 1) lc) (m - 1) ((PV.eraseIdx i).map (·.1)) :: Hp.row 25 1 (.slice va m vc) m (PV.map (·.1)) :: Hp.row 3 1 (.slice ua t uc) t (nv O) :: Hp.blk fb (.cells #[.int .i64 (V' : Int), .slice a n c] 24 (0, 0)) :: Ps) (by simp) (fun P hP => by simp [hP])
            have hvl : validB V' ((PV.eraseIdx i).map (·.2)) p = true := by
              unfold validB
              rw [HRR.out.2, Bool.and_true]
              refine rightF_sub HRR.out.1 (by rw [List.length_map, hel, HN.out]; omega) fun c hc => ?_
              obtain ⟨q, hq, rfl⟩ := List.mem_map.1 hc
              exact hsub q hq
            have HCK := Lib.hid (fun w' (hf : Fr [] w6 w') => check_calls (h6.step hf) hfm (HP.out.more fun P hP => by simp [hP]) hvl (fun r hr => by
              obtain ⟨q, hq, rfl⟩ := List.mem_map.1 hr
              exact HS.out _ (hsub q hq)) HSP.out)
            have hel2 : ((PV.eraseIdx i).map (·.2)).length = m - 1 := by rw [List.length_map, hel]
            rw [hel2] at HCK
            have hb := (h6.bring 3).blk
            have c0 : _ = some _ := heap_eq_cell hb 0
            have c1 : _ = some _ := heap_eq_cell hb 1
            have cl := lt_of_block hb
            have HEL := Lib.hid hel
            have HSUB := Lib.hid hsub
            clear h6 H5 hb hfm hvl hel hel2 hsub HML
            go_wp2_with fail
            refine (HCK.out _ (by (repeat first | exact Fr.refl _ _ | assumption | apply Fr.n | apply Fr.d | apply Fr.a | refine Fr.s ?_ (.inr (by simp; try omega)) _))).mono ?_
            rintro e w7 ⟨rfl, h7⟩
            have htn := core_next p (PV.map (·.2), O.reverse) i
            rw [HI.out.2.2.1] at htn
            obtain ⟨N2, hN2⟩ : ∃ N : Int, (chkN ((PV.eraseIdx i).map (·.2)) p : Int) = N := ⟨_, rfl⟩
            obtain ⟨E2, hE2⟩ : ∃ E, chkE ((PV.eraseIdx i).map (·.2)) p = E := ⟨_, rfl⟩
            rw [hN2, hE2]
            have hE3 := hE2
            rw [chkE_acc] at hE3
            have HTN := Lib.hid htn
            have HE3 := Lib.hid hE3
            have H7 := Lib.hid h7
            clear h7 HCK htn hN2 hE2 hE3 c0 c1 cl
            by_cases hE20 : E2 = 0
            · subst hE20
              have hts : coreStep p (PV.map (·.2), O.reverse) i = ((PV.eraseIdx i).map (·.2), O.reverse) := by
                unfold coreStep
                simp only
                rw [← map_erase]
                have := HE3.out
                cases ha : accB ((PV.eraseIdx i).map (·.2)) p with
                | true => rfl
                | false => rw [ha] at this; simp at this
              have HTS := Lib.hid hts
              clear hts
              go_wp2
              go_roundg i
              case measure => omega
              case rel => exact ⟨i, m - 1, t, _, PV.eraseIdx i, O, some ⟨lg, 0, none⟩, lc, ua, uc, Nat.le_refl _, by omega, by omega, by omega, rfl, rfl, rfl, Lib.hid rfl, Lib.hid ⟨HEL.out, HI.out.2.1, by rw [← HTS.out]; exact HTN.out.symm, HI.out.2.2.2.1.erase i, HSUB.out⟩, Lib.hid ((H7.out.ord 4 [0, 2, 3]).step (by (repeat first | exact Fr.refl _ _ | assumption | apply Fr.n | apply Fr.d | apply Fr.a | refine Fr.s ?_ (.inr (by simp; try omega)) _)))⟩
            · have hb2 : (E2 == 0) = false := by simpa using hE20
              have hts : coreStep p (PV.map (·.2), O.reverse) i = (PV.map (·.2), (O ++ [i]).reverse) := by
                unfold coreStep
                simp only
                rw [← map_erase]
                have := HE3.out
                cases ha : accB ((PV.eraseIdx i).map (·.2)) p with
                | true => rw [ha] at this; exact absurd this.symm hE20
                | false => simp
              have HTS := Lib.hid hts
              have hmaxl : (1000 : Nat) ≤ maxLen := by decide
              have HLL := Lib.hid (show t + 1 ≤ maxLen ∧ (t + 1) * 8 ≤ 140737488355328 from by omega)
              clear hts hmaxl
              go_wp2_with (at_builtin; refine append_has (W := W) (size := 1) (bytes := 8) (z := .int .i64 0) (e := 3) (n := t) (xs := nv O) (news := [.int .i64 (i : Int)]) rfl rfl Try.underlying25 (by kernel_rfl) rfl (by decide) rfl rfl ((H7.out.bring 2).step (by (repeat first | exact Fr.refl _ _ | assumption | apply Fr.n | apply Fr.d | apply Fr.a | refine Fr.s ?_ (.inr (by simp; try omega)) _))) (by (repeat first | rw [if_pos (by omega)] | rw [if_neg (by omega)] | rw [hp_drew] | rw [hp_drewN] | rw [hp_alloc_size] | rw [hp_setCell_size] | rw [hp_alloc] | rw [hp_setCell] | rw [oMS] | rw [upd_cells] | rw [lSZ] | rw [lSS] | rfl)) rfl (by simp [Value.oneCell']) HLL.out.1 HLL.out.2 ?_)
              intro g9 cap9 w9 h9 hf9 hg9
              rw [show nv O ++ [Value.int .i64 (i : Int)] = nv (O ++ [i]) from by simp [nv]] at h9
              have H9 := Lib.hid h9
              clear h9 hf9 hg9 H7
              go_wp2
              go_roundg i
              case measure => omega
              case rel => exact ⟨i, m, t + 1, _, PV, O ++ [i], va, vc, some ⟨g9, 0, none⟩, cap9, Nat.le_refl _, by omega, hmn, by omega, rfl, rfl, rfl, Lib.hid rfl, Lib.hid ⟨HI.out.1, by rw [List.length_append, HI.out.2.1]; rfl, by have := HTN.out.symm; rwa [HTS.out] at this, HI.out.2.2.2⟩, Lib.hid ((H9.out.ord 4 [2, 0, 3]).step (by (repeat first | exact Fr.refl _ _ | assumption | apply Fr.n | apply Fr.d | apply Fr.a | refine Fr.s ?_ (.inr (by simp; try omega)) _)))⟩
      · have HL := Lib.hid (show coreLV V' cs p = [] from by unfold coreLV; rw [HE.out, HEE.out, if_neg hE0])
        have hb0 : (E != 0) = true := by simpa using hE0
        go_wp2
        go_ret2
        rw [HE.out, HEE.out, HL.out]
        exact CorePost.none rfl (H2.out.drop.step (by (repeat first | exact Fr.refl _ _ | assumption | apply Fr.n | apply Fr.d | apply Fr.a | refine Fr.s ?_ (.inr (by simp; try omega)) _)))
end Go.Proofs.Ytbpaadpocihahaa
end

section
/- refute: the prover excludes decisions. -/
namespace Go.Proofs.Ytbpaadpocihahaa
open Go Go.RowKit Go.Proofs.Rg Go.Proofs.Mp Go.Proofs.Hp Go.Proofs.Sv Go.Proofs.Rp
set_option linter.unusedVariables false
set_option linter.unusedSimpArgs false
/-- the prover's things, but for its engine -/
def provL (b g : Nat) (pv : Value) (PV : List (Value × List Int)) : List Res :=
  [blk b (.cells #[.pointer (some ⟨g, 0, none⟩), pv] 63 (0, 0)), Hp.row 25 1 pv PV.length (PV.map (·.1)), bun (PV.map rowC)]
theorem has_zero {W w : World} {Ps : List Res} (h : Has W w Ps) (T : Nat) : Has W (w.alloc (.cells #[] T (0, 0))) (Hp.row T 1 (.slice (some ⟨w.heap.size, 0, none⟩) 0 0) 0 [] :: Ps) := by
  refine h.newRow ((Fr.refl [] w).alloc _) ?_
  refine ⟨by simp, .inr ⟨w.heap.size, 0, #[], rfl, Nat.le_refl _, by rw [hp_alloc, if_pos rfl], Nat.le_refl _, Nat.zero_le _, by simp, ?_⟩⟩
  simp
def ExclPost (W : World) (Ps : List Res) (b g : Nat) (PV : List (Value × List Int)) (D : List Int) (e : Ending) (w' : World) : Prop :=
  ∃ pv u, e = .returned (.int .i64 0) ∧ Has W w' (provL b g pv (PV ++ [(u, neg D)]) ++ Ps)
theorem neg_snoc' (D : List Int) (i : Nat) {x : Int} (h : D[i]? = some x) : iv (neg (D.take (i + 1))) = iv (neg (D.take i)) ++ [.int .i64 (-x)] := by
  rw [List.take_add_one, h]
  simp [neg, iv]
set_option maxHeartbeats 8000000 in
set_option maxRecDepth 100000 in
theorem exclude_calls {W w : World} {Ps : List Res} {b g : Nat} {pv : Value} {PV : List (Value × List Int)} (h : Has W w (provL b g pv PV ++ Ps)) {da : Option Addr} {dc : Nat} {D : List Int} (hD : IntsSrc W Ps da dc D) (hl : D.length ≤ 1000000) (hV : ∀ x ∈ D, x.natAbs ≤ 65536) (hn : PV.length < 262144) :
    Calls Try.prog 59 #[.pointer (some ⟨b, 0, none⟩), .slice da D.length dc] w (ExclPost W Ps b g PV D) := by
  unfold provL at h
  simp only [List.cons_append, List.nil_append] at h
  have HS := Lib.hid hD
  have HV := Lib.hid hV
  have H := Lib.hid (has_zero h 3)
  obtain ⟨n, hn1⟩ : ∃ n, D.length = n := ⟨_, rfl⟩
  rw [hn1] at hl ⊢
  have HN := Lib.hid hn1
  clear h hD hV hn1
  go_enter Try.func59, Try.ntmps59
  go_wp2
  go_loopg [5, 11] n (fun gg z5 z11 wr => ∃ (i : Nat) (va : Option Addr) (vc : Nat), i ≤ n ∧ n - i ≤ gg ∧ z11 = .int .i64 (i : Int) ∧ z5 = .slice va i vc ∧ Hid (Has W wr (Hp.row 3 1 (.slice va i vc) i (iv (neg (D.take i))) :: blk b (.cells #[.pointer (some ⟨g, 0, none⟩), pv] 63 (0, 0)) :: Hp.row 25 1 pv PV.length (PV.map (·.1)) :: bun (PV.map rowC) :: Ps)))
  case atStart => exact ⟨0, _, 0, Nat.zero_le _, by omega, rfl, rfl, Lib.hid (H.out.step (by (repeat first | exact Fr.refl _ _ | assumption | apply Fr.n | apply Fr.d | apply Fr.a | refine Fr.s ?_ (.inr (by simp; try omega)) _)))⟩
  case round =>
    obtain ⟨i, va, vc, hi, hg, rfl, rfl, HH⟩ := hrel
    clear H
    by_cases hin : i < n
    · obtain ⟨y, hy⟩ : ∃ y, D[i]? = some y := ⟨_, List.getElem?_eq_getElem (by rw [HN.out]; exact hin)⟩
      have hI := HS.out _ _ HH.out (fun P hP => by simp [hP])
      obtain ⟨dg, off, rfl, hgl, hc⟩ := IntsAt.get hI hy
      have hyV := HV.out y (List.mem_of_getElem? hy)
      have hw1 : IntKind.i64.wrap (-y) = -y := IntWalk.i64_in _ (by omega)
      have hmaxl : (1000001 : Nat) ≤ maxLen := by decide
      have HLL := Lib.hid (show i + 1 ≤ maxLen ∧ (i + 1) * 8 ≤ 140737488355328 from by omega)
      have HY := Lib.hid hy
      clear hy hmaxl hI hyV
      go_wp2_with (at_builtin; refine append_has (W := W) (size := 1) (bytes := 8) (z := .int .i64 0) (e := 3) (n := i) (xs := iv (neg (D.take i))) (news := [.int .i64 (-y)]) rfl rfl Try.underlying25 (by kernel_rfl) rfl (by decide) rfl rfl (HH.out.step (by (repeat first | exact Fr.refl _ _ | assumption | apply Fr.n | apply Fr.d | apply Fr.a | refine Fr.s ?_ (.inr (by simp; try omega)) _))) (by (repeat first | rw [if_pos (by omega)] | rw [if_neg (by omega)] | rw [hp_drew] | rw [hp_drewN] | rw [hp_alloc_size] | rw [hp_setCell_size] | rw [hp_alloc] | rw [hp_setCell] | rw [oMS] | rw [upd_cells] | rw [lSZ] | rw [lSS] | rfl)) rfl (by simp [Value.oneCell']) HLL.out.1 HLL.out.2 ?_)
      intro g2 cap2 w2 h2 hf2 hg2
      rw [← neg_snoc' _ _ HY.out] at h2
      have H2 := Lib.hid h2
      clear h2 hf2 hg2 HH hgl hc hw1
      go_wp2
      go_roundg (n - (i + 1))
      case measure => omega
      case rel => exact ⟨i + 1, some ⟨g2, 0, none⟩, cap2, hin, Nat.le_refl _, by simp, rfl, Lib.hid (H2.out.step (by (repeat first | exact Fr.refl _ _ | assumption | apply Fr.n | apply Fr.d | apply Fr.a | refine Fr.s ?_ (.inr (by simp; try omega)) _)))⟩
    · obtain rfl : i = n := by omega
      have h2 := HH.out
      rw [List.take_of_length_le (by rw [HN.out]; exact Nat.le_refl _)] at h2
      have hb := (h2.bring 1).blk
      obtain ⟨pa, pc, rfl, _, _⟩ := owns_form2 (h2.bring 2).row
      have c1 : _ = some _ := heap_eq_cell hb 1
      have z1 := heap_eq_frozen hb 1
      have cl := lt_of_block hb
      obtain ⟨m, hm⟩ : ∃ m, PV.length = m := ⟨_, rfl⟩
      rw [hm] at h2 c1 hn
      have hd : decide ((m : Int) ≥ 262144) = false := by simp; omega
      have hmaxl : (1000001 : Nat) ≤ maxLen := by decide
      have HLL := Lib.hid (show m + 1 ≤ maxLen ∧ (m + 1) * 24 ≤ 140737488355328 from by omega)
      have HM := Lib.hid hm
      have H2 := Lib.hid (h2.ord 4 [2, 1, 3, 0])
      clear h2 hb HH hm hmaxl
      go_wp2_with (at_builtin; refine append_has (W := W) (size := 1) (bytes := 24) (z := .slice none 0 0) (e := 25) (n := m) (xs := PV.map (·.1)) (news := [.slice va i vc]) rfl rfl Try.underlying22 (by kernel_rfl) rfl (by decide) rfl rfl (H2.out.step (by (repeat first | exact Fr.refl _ _ | assumption | apply Fr.n | apply Fr.d | apply Fr.a | refine Fr.s ?_ (.inr (by simp; try omega)) _))) (by (repeat first | rw [if_pos (by omega)] | rw [if_neg (by omega)] | rw [hp_drew] | rw [hp_drewN] | rw [hp_alloc_size] | rw [hp_setCell_size] | rw [hp_alloc] | rw [hp_setCell] | rw [oMS] | rw [upd_cells] | rw [lSZ] | rw [lSS] | rfl)) rfl (by simp [Value.oneCell']) HLL.out.1 HLL.out.2 ?_)
      intro g2 cap2 w5 h5 hf5 hg5
      clear c1 z1 cl
      have hb := (h5.bring 1).blk
      have c1 : _ = some _ := heap_eq_cell hb 1
      have z1 := heap_eq_frozen hb 1
      have cl := lt_of_block hb
      have H5 := Lib.hid h5
      clear h5 hb hf5 hg5 H2
      go_wp2
      go_ret
      refine ⟨.slice (some ⟨g2, 0, none⟩) (m + 1) cap2, .slice va i vc, rfl, ?_⟩
      have h6 := ((H5.out.bring 1).blkSet 1 (.slice (some ⟨g2, 0, none⟩) (m + 1) cap2)).ord 4 [3, 2, 0, 1]
      have h7 : Has W (w5.setCell ⟨b, 1, none⟩ (.slice (some ⟨g2, 0, none⟩) (m + 1) cap2)) (rowC (.slice va i vc, neg D) :: bun (PV.map rowC) :: blk b (.cells #[.pointer (some ⟨g, 0, none⟩), .slice (some ⟨g2, 0, none⟩) (m + 1) cap2] 63 (0, 0)) :: Hp.row 25 1 (.slice (some ⟨g2, 0, none⟩) (m + 1) cap2) (m + 1) (PV.map (·.1) ++ [.slice va i vc]) :: Ps) := by
        unfold rowC
        rw [neg_length, HN.out]
        exact h6
      have h8 := (Has.layNew (R := rowC) (l := PV) h7).ord 3 [1, 2, 0]
      unfold provL
      rw [List.length_append, HM.out, List.map_append]
      exact h8.step (by (repeat first | exact Fr.refl _ _ | assumption | apply Fr.n | apply Fr.d | apply Fr.a | refine Fr.s ?_ (.inr (by simp; try omega)) _))
end Go.Proofs.Ytbpaadpocihahaa
end

section
/- refute: the search for a refutation: what holds on its way. Nothing of the program but the form of its things. -/
namespace Go.Proofs.Ytbpaadpocihahaa
open Go Go.RowKit Go.Proofs.Rg Go.Proofs.Mp Go.Proofs.Hp Go.Proofs.Sv Go.Proofs.Rp
set_option linter.unusedVariables false
set_option linter.unusedSimpArgs false
structure SI (V : Nat) (F : List (List Int)) (us : List Int) (Cs cl : List (List Int)) (wt : Int → List Nat) (D tr : List Int) : Prop where
  core : Core V (Der (bigsOf dd F) (D ++ us)) (bigsOf dd F) Cs cl wt tr tr.length
  usT : ∀ x ∈ us, x ∈ tr
  dT : ∀ x ∈ D, x ∈ tr
  dlen : D.length + openV V tr ≤ V
  eng : Eng V F cl wt us false
section
variable {V : Nat} {F : List (List Int)} {us : List Int} {Cs cl cl' : List (List Int)} {wt wt' : Int → List Nat} {D tr tr2 : List Int} {x : Int}
theorem core_back {G : Int → Prop} {cl0 : List (List Int)} (h : Core V G cl0 Cs cl wt tr tr.length) (hcl : ClOk V cl') (hwt : WtOk cl' wt') (hp : Perms cl0 cl') (hck : ∀ P ∈ tr :: Cs, Wat cl' P P) : Core V G cl0 Cs cl' wt' tr tr.length := by
  refine ⟨hcl, h.htr, hwt, ?_, fun P hP => hck P (by simp [hP]), h.hpcs, hp, h.hg⟩
  rw [List.take_length]
  exact hck tr (by simp)
theorem SI.back (h : SI V F us Cs cl wt D tr) (hcl : ClOk V cl') (hwt : WtOk cl' wt') (hp : Perms (bigsOf dd F) cl') (hck : ∀ P ∈ tr :: Cs, Wat cl' P P) : SI V F us Cs cl' wt' D tr :=
  ⟨core_back h.core hcl hwt hp hck, h.usT, h.dT, h.dlen, ⟨hcl, hwt, hp, h.eng.hus, h.eng.hem, h.eng.lits⟩⟩
theorem SI.set (h : SI V F us Cs cl wt D tr) (hx : x ≠ 0 ∧ x.natAbs ≤ V) (h1 : x ∉ tr) (h2 : -x ∉ tr) : Core V (Der (bigsOf dd F) ((D ++ [x]) ++ us)) (bigsOf dd F) (tr :: Cs) cl wt (tr ++ [x]) tr.length := by
  have hc := h.core
  have hw := hc.hwat
  rw [List.take_length] at hw
  refine ⟨hc.hcl, tr_snoc hc.htr hx h1 h2, hc.hwt, ?_, fun P hP => ?_, fun P hP => ?_, hc.hperm, fun y hy => ?_⟩
  · rw [List.take_left' rfl]
    exact hw.grow fun y hy => by simp [hy]
  · rcases List.mem_cons.1 hP with rfl | hP
    · exact hw
    · exact hc.hcks P hP
  · rcases List.mem_cons.1 hP with rfl | hP
    · exact List.prefix_append _ _
    · exact (hc.hpcs P hP).trans (List.prefix_append _ _)
  · rcases List.mem_append.1 hy with hy | hy
    · exact (hc.hg y hy).mono (Sub.refl _) fun z hz => by
        rcases List.mem_append.1 hz with hz | hz <;> simp [hz]
    · simp at hy; rw [hy]; exact .asm (by simp)
/-- behind a propagation without a conflict -/
theorem SI.deep (h : SI V F us Cs cl wt D tr) (hx : x ≠ 0 ∧ x.natAbs ≤ V) (h1 : x ∉ tr) (h2 : -x ∉ tr) (hp : tr ++ [x] <+: tr2) (hc : Core V (Der (bigsOf dd F) ((D ++ [x]) ++ us)) (bigsOf dd F) (tr :: Cs) cl' wt' tr2 tr2.length) :
    SI V F us (tr :: Cs) cl' wt' (D ++ [x]) tr2 ∧ openV V tr2 < openV V tr := by
  have hs : ∀ y ∈ tr, y ∈ tr2 := fun y hy => hp.subset (by simp [hy])
  have hxm : x ∈ tr2 := hp.subset (by simp)
  have hlt : openV V tr2 < openV V tr := by
    refine openV_lt hs (v := x.natAbs) (by omega) hx.2 ?_ ?_
    · rcases Int.natAbs_eq x with e | e
      · rw [← e]; exact ⟨h1, h2⟩
      · have e2 : (x.natAbs : Int) = -x := by omega
        rw [e2, Int.neg_neg]; exact ⟨h2, h1⟩
    · rcases Int.natAbs_eq x with e | e
      · rw [← e]; exact .inl hxm
      · have e2 : (x.natAbs : Int) = -x := by omega
        rw [e2, Int.neg_neg]; exact .inr hxm
  refine ⟨⟨hc, fun y hy => hs y (h.usT y hy), fun y hy => ?_, ?_, ⟨hc.hcl, hc.hwt, hc.hperm, h.eng.hus, h.eng.hem, h.eng.lits⟩⟩, hlt⟩
  · rcases List.mem_append.1 hy with hy | hy
    · exact hs y (h.dT y hy)
    · simp at hy; rw [hy]; exact hxm
  · have := h.dlen
    rw [List.length_append, List.length_singleton]
    omega
/-- a conflict -/
theorem SI.clash (h : SI V F us Cs cl wt D tr) (hc : Conf V (Der (bigsOf dd F) ((D ++ [x]) ++ us)) (bigsOf dd F) (tr :: Cs) cl' wt' tr2) : Cnf F (D ++ [x]) := h.eng.conf hc
/-- all variables have values -/
theorem SI.full (h : SI V F us Cs cl wt D tr) (hf : ∀ v : Nat, 1 ≤ v → v ≤ V → (v : Int) ∈ tr ∨ -(v : Int) ∈ tr) : sat F (valsOf V tr) = true := by
  have hw := h.core.hwat
  rw [List.take_length] at hw
  have h1 := unit_of_wat h.core.hcl h.core.htr hw
  refine full_sat ddm h.eng.lits h.core.htr h.eng.hem.symm (fun x hx => h.usT x (by rw [h.eng.hus]; exact hx)) ?_ hf
  intro q hq y hy ho
  obtain ⟨q1, hq1, hp⟩ := h.core.hperm.mem' hq
  exact h1 q1 hq1 y (hp.mem_iff.2 hy) fun z hz hne => ho z (hp.mem_iff.1 hz) hne
theorem vof_zero {v : Nat} : vof tr v = 0 ↔ (v : Int) ∉ tr ∧ -(v : Int) ∉ tr := by
  unfold vof
  split
  · rename_i h; simp [h]
  · split
    · rename_i h; simp [h]
    · rename_i h1 h2; simp [h1, h2]
end
/-- clauses that a search gathers are of literals of the formula -/
def LitsLV (V : Nat) (LV : List (Value × List Int)) : Prop := ∀ q ∈ LV, q.2.length ≤ V ∧ ∀ x ∈ q.2, x ≠ 0 ∧ x.natAbs ≤ V
theorem LitsLV.app {V : Nat} {A B : List (Value × List Int)} (h : LitsLV V A) (k : LitsLV V B) : LitsLV V (A ++ B) := fun q hq => by
  rcases List.mem_append.1 hq with hq | hq
  · exact h q hq
  · exact k q hq
theorem SI.lits {V : Nat} {F : List (List Int)} {us : List Int} {Cs cl : List (List Int)} {wt : Int → List Nat} {D tr : List Int} (h : SI V F us Cs cl wt D tr) (u : Value) : LitsLV V [(u, neg D)] := fun q hq => by
  simp at hq
  rw [hq]
  refine ⟨by rw [neg_length]; have := h.dlen; omega, neg_V fun x hx => ?_⟩
  exact h.core.htr.1 x (h.dT x hx)
def SearchPost (W : World) (Ps : List Res) (V : Nat) (F : List (List Int)) (us : List Int) (Cs : List (List Int)) (b g : Nat) (PV : List (Value × List Int)) (D tr : List Int) (m : Nat) (e : Ending) (w' : World) : Prop :=
  ∃ (r : Int) (CV' : List (Value × List Int)) (L' : List (Int × (Value × List Nat))) (PV' : List (Value × List Int)) (pv' : Value), e = .returned (.int .i64 r) ∧ Has W w' (engR g V CV' L' tr tr.length us false :: (provL b g pv' PV' ++ Ps)) ∧ SI V F us Cs (CV'.map (·.2)) (wl L') D tr ∧
    ((r = 0 ∧ ∃ LV, PV' = PV ++ LV ∧ Adds F (PV.map (·.2)) D m (LV.map (·.2)) ∧ LitsLV V LV) ∨ (r = 1 ∧ ∃ A, sat F A = true))
def SearchAt (W : World) (V : Nat) (F : List (List Int)) (us : List Int) (b g m : Nat) : Prop :=
  ∀ ⦃w : World⦄ ⦃Ps : List Res⦄ ⦃CV : List (Value × List Int)⦄ ⦃L : List (Int × (Value × List Nat))⦄ ⦃PV : List (Value × List Int)⦄ ⦃pv : Value⦄ ⦃D tr : List Int⦄ ⦃Cs : List (List Int)⦄ ⦃da : Option Addr⦄ ⦃dc : Nat⦄
    (h : Has W w (engR g V CV L tr tr.length us false :: (provL b g pv PV ++ Ps))) (hI : SI V F us Cs (CV.map (·.2)) (wl L) D tr) (hm : openV V tr ≤ m) (hroom : PV.length + 2 ^ (m + 1) ≤ 262144) (hD : IntsSrc W Ps da dc D),
    Calls Try.prog 40 #[.pointer (some ⟨b, 0, none⟩), .slice da D.length dc] w (SearchPost W Ps V F us Cs b g PV D tr m)
end Go.Proofs.Ytbpaadpocihahaa
end
