/- Own texts of this claim, part 25: no condition. -/
import Derived.ProofKit
import Derived.OpenShut
import Derived.Deep.Slices
import Derived.Test.YtdanghnadbkhfaaZC1
import Derived.Test.YtdanghnadbkhfaaZC7
import Derived.Test.YtdanghnadbkhfaaZC3
import Derived.Test.YtdanghnadbkhfaaZC10
set_option linter.unusedVariables false
set_option linter.unusedSimpArgs false
section
/- The frame of a law that answers true and leaves old memory as it was; slices opened into their cells. No condition on a program. -/
namespace Go.Proofs.Lw
open Go Go.ChangeShapes Go.WideShapes Go.ChangeAt Go.RowKit Go.Proofs.Hp
set_option linter.unusedVariables false
set_option linter.unusedSimpArgs false
/-- behind a call that left old memory as it was, each argument reads as it did -/
theorem args_stay {H : Type} {enc : TypeId × Value → H} {P : Program} (hl : laidOutB P = true) {W W' : World} (hb : Below W.heap.size W W') :
    ∀ {ts : List TypeId} {vs : List Value} {ds : List (DataW H)} {ps : List MemPlace}, ts.all (fun t => P.readableRec t && decide (t < P.types.size)) = true → DataW.TrodAll enc P W 0 (fun _ => true) true ts vs ds ps →
      (∀ x ∈ ps, x.block < W.heap.size) → DataW.TrodAll enc P W' 0 (fun b => decide (b < W.heap.size)) true ts vs ds ps := by
  intro ts
  induction ts with
  | nil => intro vs ds ps _ h _; obtain ⟨rfl, rfl, rfl⟩ := trodAll_nil h; exact trodAll_mk0
  | cons t ts ih =>
    intro vs ds ps hok h hlt
    obtain ⟨v, vs1, d, ds1, p, q, rfl, rfl, rfl, h1, h2⟩ := trodAll_cons h
    simp only [List.all_cons, Bool.and_eq_true, decide_eq_true_eq] at hok
    exact trodAll_cons_mk (Below.trod hl hok.1.1 hok.1.2 h1 hb fun x hx => hlt x (List.mem_append_left _ hx)) (ih (by simpa only [List.all_eq_true, Bool.and_eq_true, decide_eq_true_eq] using hok.2) h2 fun x hx => hlt x (List.mem_append_right _ hx))
/-- the answer of such a law -/
theorem law_post {H : Type} {enc : TypeId × Value → H} {P : Program} (hl : laidOutB P = true) {f : Func} {s : ChangeSpec} {ts : List TypeId} {tb : TypeId} (hf : f.params.toList = ts) (hr : f.resultTypes = #[tb])
    (hb : P.underlying tb = some .bool) (hv : s.vars = []) (hok : ts.all (fun t => P.readableRec t && decide (t < P.types.size)) = true)
    (hfn : ∀ ds : List (DataW H), ds.length = ts.length → s.fn H ds = { results := [.lit (.bool true)], args := ds }) {W W' : World} {args : Array Value} {ds gs : List (DataW H)} {before : List MemPlace}
    (hW : DataW.Whole enc P f.params.toList s.vars false W args.toList ds gs before) (hB : Fr [] W W') : s.post enc P f false true false false W args (.bool true) W' := by
  have hW' := hW
  obtain ⟨p, q, hA, hV, rfl, hfz, hnd⟩ := hW
  rw [hf] at hA
  rw [hv] at hV
  obtain ⟨rfl, rfl⟩ := trodVars_none hV
  have hlen : ∀ {ts : List TypeId} {vs : List Value} {ds : List (DataW H)} {ps : List MemPlace}, DataW.TrodAll enc P W 0 (fun _ => true) true ts vs ds ps → ds.length = ts.length := by
    intro ts
    induction ts with
    | nil => intro vs ds ps h; obtain ⟨rfl, rfl, rfl⟩ := trodAll_nil h; rfl
    | cons t ts ih => intro vs ds ps h; obtain ⟨v, vs1, d, ds1, p, q, rfl, rfl, rfl, h1, h2⟩ := trodAll_cons h; simp [ih h2]
  have e := hfn (ds ++ []) (by simpa using hlen hA)
  refine ⟨ds, [], p ++ [], [], p, [], hW', ?_, ?_, ?_, hB.below.frame _ |> World.keptBut_mono (w := W) (w' := W') (fun x hx => hx), fun h => by cases h⟩
  · rw [e, hr]
    exact trodAll_mk1 (shut_bool hb true)
  · rw [e, hf, List.append_nil]
    exact args_stay hl hB.below hok hA fun x hx => by simpa using hW'.lt x (by simpa using hx)
  · rw [e, hv]
    exact rfl
/-- a slice whose elements are some cells each, read whole: its elements' cells -/
theorem open_rows {H : Type} {enc : TypeId × Value → H} {P : Program} {W : World} {t e : TypeId} {sz fuel n c : Nat} {a : Option Addr} {x : DataW H × List MemPlace} (ht : P.underlying t = some (.slice e)) (hsz : P.cellsOf e = sz) (hpos : 0 < sz)
    (h : DataW.trod enc P W 0 (fun _ => true) true fuel t [.slice a n c] = some x) :
    n ≤ c ∧ c ≤ maxLen ∧ ∃ xs : List (List Value), xs.length = n ∧ (∀ cs' ∈ xs, cs'.length = sz ∧ ∃ fuel y, DataW.trod enc P W 0 (fun _ => true) true fuel e cs' = some y) ∧
      (a = none → n = 0 ∧ c = 0) ∧ (0 < n → ∃ g off, a = some ⟨g, off, none⟩ ∧ g < W.heap.size ∧ ∀ j u, xs.flatten[j]? = some u → W.cell? ⟨g, off + j, none⟩ = some u) := by
  rcases Go.Deep.open_slice ht h with ⟨h0, _⟩ | ⟨ad, len, cap, m, k, D, Pl, hcs, _, hlc, hcm, hm, _, hx⟩
  · simp only [List.cons.injEq, Value.slice.injEq, and_true] at h0
    obtain ⟨rfl, rfl, rfl⟩ := h0
    exact ⟨Nat.le_refl _, Nat.zero_le _, [], rfl, by simp, by simp, by omega⟩
  · simp only [List.cons.injEq, Value.slice.injEq, and_true] at hcs
    obtain ⟨rfl, rfl, rfl⟩ := hcs
    simp only [if_true] at hm
    subst hm
    rw [hsz] at hx
    obtain ⟨C, hC⟩ := Go.Deep.choose_lt (α := List Value) (n := m) (p := fun i cs' => W.cells? 0 (ad.add (i * sz)) sz = some cs' ∧ DataW.trod enc P W 0 (fun _ => true) true k e cs' = some (D i, Pl i)) hx
    have hlen : ∀ i, i < n → (C i).length = sz := fun i hi => (World.cells?_some (hC i (by omega)).1).2.1
    refine ⟨hlc, hcm, (List.range n).map C, by simp, ?_, by simp, ?_⟩
    · intro cs' hm'
      obtain ⟨i, hi, rfl⟩ := List.mem_map.1 hm'
      have hi' := List.mem_range.1 hi
      exact ⟨hlen i hi', k, _, (hC i (by omega)).2⟩
    · intro hn
      have h0 := (hC 0 (by omega)).1
      have hblock := World.cells?_block h0 hpos
      obtain ⟨g, off, spot⟩ := ad
      have hsp : spot = none := by
        have hl0 := (World.cells?_some h0).2.1
        have hc0 := (World.cells?_some h0).2.2 0 (by omega)
        rw [List.getElem?_eq_getElem (by omega)] at hc0
        simpa [Addr.add] using World.cell?_spot hc0
      subst hsp
      refine ⟨g, off, rfl, by simpa [Addr.add] using hblock, ?_⟩
      have key : ∀ k, k ≤ n → ∀ j u, ((List.range k).map C).flatten[j]? = some u → W.cell? ⟨g, off + j, none⟩ = some u := by
        intro k
        induction k with
        | zero => intro _ j u hj; simp at hj
        | succ k ih =>
          intro hk j u hj
          have hfl : ∀ q, q ≤ n → ((List.range q).map C).flatten.length = q * sz := by
            intro q
            induction q with
            | zero => intro _; simp
            | succ q iq => intro hq; rw [List.range_succ, List.map_append, List.flatten_append, List.length_append, iq (by omega)]; simp [hlen q (by omega), Nat.succ_mul]
          rw [List.range_succ, List.map_append, List.flatten_append] at hj
          rcases Nat.lt_or_ge j (k * sz) with h1 | h1
          · rw [List.getElem?_append_left (by rw [hfl k (by omega)]; exact h1)] at hj
            exact ih (by omega) j u hj
          · rw [List.getElem?_append_right (by rw [hfl k (by omega)]; exact h1), hfl k (by omega)] at hj
            simp only [List.map_cons, List.map_nil, List.flatten_cons, List.flatten_nil, List.append_nil] at hj
            have hjl := (List.getElem?_eq_some_iff.1 hj).1
            rw [hlen k (by omega)] at hjl
            have := (World.cells?_some (hC k (by omega)).1).2.2 (j - k * sz) (by omega)
            rw [hj, add_plain, add_plain] at this
            rw [show off + j = off + k * sz + (j - k * sz) by omega]
            exact this
      exact key n (Nat.le_refl _)
/-- one witness for each member -/
theorem map_of_all {α β : Type} {f : β → α} : ∀ {xs : List α}, (∀ x ∈ xs, ∃ k, x = f k) → ∃ ks : List β, xs = ks.map f
  | [], _ => ⟨[], rfl⟩
  | x :: xs, h => by
    obtain ⟨k, rfl⟩ := h x (by simp)
    obtain ⟨ks, rfl⟩ := map_of_all (xs := xs) fun y hy => h y (by simp [hy])
    exact ⟨k :: ks, rfl⟩
end Go.Proofs.Lw
end

section
/- Big integers that are drawn: opened into sign and digits. -/
namespace Go.Proofs.Ytdanghnadbkhfaa
open Go Go.ChangeShapes Go.WideShapes Go.ChangeAt Go.RowKit Go.Proofs.Hp Go.Proofs.Lw Go.Proofs.Bn
set_option linter.unusedVariables false
set_option linter.unusedSimpArgs false
theorem flat_u32s (L : List Nat) : (L.map (fun (k : Nat) => [Value.int .u32 k])).flatten = u32s L := by
  induction L with
  | nil => rfl
  | cons x L ih => rw [List.map_cons, List.flatten_cons, ih]; rfl
end Go.Proofs.Ytdanghnadbkhfaa
end

section
/- A content that came in, opened. -/
namespace Go.Proofs.Ytdanghnadbkhfaa
set_option linter.unusedVariables false
set_option linter.unusedSimpArgs false
open Go Go.ChangeShapes Go.WideShapes Go.RowKit Go.Proofs.Hp Go.Proofs.Qs Go.Proofs.Lw
set_option maxRecDepth 100000
theorem open_quad {H : Type} {enc : TypeId × Value → H} {W : World} {fuel : Nat} {cs : List Value} {x : DataW H × List MemPlace} (h : DataW.trod enc Try.prog W 0 (fun _ => true) true fuel 136 cs = some x) :
    ∃ k : K4, cs = [.int .i64 k.a, .int .i64 k.b, .int .i64 k.c, .int .i64 k.d] := by
  obtain ⟨xs, n, rfl, rfl, hl, hn, hf⟩ := DataW.trod_struct Try.underlying136 h
  have hl4 : cs.length = 4 := hl.trans (by kernel_rfl)
  have h0 := hf 0 _ rfl
  have hx0 : xs.length = 1 := hn
  rw [List.getElem?_eq_getElem (by omega)] at h0
  have hc4 : Try.prog.cellsOf 97 = 4 := by kernel_rfl
  have hc1 : Try.prog.cellsOf 3 = 1 := by kernel_rfl
  change DataW.trod enc Try.prog W 0 (fun _ => true) true n 97 ((cs.drop 0).take (Try.prog.cellsOf 97)) = some _ at h0
  rw [hc4, List.drop_zero, List.take_of_length_le (by omega)] at h0
  obtain ⟨ys, m, rfl, _, _, hy, hg⟩ := DataW.trod_array Try.underlying97 h0
  rw [hc1] at hg
  have hi : ∀ i, i < 4 → ∃ z, (cs.drop i).take 1 = [.int .i64 z] := fun i hi => by
    have := hg i hi
    rw [List.getElem?_eq_getElem (by omega), Nat.mul_one] at this
    obtain ⟨z, hz, _⟩ := DataW.trod_int Try.underlying3 this
    exact ⟨z, hz⟩
  match cs, hl4 with
  | [c0, c1, c2, c3], _ =>
    obtain ⟨a, ha⟩ := hi 0 (by omega)
    obtain ⟨b, hb⟩ := hi 1 (by omega)
    obtain ⟨c, hc⟩ := hi 2 (by omega)
    obtain ⟨d, hd⟩ := hi 3 (by omega)
    simp at ha hb hc hd
    exact ⟨⟨a, b, c, d⟩, by rw [ha, hb, hc, hd]⟩
theorem flat_map (ns : List K4) : (ns.map fun k : K4 => [Value.int .i64 k.a, .int .i64 k.b, .int .i64 k.c, .int .i64 k.d]).flatten = flat ns := by
  rw [flat, List.flatMap_def]
end Go.Proofs.Ytdanghnadbkhfaa
end

section
/- A drawn square of a content, opened. -/
namespace Go.Proofs.Ytdanghnadbkhfaa
open Go Go.ChangeShapes Go.WideShapes Go.ChangeAt Go.RowKit Go.Proofs.Hp Go.Proofs.Lw Go.Proofs.Qs Go.Proofs.Bn
set_option linter.unusedVariables false
set_option linter.unusedSimpArgs false
set_option maxRecDepth 100000
theorem cells_big {H : Type} {enc : TypeId × Value → H} {W : World} {fuel : Nat} {c0 c1 : Value} {x : DataW H × List MemPlace}
    (hf : DataW.trod enc Try.prog W 0 (fun _ => true) true fuel 38 [c0, c1] = some x) :
    ∃ (neg : Bool) (a : Option Addr) (c : Nat) (L : List Nat), c0 = .bool neg ∧ c1 = .slice a L.length c ∧ BigIn W neg L a c := by
  obtain ⟨xs, n, rfl, _, _, hn, hf⟩ := DataW.trod_struct Try.underlying38 hf
  have hc1 : Try.prog.cellsOf 4 = 1 := by kernel_rfl
  have hc2 : Try.prog.cellsOf 36 = 1 := by kernel_rfl
  have hx2 : xs.length = 2 := hn
  have h0 := hf 0 _ rfl
  have h1 := hf 1 _ rfl
  rw [List.getElem?_eq_getElem (by omega)] at h0 h1
  change DataW.trod enc Try.prog W 0 (fun _ => true) true n 4 (([c0, c1].drop 0).take (Try.prog.cellsOf 4)) = some _ at h0
  change DataW.trod enc Try.prog W 0 (fun _ => true) true n 36 (([c0, c1].drop 1).take (Try.prog.cellsOf 36)) = some _ at h1
  rw [hc1] at h0
  rw [hc2] at h1
  simp only [List.drop_zero, List.drop_succ_cons, List.take_succ_cons, List.take_zero] at h0 h1
  obtain ⟨s, hs, _⟩ := DataW.trod_bool Try.underlying4 h0
  simp only [List.cons.injEq, and_true] at hs
  subst hs
  have hform : ∃ a n c, c1 = .slice a n c := by
    rcases DataW.trod_slice Try.underlying36 h1 with ⟨h, _⟩ | ⟨a, len, cap, _, _, _, _, h, _⟩
    · simp only [List.cons.injEq, and_true] at h; exact ⟨_, _, _, h⟩
    · simp only [List.cons.injEq, and_true] at h; exact ⟨_, _, _, h⟩
  obtain ⟨a, len, c, rfl⟩ := hform
  obtain ⟨hlc, hcm, xs, hxl, hxs, hnone, hcell⟩ := open_rows Try.underlying36 (sz := 1) (by kernel_rfl) (by omega) h1
  obtain ⟨L, hL, hLx⟩ : ∃ L : List Nat, xs = L.map (fun (k : Nat) => [Value.int .u32 k]) ∧ ∀ x ∈ L, x < 4294967296 := by
    have key : ∀ ys : List (List Value), (∀ y ∈ ys, y ∈ xs) → ∃ L : List Nat, ys = L.map (fun (k : Nat) => [Value.int .u32 k]) ∧ ∀ x ∈ L, x < 4294967296 := by
      intro ys
      induction ys with
      | nil => intro _; exact ⟨[], rfl, by simp⟩
      | cons y ys ih =>
        intro hy
        obtain ⟨L, rfl, hL⟩ := ih fun z hz => hy z (by simp [hz])
        obtain ⟨_, fuel, q, hq⟩ := hxs y (hy y (by simp))
        obtain ⟨z, hz, _, hwf⟩ := DataW.trod_int Try.underlying94 hq
        have hb : 0 ≤ z ∧ z ≤ 4294967295 := by simpa [Lit.wf, IntKind.min, IntKind.max, IntKind.signed, IntKind.bits] using hwf
        refine ⟨z.toNat :: L, ?_, ?_⟩
        · rw [hz]
          show [Value.int .u32 z] :: _ = [Value.int .u32 ((z.toNat : Nat) : Int)] :: _
          rw [Int.toNat_of_nonneg hb.1]
        · intro x hx
          rw [List.mem_cons] at hx
          rcases hx with rfl | hx
          · omega
          · exact hL x hx
    exact key xs fun _ h => h
  subst hL
  obtain rfl : L.length = len := by simpa using hxl
  have hfl := flat_u32s L
  rw [hfl] at hcell
  exact ⟨s, a, c, L, rfl, rfl, ⟨by simp [u32s], a, c, rfl, hcell⟩, hLx, hlc, Nat.le_trans hlc hcm⟩
theorem cells_quads {H : Type} {enc : TypeId × Value → H} {W : World} {fuel : Nat} {c0 c1 : Value} {x : DataW H × List MemPlace}
    (hf : DataW.trod enc Try.prog W 0 (fun _ => true) true fuel 56 [c0, c1] = some x) :
    ∃ s a c ns, c0 = .int .i64 s ∧ c1 = .slice a ns.length c ∧ Reads W (.slice a ns.length c) ns.length 4 (flat ns) := by
  obtain ⟨xs, n, rfl, _, _, hn, hf⟩ := DataW.trod_struct Try.underlying56 hf
  have hc1 : Try.prog.cellsOf 3 = 1 := by kernel_rfl
  have hc2 : Try.prog.cellsOf 54 = 1 := by kernel_rfl
  have hx2 : xs.length = 2 := hn
  have h0 := hf 0 _ rfl
  have h1 := hf 1 _ rfl
  rw [List.getElem?_eq_getElem (by omega)] at h0 h1
  change DataW.trod enc Try.prog W 0 (fun _ => true) true n 3 (([c0, c1].drop 0).take (Try.prog.cellsOf 3)) = some _ at h0
  change DataW.trod enc Try.prog W 0 (fun _ => true) true n 54 (([c0, c1].drop 1).take (Try.prog.cellsOf 54)) = some _ at h1
  rw [hc1] at h0
  rw [hc2] at h1
  simp only [List.drop_zero, List.drop_succ_cons, List.take_succ_cons, List.take_zero] at h0 h1
  obtain ⟨s, hs, _⟩ := DataW.trod_int Try.underlying3 h0
  simp only [List.cons.injEq, and_true] at hs
  subst hs
  have hform : ∃ a n c, c1 = .slice a n c := by
    rcases DataW.trod_slice Try.underlying54 h1 with ⟨h, _⟩ | ⟨a, len, cap, _, _, _, _, h, _⟩
    · simp only [List.cons.injEq, and_true] at h; exact ⟨_, _, _, h⟩
    · simp only [List.cons.injEq, and_true] at h; exact ⟨_, _, _, h⟩
  obtain ⟨a, len, c, rfl⟩ := hform
  obtain ⟨_, _, xs, hxl, hxs, _, hcell⟩ := open_rows Try.underlying54 (sz := 4) (by kernel_rfl) (by omega) h1
  obtain ⟨ns, rfl⟩ := map_of_all (f := fun k : K4 => [Value.int .i64 k.a, .int .i64 k.b, .int .i64 k.c, .int .i64 k.d]) fun x hx => by
    obtain ⟨_, fuel, y, hy⟩ := hxs x hx
    exact open_quad hy
  obtain rfl : ns.length = len := by simpa using hxl
  rw [flat_map] at hcell
  exact ⟨s, a, c, ns, rfl, rfl, flat_length ns, a, c, rfl, hcell⟩
theorem open_bigin {H : Type} {enc : TypeId × Value → H} {W : World} {base : Nat} {v : Value} {d : DataW H} {ps : List MemPlace} (hval : Value.okWide Try.prog W .any base 38 v)
    (h : DataW.Trod enc Try.prog W 0 (fun _ => true) true 38 v d ps) :
    ∃ (neg : Bool) (a : Option Addr) (c : Nat) (L : List Nat), v = .agg #[.bool neg, .slice a L.length c] ∧ BigIn W neg L a c := by
  obtain ⟨cs, rfl, hsz⟩ := okWide_struct Try.underlying38 hval
  have hs2 : cs.size = 2 := hsz.trans (by kernel_rfl)
  obtain ⟨fuel, hf⟩ := h
  obtain ⟨c0, c1, rfl⟩ : ∃ c0 c1, cs = #[c0, c1] := ⟨cs[0], cs[1], by apply Array.ext <;> simp [hs2]; intro i hi; match i, hi with | 0, _ => intro _; rfl | 1, _ => intro _; rfl⟩
  obtain ⟨neg, a, c, L, rfl, rfl, hb⟩ := cells_big hf
  exact ⟨neg, a, c, L, rfl, hb⟩
theorem open_square {H : Type} {enc : TypeId × Value → H} {W : World} {base : Nat} {v : Value} {d : DataW H} {ps : List MemPlace} (hval : Value.okWide Try.prog W .any base 58 v)
    (h : DataW.Trod enc Try.prog W 0 (fun _ => true) true 58 v d ps) :
    ∃ s a c ns node nx ax cx dx ny ay cy dy st, v = .agg #[.int .i64 s, .slice a (List.length ns) c, .int .i64 node, .bool nx, .slice ax (List.length dx) cx, .bool ny, .slice ay (List.length dy) cy, .int .i64 st] ∧ Reads W (.slice a ns.length c) ns.length 4 (flat ns) ∧ BigIn W nx dx ax cx ∧ BigIn W ny dy ay cy := by
  obtain ⟨cs, rfl, hsz⟩ := okWide_struct Try.underlying58 hval
  have hs8 : cs.size = 8 := hsz.trans (by kernel_rfl)
  obtain ⟨fuel, hf⟩ := h
  obtain ⟨xs, n, rfl, _, _, hn, hf⟩ := DataW.trod_struct Try.underlying58 hf
  obtain ⟨c0, c1, c2, c3, c4, c5, c6, c7, rfl⟩ : ∃ c0 c1 c2 c3 c4 c5 c6 c7, cs = #[c0, c1, c2, c3, c4, c5, c6, c7] := ⟨cs[0], cs[1], cs[2], cs[3], cs[4], cs[5], cs[6], cs[7], by apply Array.ext <;> simp [hs8]; intro i hi; match i, hi with | 0, _ => intro _; rfl | 1, _ => intro _; rfl | 2, _ => intro _; rfl | 3, _ => intro _; rfl | 4, _ => intro _; rfl | 5, _ => intro _; rfl | 6, _ => intro _; rfl | 7, _ => intro _; rfl⟩
  have k0 : Try.prog.cellsOf 56 = 2 := by kernel_rfl
  have k1 : Try.prog.cellsOf 3 = 1 := by kernel_rfl
  have k2 : Try.prog.cellsOf 38 = 2 := by kernel_rfl
  have hx5 : xs.length = 5 := hn
  have h0 := hf 0 _ rfl
  have h1 := hf 1 _ rfl
  have h2 := hf 2 _ rfl
  have h3 := hf 3 _ rfl
  have h4 := hf 4 _ rfl
  rw [List.getElem?_eq_getElem (by omega)] at h0 h1 h2 h3 h4
  change DataW.trod enc Try.prog W 0 (fun _ => true) true n 56 (([c0, c1, c2, c3, c4, c5, c6, c7].drop 0).take (Try.prog.cellsOf 56)) = some _ at h0
  change DataW.trod enc Try.prog W 0 (fun _ => true) true n 3 (([c0, c1, c2, c3, c4, c5, c6, c7].drop 2).take (Try.prog.cellsOf 3)) = some _ at h1
  change DataW.trod enc Try.prog W 0 (fun _ => true) true n 38 (([c0, c1, c2, c3, c4, c5, c6, c7].drop 3).take (Try.prog.cellsOf 38)) = some _ at h2
  change DataW.trod enc Try.prog W 0 (fun _ => true) true n 38 (([c0, c1, c2, c3, c4, c5, c6, c7].drop 5).take (Try.prog.cellsOf 38)) = some _ at h3
  change DataW.trod enc Try.prog W 0 (fun _ => true) true n 3 (([c0, c1, c2, c3, c4, c5, c6, c7].drop 7).take (Try.prog.cellsOf 3)) = some _ at h4
  rw [k0] at h0
  rw [k1] at h1 h4
  rw [k2] at h2 h3
  simp only [List.drop_zero, List.drop_succ_cons, List.take_succ_cons, List.take_zero] at h0 h1 h2 h3 h4
  obtain ⟨s, a, c, ns, rfl, rfl, hr⟩ := cells_quads h0
  obtain ⟨nx, ax, cx, dx, rfl, rfl, hbx⟩ := cells_big h2
  obtain ⟨ny, ay, cy, dy, rfl, rfl, hby⟩ := cells_big h3
  obtain ⟨node, hs, _⟩ := DataW.trod_int Try.underlying3 h1
  simp only [List.cons.injEq, and_true] at hs
  subst hs
  obtain ⟨st, hs, _⟩ := DataW.trod_int Try.underlying3 h4
  simp only [List.cons.injEq, and_true] at hs
  subst hs
  exact ⟨s, a, c, ns, node, nx, ax, cx, dx, ny, ay, cy, dy, st, rfl, hr, hbx, hby⟩
end Go.Proofs.Ytdanghnadbkhfaa
end
