/- Own texts of this claim, part 24: no condition. -/
import Derived.Test.YtdanghnadbkhfaaZR16
import Derived.Test.YtdanghnadbkhfaaZR22
section
/- Drawn patterns, places and corners, opened. -/
namespace Go.Proofs.Ytdanghnadbkhfaa
open Go Go.ChangeShapes Go.WideShapes Go.ChangeAt Go.RowKit Go.Proofs.Hp Go.Proofs.Lw Go.Proofs.Qs Go.Proofs.Bn Go.Proofs.Pt
set_option linter.unusedVariables false
set_option linter.unusedSimpArgs false
set_option maxRecDepth 100000
theorem open_cell3 {H : Type} {enc : TypeId × Value → H} {W : World} {fuel : Nat} {cs : List Value} {x : DataW H × List MemPlace} (h : DataW.trod enc Try.prog W 0 (fun _ => true) true fuel 72 cs = some x) :
    ∃ k : PC, cs = [.int .i64 k.x, .int .i64 k.y, .int .i64 k.st] := by
  obtain ⟨xs, n, rfl, rfl, hl, hn, hf⟩ := DataW.trod_struct Try.underlying72 h
  have hl3 : cs.length = 3 := hl.trans (by kernel_rfl)
  have hx3 : xs.length = 3 := hn
  have k1 : Try.prog.cellsOf 3 = 1 := by kernel_rfl
  match cs, hl3 with
  | [c0, c1, c2], _ =>
    have h0 := hf 0 _ rfl
    have h1 := hf 1 _ rfl
    have h2 := hf 2 _ rfl
    rw [List.getElem?_eq_getElem (by omega)] at h0 h1 h2
    change DataW.trod enc Try.prog W 0 (fun _ => true) true n 3 (([c0, c1, c2].drop 0).take (Try.prog.cellsOf 3)) = some _ at h0
    change DataW.trod enc Try.prog W 0 (fun _ => true) true n 3 (([c0, c1, c2].drop 1).take (Try.prog.cellsOf 3)) = some _ at h1
    change DataW.trod enc Try.prog W 0 (fun _ => true) true n 3 (([c0, c1, c2].drop 2).take (Try.prog.cellsOf 3)) = some _ at h2
    rw [k1] at h0 h1 h2
    simp only [List.drop_zero, List.drop_succ_cons, List.take_succ_cons, List.take_zero] at h0 h1 h2
    obtain ⟨a, ha, _⟩ := DataW.trod_int Try.underlying3 h0
    obtain ⟨b, hb, _⟩ := DataW.trod_int Try.underlying3 h1
    obtain ⟨c, hc, _⟩ := DataW.trod_int Try.underlying3 h2
    simp only [List.cons.injEq, and_true] at ha hb hc
    exact ⟨⟨a, b, c⟩, by rw [ha, hb, hc]⟩
theorem flat_pcs (l : List PC) : (l.map fun k : PC => [Value.int .i64 k.x, .int .i64 k.y, .int .i64 k.st]).flatten = pcs l := by
  rw [pcs, List.flatMap_def]
theorem pcs_length (l : List PC) : (pcs l).length = l.length * 3 := by
  induction l with
  | nil => rfl
  | cons c l ih => rw [pcs, List.flatMap_cons, List.length_append, ← pcs, ih]; simp; omega
theorem open_pattern {H : Type} {enc : TypeId × Value → H} {W : World} {base : Nat} {v : Value} {d : DataW H} {ps : List MemPlace} (hval : Value.okWide Try.prog W .any base 23 v)
    (h : DataW.Trod enc Try.prog W 0 (fun _ => true) true 23 v d ps) :
    ∃ a c p, v = .slice a (List.length p) c ∧ CellsAt W (.slice a p.length c) p := by
  obtain ⟨fuel, hf⟩ := h
  have hform : ∃ a n c, v = .slice a n c := okWide_slice Try.underlying23 hval
  obtain ⟨a, len, c, rfl⟩ := hform
  obtain ⟨_, _, xs, hxl, hxs, _, hcell⟩ := open_rows Try.underlying23 (sz := 3) (by kernel_rfl) (by omega) hf
  obtain ⟨p, rfl⟩ := map_of_all (f := fun k : PC => [Value.int .i64 k.x, .int .i64 k.y, .int .i64 k.st]) fun x hx => by
    obtain ⟨_, fuel, y, hy⟩ := hxs x hx
    exact open_cell3 hy
  obtain rfl : p.length = len := by simpa using hxl
  rw [flat_pcs] at hcell
  exact ⟨a, c, p, rfl, pcs_length p, a, c, rfl, hcell⟩
def I64 (z : Int) : Prop := -9223372036854775808 ≤ z ∧ z < 9223372036854775808
theorem open_place {H : Type} {enc : TypeId × Value → H} {W : World} {base : Nat} {v : Value} {d : DataW H} {ps : List MemPlace} (hval : Value.okWide Try.prog W .any base 25 v)
    (h : DataW.Trod enc Try.prog W 0 (fun _ => true) true 25 v d ps) :
    ∃ x y l : Int, v = .agg #[.int .i64 x, .int .i64 y, .int .i64 l] ∧ I64 x ∧ I64 y ∧ I64 l := by
  obtain ⟨cs, rfl, hsz⟩ := okWide_struct Try.underlying25 hval
  have hs3 : cs.size = 3 := hsz.trans (by kernel_rfl)
  obtain ⟨fuel, hf⟩ := h
  obtain ⟨xs, n, rfl, _, _, hn, hf⟩ := DataW.trod_struct Try.underlying25 hf
  obtain ⟨c0, c1, c2, rfl⟩ : ∃ c0 c1 c2, cs = #[c0, c1, c2] := ⟨cs[0], cs[1], cs[2], by apply Array.ext <;> simp [hs3]; intro i hi; match i, hi with | 0, _ => intro _; rfl | 1, _ => intro _; rfl | 2, _ => intro _; rfl⟩
  have k1 : Try.prog.cellsOf 3 = 1 := by kernel_rfl
  have hx3 : xs.length = 3 := hn
  have h0 := hf 0 _ rfl
  have h1 := hf 1 _ rfl
  have h2 := hf 2 _ rfl
  rw [List.getElem?_eq_getElem (by omega)] at h0 h1 h2
  change DataW.trod enc Try.prog W 0 (fun _ => true) true n 3 (([c0, c1, c2].drop 0).take (Try.prog.cellsOf 3)) = some _ at h0
  change DataW.trod enc Try.prog W 0 (fun _ => true) true n 3 (([c0, c1, c2].drop 1).take (Try.prog.cellsOf 3)) = some _ at h1
  change DataW.trod enc Try.prog W 0 (fun _ => true) true n 3 (([c0, c1, c2].drop 2).take (Try.prog.cellsOf 3)) = some _ at h2
  rw [k1] at h0 h1 h2
  simp only [List.drop_zero, List.drop_succ_cons, List.take_succ_cons, List.take_zero] at h0 h1 h2
  obtain ⟨a, ha, _, wa⟩ := DataW.trod_int Try.underlying3 h0
  obtain ⟨b, hb, _, wb⟩ := DataW.trod_int Try.underlying3 h1
  obtain ⟨c, hc, _, wc⟩ := DataW.trod_int Try.underlying3 h2
  simp only [List.cons.injEq, and_true] at ha hb hc
  subst ha hb hc
  refine ⟨a, b, c, rfl, ?_, ?_, ?_⟩
  · have : -9223372036854775808 ≤ a ∧ a ≤ 9223372036854775807 := by simpa [Lit.wf, IntKind.min, IntKind.max, IntKind.signed, IntKind.bits] using wa
    exact ⟨this.1, by omega⟩
  · have : -9223372036854775808 ≤ b ∧ b ≤ 9223372036854775807 := by simpa [Lit.wf, IntKind.min, IntKind.max, IntKind.signed, IntKind.bits] using wb
    exact ⟨this.1, by omega⟩
  · have : -9223372036854775808 ≤ c ∧ c ≤ 9223372036854775807 := by simpa [Lit.wf, IntKind.min, IntKind.max, IntKind.signed, IntKind.bits] using wc
    exact ⟨this.1, by omega⟩
end Go.Proofs.Ytdanghnadbkhfaa
end
