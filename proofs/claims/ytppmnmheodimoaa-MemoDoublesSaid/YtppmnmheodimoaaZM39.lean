/- Own texts of this claim, part 40: no condition. -/
import Derived.Test.YtppmnmheodimoaaZM11
import Derived.Test.YtppmnmheodimoaaZM4
import Derived.Test.YtppmnmheodimoaaZM30
section
/- A node of a store that came in, opened. -/
namespace Go.Proofs.Ytppmnmheodimoaa
set_option linter.unusedVariables false
set_option linter.unusedSimpArgs false
open Go Go.ChangeShapes Go.WideShapes Go.RowKit Go.Proofs.Hp Go.Proofs.Qs Go.Proofs.Lw
set_option maxRecDepth 100000 in
theorem open_quad {H : Type} {enc : TypeId × Value → H} {W : World} {fuel : Nat} {cs : List Value} {x : DataW H × List MemPlace} (h : DataW.trod enc Try.prog W 0 (fun _ => true) true fuel 77 cs = some x) :
    ∃ k : K4, cs = [.int .i64 k.a, .int .i64 k.b, .int .i64 k.c, .int .i64 k.d] := by
  obtain ⟨xs, n, rfl, rfl, hl, hn, hf⟩ := DataW.trod_struct Try.underlying77 h
  have hl4 : cs.length = 4 := hl.trans (by kernel_rfl)
  have h0 := hf 0 _ rfl
  have hx0 : xs.length = 1 := hn
  rw [List.getElem?_eq_getElem (by omega)] at h0
  have hc4 : Try.prog.cellsOf 75 = 4 := by kernel_rfl
  have hc1 : Try.prog.cellsOf 3 = 1 := by kernel_rfl
  change DataW.trod enc Try.prog W 0 (fun _ => true) true n 75 ((cs.drop 0).take (Try.prog.cellsOf 75)) = some _ at h0
  rw [hc4, List.drop_zero, List.take_of_length_le (by omega)] at h0
  obtain ⟨ys, m, rfl, _, _, hy, hg⟩ := DataW.trod_array Try.underlying75 h0
  rw [hc1] at hg
  have hi : ∀ i, i < 4 → ∃ z, (cs.drop i).take 1 = [.int .i64 z] := fun i hi => by
    have := hg i hi
    rw [List.getElem?_eq_getElem (by omega), Nat.mul_one] at this
    obtain ⟨z, hz, _⟩ := DataW.trod_int Try.underlying3 this
    exact ⟨z, hz⟩
  match cs, hl4 with
  | [c0, c1, c2, c3], _ =>
    obtain ⟨a, ha⟩ := hi 0 (by omega)
    obtain ⟨b, hb⟩ := hi 1 (by omega)
    obtain ⟨c, hc⟩ := hi 2 (by omega)
    obtain ⟨d, hd⟩ := hi 3 (by omega)
    simp at ha hb hc hd
    exact ⟨⟨a, b, c, d⟩, by rw [ha, hb, hc, hd]⟩
theorem flat_map (ns : List K4) : (ns.map fun k : K4 => [Value.int .i64 k.a, .int .i64 k.b, .int .i64 k.c, .int .i64 k.d]).flatten = flat ns := by
  rw [flat, List.flatMap_def]
set_option maxRecDepth 100000 in
theorem open_quadsC {H : Type} {enc : TypeId × Value → H} {W : World} {fuel : Nat} {c0 c1 : Value} {x : DataW H × List MemPlace} (hf : DataW.trod enc Try.prog W 0 (fun _ => true) true fuel 39 [c0, c1] = some x) :
    ∃ s a c ns, c0 = .int .i64 s ∧ c1 = .slice a ns.length c ∧ Reads W (.slice a ns.length c) ns.length 4 (flat ns) ∧ (a = none → c = 0) := by
  obtain ⟨xs, n, rfl, _, _, hn, hf⟩ := DataW.trod_struct Try.underlying39 hf
  have hc1 : Try.prog.cellsOf 3 = 1 := by kernel_rfl
  have hc2 : Try.prog.cellsOf 37 = 1 := by kernel_rfl
  have hx2 : xs.length = 2 := hn
  have h0 := hf 0 _ rfl
  have h1 := hf 1 _ rfl
  rw [List.getElem?_eq_getElem (by omega)] at h0 h1
  change DataW.trod enc Try.prog W 0 (fun _ => true) true n 3 (([c0, c1].drop 0).take (Try.prog.cellsOf 3)) = some _ at h0
  change DataW.trod enc Try.prog W 0 (fun _ => true) true n 37 (([c0, c1].drop 1).take (Try.prog.cellsOf 37)) = some _ at h1
  rw [hc1] at h0
  rw [hc2] at h1
  simp only [List.drop_zero, List.drop_succ_cons, List.take_succ_cons, List.take_zero] at h0 h1
  obtain ⟨s, hs, _⟩ := DataW.trod_int Try.underlying3 h0
  simp only [List.cons.injEq, and_true] at hs
  subst hs
  have hform : ∃ a n c, c1 = .slice a n c := by
    rcases DataW.trod_slice Try.underlying37 h1 with ⟨h, _⟩ | ⟨a, len, cap, _, _, _, _, h, _⟩
    · simp only [List.cons.injEq, and_true] at h; exact ⟨_, _, _, h⟩
    · simp only [List.cons.injEq, and_true] at h; exact ⟨_, _, _, h⟩
  obtain ⟨a, len, c, rfl⟩ := hform
  obtain ⟨_, _, xs, hxl, hxs, hnil, hcell⟩ := open_rows Try.underlying37 (sz := 4) (by kernel_rfl) (by omega) h1
  obtain ⟨ns, rfl⟩ := map_of_all (f := fun k : K4 => [Value.int .i64 k.a, .int .i64 k.b, .int .i64 k.c, .int .i64 k.d]) fun x hx => by
    obtain ⟨_, fuel, y, hy⟩ := hxs x hx
    exact open_quad hy
  obtain rfl : ns.length = len := by simpa using hxl
  rw [flat_map] at hcell
  exact ⟨s, a, c, ns, rfl, rfl, ⟨flat_length ns, a, c, rfl, hcell⟩, fun h => (hnil h).2⟩
set_option maxRecDepth 100000 in
theorem open_square {H : Type} {enc : TypeId × Value → H} {W : World} {base : Nat} {v : Value} {d : DataW H} {ps : List MemPlace} (hval : Value.okWide Try.prog W .any base 41 v)
    (h : DataW.Trod enc Try.prog W 0 (fun _ => true) true 41 v d ps) :
    ∃ s a c ns id, v = .agg #[.int .i64 s, .slice a ns.length c, .int .i64 id] ∧ Reads W (.slice a ns.length c) ns.length 4 (flat ns) ∧ (a = none → c = 0) := by
  obtain ⟨cs, rfl, hsz⟩ := okWide_struct Try.underlying41 hval
  have hs2 : cs.size = 3 := hsz.trans (by kernel_rfl)
  obtain ⟨fuel, hf⟩ := h
  obtain ⟨xs, n, rfl, _, _, hn, hf⟩ := DataW.trod_struct Try.underlying41 hf
  obtain ⟨c0, c1, c2, rfl⟩ : ∃ c0 c1 c2, cs = #[c0, c1, c2] :=
    ⟨cs[0], cs[1], cs[2], by apply Array.ext <;> simp [hs2]; intro i hi; match i, hi with | 0, _ => intro _; rfl | 1, _ => intro _; rfl | 2, _ => intro _; rfl⟩
  have hc1 : Try.prog.cellsOf 3 = 1 := by kernel_rfl
  have hc2 : Try.prog.cellsOf 39 = 2 := by kernel_rfl
  have hx2 : xs.length = 2 := hn
  have h0 := hf 0 _ rfl
  have h1 := hf 1 _ rfl
  rw [List.getElem?_eq_getElem (by omega)] at h0 h1
  change DataW.trod enc Try.prog W 0 (fun _ => true) true n 39 (([c0, c1, c2].drop 0).take (Try.prog.cellsOf 39)) = some _ at h0
  change DataW.trod enc Try.prog W 0 (fun _ => true) true n 3 (([c0, c1, c2].drop 2).take (Try.prog.cellsOf 3)) = some _ at h1
  rw [hc2] at h0
  rw [hc1] at h1
  simp only [List.drop_zero, List.drop_succ_cons, List.take_succ_cons, List.take_zero] at h0 h1
  obtain ⟨s, a, c, ns, rfl, rfl, hr, hz⟩ := open_quadsC h0
  obtain ⟨X, hX, _⟩ := DataW.trod_int Try.underlying3 h1
  simp only [List.cons.injEq, and_true] at hX
  subst hX
  exact ⟨s, a, c, ns, X, rfl, hr, hz⟩
end Go.Proofs.Ytppmnmheodimoaa
end
