/- Contents of stores and lists of integers that came in, opened. -/
import Derived.Test.YtgeomalefpjfdaaQc
import Derived.Test.YtgeomalefpjfdaaRd
import Derived.Test.YtgeomalefpjfdaaLw
import Derived.Test.YtgeomalefpjfdaaWa
namespace Go.Proofs.Ytgeomalefpjfdaa
open Go Go.ChangeShapes Go.WideShapes Go.RowKit Go.Proofs.Hp Go.Proofs.Qs Go.Proofs.Lw
theorem open_quad {H : Type} {enc : TypeId × Value → H} {W : World} {fuel : Nat} {cs : List Value} {x : DataW H × List MemPlace} (h : DataW.trod enc Try.prog W 0 (fun _ => true) true fuel 59 cs = some x) :
    ∃ k : K4, cs = [.int .i64 k.a, .int .i64 k.b, .int .i64 k.c, .int .i64 k.d] := by
  obtain ⟨xs, n, rfl, rfl, hl, hn, hf⟩ := DataW.trod_struct Try.underlying59 h
  have hl4 : cs.length = 4 := hl.trans (by kernel_rfl)
  have h0 := hf 0 _ rfl
  have hx0 : xs.length = 1 := hn
  rw [List.getElem?_eq_getElem (by omega)] at h0
  have hc4 : Try.prog.cellsOf 57 = 4 := by kernel_rfl
  have hc1 : Try.prog.cellsOf 3 = 1 := by kernel_rfl
  change DataW.trod enc Try.prog W 0 (fun _ => true) true n 57 ((cs.drop 0).take (Try.prog.cellsOf 57)) = some _ at h0
  rw [hc4, List.drop_zero, List.take_of_length_le (by omega)] at h0
  obtain ⟨ys, m, rfl, _, _, hy, hg⟩ := DataW.trod_array Try.underlying57 h0
  rw [hc1] at hg
  have hi : ∀ i, i < 4 → ∃ z, (cs.drop i).take 1 = [.int .i64 z] := fun i hi => by
    have := hg i hi
    rw [List.getElem?_eq_getElem (by omega), Nat.mul_one] at this
    obtain ⟨z, hz, _⟩ := DataW.trod_int Try.underlying3 this
    exact ⟨z, hz⟩
  match cs, hl4 with
  | [c0, c1, c2, c3], _ =>
    obtain ⟨a, ha⟩ := hi 0 (by omega)
    obtain ⟨b, hb⟩ := hi 1 (by omega)
    obtain ⟨c, hc⟩ := hi 2 (by omega)
    obtain ⟨d, hd⟩ := hi 3 (by omega)
    simp at ha hb hc hd
    exact ⟨⟨a, b, c, d⟩, by rw [ha, hb, hc, hd]⟩
theorem flat_map (ns : List K4) : (ns.map fun k : K4 => [Value.int .i64 k.a, .int .i64 k.b, .int .i64 k.c, .int .i64 k.d]).flatten = flat ns := by
  rw [flat, List.flatMap_def]
theorem open_quads {H : Type} {enc : TypeId × Value → H} {W : World} {base : Nat} {v : Value} {d : DataW H} {ps : List MemPlace} (hval : Value.okWide Try.prog W .any base 24 v)
    (h : DataW.Trod enc Try.prog W 0 (fun _ => true) true 24 v d ps) :
    ∃ s a c ns, v = .agg #[.int .i64 s, .slice a ns.length c] ∧ Reads W (.slice a ns.length c) ns.length 4 (flat ns) ∧ (a = none → c = 0) := by
  obtain ⟨cs, rfl, hsz⟩ := okWide_struct Try.underlying24 hval
  have hs2 : cs.size = 2 := hsz.trans (by kernel_rfl)
  obtain ⟨fuel, hf⟩ := h
  obtain ⟨xs, n, rfl, _, _, hn, hf⟩ := DataW.trod_struct Try.underlying24 hf
  obtain ⟨c0, c1, rfl⟩ : ∃ c0 c1, cs = #[c0, c1] := ⟨cs[0], cs[1], by apply Array.ext <;> simp [hs2]; intro i hi; match i, hi with | 0, _ => intro _; rfl | 1, _ => intro _; rfl⟩
  have hc1 : Try.prog.cellsOf 3 = 1 := by kernel_rfl
  have hc2 : Try.prog.cellsOf 22 = 1 := by kernel_rfl
  have hx2 : xs.length = 2 := hn
  have h0 := hf 0 _ rfl
  have h1 := hf 1 _ rfl
  rw [List.getElem?_eq_getElem (by omega)] at h0 h1
  change DataW.trod enc Try.prog W 0 (fun _ => true) true n 3 (([c0, c1].drop 0).take (Try.prog.cellsOf 3)) = some _ at h0
  change DataW.trod enc Try.prog W 0 (fun _ => true) true n 22 (([c0, c1].drop 1).take (Try.prog.cellsOf 22)) = some _ at h1
  rw [hc1] at h0
  rw [hc2] at h1
  simp only [List.drop_zero, List.drop_succ_cons, List.take_succ_cons, List.take_zero] at h0 h1
  obtain ⟨s, hs, _⟩ := DataW.trod_int Try.underlying3 h0
  simp only [List.cons.injEq, and_true] at hs
  subst hs
  have hform : ∃ a n c, c1 = .slice a n c := by
    rcases DataW.trod_slice Try.underlying22 h1 with ⟨h, _⟩ | ⟨a, len, cap, _, _, _, _, h, _⟩
    · simp only [List.cons.injEq, and_true] at h; exact ⟨_, _, _, h⟩
    · simp only [List.cons.injEq, and_true] at h; exact ⟨_, _, _, h⟩
  obtain ⟨a, len, c, rfl⟩ := hform
  obtain ⟨_, _, xs, hxl, hxs, hnil, hcell⟩ := open_rows Try.underlying22 (sz := 4) (by kernel_rfl) (by omega) h1
  obtain ⟨ns, rfl⟩ := map_of_all (f := fun k : K4 => [Value.int .i64 k.a, .int .i64 k.b, .int .i64 k.c, .int .i64 k.d]) fun x hx => by
    obtain ⟨_, fuel, y, hy⟩ := hxs x hx
    exact open_quad hy
  obtain rfl : ns.length = len := by simpa using hxl
  rw [flat_map] at hcell
  exact ⟨s, a, c, ns, rfl, ⟨flat_length ns, a, c, rfl, hcell⟩, fun h => (hnil h).2⟩
theorem open_ints {H : Type} {enc : TypeId × Value → H} {W : World} {base : Nat} {v : Value} {d : DataW H} {ps : List MemPlace} (hval : Value.okWide Try.prog W .any base 25 v)
    (h : DataW.Trod enc Try.prog W 0 (fun _ => true) true 25 v d ps) :
    ∃ (a : Option Addr) (c : Nat) (l : List Int), v = .slice a l.length c ∧ Reads W (.slice a l.length c) l.length 1 (i64s l) := by
  obtain ⟨a, n, c, rfl⟩ := okWide_slice Try.underlying25 hval
  obtain ⟨fuel, hf⟩ := h
  obtain ⟨_, _, xs, hxl, hxs, _, hcell⟩ := open_rows Try.underlying25 (sz := 1) (by kernel_rfl) (by omega) hf
  obtain ⟨l, rfl⟩ := map_of_all (f := fun x : Int => [Value.int .i64 x]) fun x hx => by
    obtain ⟨_, fuel, y, hy⟩ := hxs x hx
    obtain ⟨z, hz, _⟩ := DataW.trod_int Try.underlying3 hy
    exact ⟨z, hz⟩
  obtain rfl : l.length = n := by simpa using hxl
  have e : ∀ l : List Int, (l.map fun x : Int => [Value.int .i64 x]).flatten = i64s l := fun l => by
    induction l with
    | nil => rfl
    | cons x l ih => rw [List.map_cons, List.flatten_cons, ih]; rfl
  rw [e] at hcell
  exact ⟨a, c, l, rfl, by simp [i64s], a, c, rfl, hcell⟩
end Go.Proofs.Ytgeomalefpjfdaa
