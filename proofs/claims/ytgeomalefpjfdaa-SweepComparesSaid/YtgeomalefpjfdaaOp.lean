/- A pair of contents that came in, opened. -/
import Derived.Test.YtgeomalefpjfdaaOs
namespace Go.Proofs.Ytgeomalefpjfdaa
open Go Go.ChangeShapes Go.WideShapes Go.RowKit Go.Proofs.Hp Go.Proofs.Qs Go.Proofs.Lw
theorem open_quadsC {H : Type} {enc : TypeId × Value → H} {W : World} {fuel : Nat} {c0 c1 : Value} {x : DataW H × List MemPlace} (hf : DataW.trod enc Try.prog W 0 (fun _ => true) true fuel 24 [c0, c1] = some x) :
    ∃ s a c ns, c0 = .int .i64 s ∧ c1 = .slice a ns.length c ∧ Reads W (.slice a ns.length c) ns.length 4 (flat ns) ∧ (a = none → c = 0) := by
  obtain ⟨xs, n, rfl, _, _, hn, hf⟩ := DataW.trod_struct Try.underlying24 hf
  have hc1 : Try.prog.cellsOf 3 = 1 := by kernel_rfl
  have hc2 : Try.prog.cellsOf 22 = 1 := by kernel_rfl
  have hx2 : xs.length = 2 := hn
  have h0 := hf 0 _ rfl
  have h1 := hf 1 _ rfl
  rw [List.getElem?_eq_getElem (by omega)] at h0 h1
  change DataW.trod enc Try.prog W 0 (fun _ => true) true n 3 (([c0, c1].drop 0).take (Try.prog.cellsOf 3)) = some _ at h0
  change DataW.trod enc Try.prog W 0 (fun _ => true) true n 22 (([c0, c1].drop 1).take (Try.prog.cellsOf 22)) = some _ at h1
  rw [hc1] at h0
  rw [hc2] at h1
  simp only [List.drop_zero, List.drop_succ_cons, List.take_succ_cons, List.take_zero] at h0 h1
  obtain ⟨s, hs, _⟩ := DataW.trod_int Try.underlying3 h0
  simp only [List.cons.injEq, and_true] at hs
  subst hs
  have hform : ∃ a n c, c1 = .slice a n c := by
    rcases DataW.trod_slice Try.underlying22 h1 with ⟨h, _⟩ | ⟨a, len, cap, _, _, _, _, h, _⟩
    · simp only [List.cons.injEq, and_true] at h; exact ⟨_, _, _, h⟩
    · simp only [List.cons.injEq, and_true] at h; exact ⟨_, _, _, h⟩
  obtain ⟨a, len, c, rfl⟩ := hform
  obtain ⟨_, _, xs, hxl, hxs, hnil, hcell⟩ := open_rows Try.underlying22 (sz := 4) (by kernel_rfl) (by omega) h1
  obtain ⟨ns, rfl⟩ := map_of_all (f := fun k : K4 => [Value.int .i64 k.a, .int .i64 k.b, .int .i64 k.c, .int .i64 k.d]) fun x hx => by
    obtain ⟨_, fuel, y, hy⟩ := hxs x hx
    exact open_quad hy
  obtain rfl : ns.length = len := by simpa using hxl
  rw [flat_map] at hcell
  exact ⟨s, a, c, ns, rfl, rfl, ⟨flat_length ns, a, c, rfl, hcell⟩, fun h => (hnil h).2⟩
theorem open_pair {H : Type} {enc : TypeId × Value → H} {W : World} {base : Nat} {v : Value} {d : DataW H} {ps : List MemPlace} (hval : Value.okWide Try.prog W .any base 45 v)
    (h : DataW.Trod enc Try.prog W 0 (fun _ => true) true 45 v d ps) :
    ∃ s a c ns t a' c' ms X Y, v = .agg #[.int .i64 s, .slice a ns.length c, .int .i64 t, .slice a' ms.length c', .int .i64 X, .int .i64 Y] ∧ Reads W (.slice a ns.length c) ns.length 4 (flat ns) ∧ (a = none → c = 0) ∧
      Reads W (.slice a' ms.length c') ms.length 4 (flat ms) ∧ (a' = none → c' = 0) := by
  obtain ⟨cs, rfl, hsz⟩ := okWide_struct Try.underlying45 hval
  have hs2 : cs.size = 6 := hsz.trans (by kernel_rfl)
  obtain ⟨fuel, hf⟩ := h
  obtain ⟨xs, n, rfl, _, _, hn, hf⟩ := DataW.trod_struct Try.underlying45 hf
  obtain ⟨c0, c1, c2, c3, c4, c5, rfl⟩ : ∃ c0 c1 c2 c3 c4 c5, cs = #[c0, c1, c2, c3, c4, c5] :=
    ⟨cs[0], cs[1], cs[2], cs[3], cs[4], cs[5], by apply Array.ext <;> simp [hs2]; intro i hi; match i, hi with | 0, _ => intro _; rfl | 1, _ => intro _; rfl | 2, _ => intro _; rfl | 3, _ => intro _; rfl | 4, _ => intro _; rfl | 5, _ => intro _; rfl⟩
  have hc1 : Try.prog.cellsOf 3 = 1 := by kernel_rfl
  have hc2 : Try.prog.cellsOf 24 = 2 := by kernel_rfl
  have hx2 : xs.length = 4 := hn
  have h0 := hf 0 _ rfl
  have h1 := hf 1 _ rfl
  have h2 := hf 2 _ rfl
  have h3 := hf 3 _ rfl
  rw [List.getElem?_eq_getElem (by omega)] at h0 h1 h2 h3
  change DataW.trod enc Try.prog W 0 (fun _ => true) true n 24 (([c0, c1, c2, c3, c4, c5].drop 0).take (Try.prog.cellsOf 24)) = some _ at h0
  change DataW.trod enc Try.prog W 0 (fun _ => true) true n 24 (([c0, c1, c2, c3, c4, c5].drop 2).take (Try.prog.cellsOf 24)) = some _ at h1
  change DataW.trod enc Try.prog W 0 (fun _ => true) true n 3 (([c0, c1, c2, c3, c4, c5].drop 4).take (Try.prog.cellsOf 3)) = some _ at h2
  change DataW.trod enc Try.prog W 0 (fun _ => true) true n 3 (([c0, c1, c2, c3, c4, c5].drop 5).take (Try.prog.cellsOf 3)) = some _ at h3
  rw [hc2] at h0 h1
  rw [hc1] at h2 h3
  simp only [List.drop_zero, List.drop_succ_cons, List.take_succ_cons, List.take_zero] at h0 h1 h2 h3
  obtain ⟨s, a, c, ns, rfl, rfl, hr, hz⟩ := open_quadsC h0
  obtain ⟨t, a', c', ms, rfl, rfl, hr', hz'⟩ := open_quadsC h1
  obtain ⟨X, hX, _⟩ := DataW.trod_int Try.underlying3 h2
  obtain ⟨Y, hY, _⟩ := DataW.trod_int Try.underlying3 h3
  simp only [List.cons.injEq, and_true] at hX hY
  subst hX
  subst hY
  exact ⟨s, a, c, ns, t, a', c', ms, X, Y, rfl, hr, hz, hr', hz'⟩
end Go.Proofs.Ytgeomalefpjfdaa
