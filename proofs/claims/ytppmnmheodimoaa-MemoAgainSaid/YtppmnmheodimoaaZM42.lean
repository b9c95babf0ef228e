/- Own texts of this claim, part 43: no condition. -/
import Derived.Test.YtppmnmheodimoaaZM11
import Derived.Test.YtppmnmheodimoaaZM4
import Derived.Test.YtppmnmheodimoaaZM30
section
/- Two numbers that came in, opened. -/
namespace Go.Proofs.Ytppmnmheodimoaa
set_option linter.unusedVariables false
set_option linter.unusedSimpArgs false
open Go Go.ChangeShapes Go.WideShapes Go.RowKit Go.Proofs.Hp Go.Proofs.Lw
theorem okWide_arr' {P : Program} {w : World} {r : Reach} {base : Nat} {t e : TypeId} {n : Nat} {v : Value} (ht : P.underlying t = some (.array n e)) (h : Value.okWide P w r base t v) : ∃ cs, v = .agg cs ∧ cs.size = P.cellsOf t := by
  simp only [Value.okWide, ht] at h
  obtain ⟨cs, h1, h2, _⟩ := h
  exact ⟨cs, h1, h2⟩
set_option maxRecDepth 100000 in
theorem open_two {H : Type} {enc : TypeId × Value → H} {W : World} {base : Nat} {v : Value} {d : DataW H} {ps : List MemPlace} (hval : Value.okWide Try.prog W .any base 74 v)
    (h : DataW.Trod enc Try.prog W 0 (fun _ => true) true 74 v d ps) : ∃ k l : Int, v = .agg #[.int .i64 k, .int .i64 l] := by
  obtain ⟨cs, rfl, hsz⟩ := okWide_arr' Try.underlying74 hval
  have hs2 : cs.size = 2 := hsz.trans (by kernel_rfl)
  obtain ⟨fuel, hf⟩ := h
  obtain ⟨xs, n, rfl, _, _, hn, hf⟩ := DataW.trod_array Try.underlying74 hf
  obtain ⟨c0, c1, rfl⟩ : ∃ c0 c1, cs = #[c0, c1] := ⟨cs[0], cs[1], by apply Array.ext <;> simp [hs2]; intro i hi; match i, hi with | 0, _ => intro _; rfl | 1, _ => intro _; rfl⟩
  have e1 : Try.prog.cellsOf 3 = 1 := by kernel_rfl
  have h0 := hf 0 (by omega)
  have h1 := hf 1 (by omega)
  rw [List.getElem?_eq_getElem (by omega)] at h0 h1
  change DataW.trod enc Try.prog W 0 (fun _ => true) true n 3 (([c0, c1].drop (0 * Try.prog.cellsOf 3)).take (Try.prog.cellsOf 3)) = some _ at h0
  change DataW.trod enc Try.prog W 0 (fun _ => true) true n 3 (([c0, c1].drop (1 * Try.prog.cellsOf 3)).take (Try.prog.cellsOf 3)) = some _ at h1
  rw [e1] at h0 h1
  simp only [Nat.zero_mul, Nat.one_mul, List.drop_zero, List.drop_succ_cons, List.take_succ_cons, List.take_zero] at h0 h1
  obtain ⟨k, hk, _⟩ := DataW.trod_int Try.underlying3 h0
  obtain ⟨l, hl, _⟩ := DataW.trod_int Try.underlying3 h1
  simp only [List.cons.injEq, and_true] at hk hl
  subst hk
  subst hl
  exact ⟨k, l, rfl⟩
end Go.Proofs.Ytppmnmheodimoaa
end
