/- Big integers that are drawn: opened into sign and digits. -/
import Derived.Test.YtbacamboknmppaaDoorJa
import Derived.Test.YtbacamboknmppaaDoorLw
namespace Go.Proofs.YtbacamboknmppaaDoor
open Go Go.ChangeShapes Go.WideShapes Go.ChangeAt Go.RowKit Go.Proofs.Hp Go.Proofs.Lw Go.Proofs.Bn
set_option linter.unusedVariables false
set_option linter.unusedSimpArgs false
theorem flat_u32s (L : List Nat) : (L.map (fun (k : Nat) => [Value.int .u32 k])).flatten = u32s L := by
  induction L with
  | nil => rfl
  | cons x L ih => rw [List.map_cons, List.flatten_cons, ih]; rfl
set_option maxRecDepth 100000 in
theorem open_big {H : Type} {enc : TypeId × Value → H} {W : World} {base : Nat} {v : Value} {d : DataW H} {ps : List MemPlace} (hval : Value.okWide Tryd.prog W .any base 24 v)
    (h : DataW.Trod enc Tryd.prog W 0 (fun _ => true) true 24 v d ps) :
    ∃ (neg : Bool) (a : Option Addr) (c : Nat) (L : List Nat), v = .agg #[.bool neg, .slice a L.length c] ∧ Reads W (.slice a L.length c) L.length 1 (u32s L) ∧ Dig 4294967296 L ∧ L.length ≤ c ∧ (a = none → c = 0) := by
  obtain ⟨cs, rfl, hsz⟩ := okWide_struct Tryd.underlying24 hval
  have hs2 : cs.size = 2 := hsz.trans (by kernel_rfl)
  obtain ⟨fuel, hf⟩ := h
  obtain ⟨xs, n, rfl, _, _, hn, hf⟩ := DataW.trod_struct Tryd.underlying24 hf
  obtain ⟨c0, c1, rfl⟩ : ∃ c0 c1, cs = #[c0, c1] := ⟨cs[0], cs[1], by apply Array.ext <;> simp [hs2]; intro i hi; match i, hi with | 0, _ => intro _; rfl | 1, _ => intro _; rfl⟩
  have hc1 : Tryd.prog.cellsOf 4 = 1 := by kernel_rfl
  have hc2 : Tryd.prog.cellsOf 22 = 1 := by kernel_rfl
  have hx2 : xs.length = 2 := hn
  have h0 := hf 0 _ rfl
  have h1 := hf 1 _ rfl
  rw [List.getElem?_eq_getElem (by omega)] at h0 h1
  change DataW.trod enc Tryd.prog W 0 (fun _ => true) true n 4 (([c0, c1].drop 0).take (Tryd.prog.cellsOf 4)) = some _ at h0
  change DataW.trod enc Tryd.prog W 0 (fun _ => true) true n 22 (([c0, c1].drop 1).take (Tryd.prog.cellsOf 22)) = some _ at h1
  rw [hc1] at h0
  rw [hc2] at h1
  simp only [List.drop_zero, List.drop_succ_cons, List.take_succ_cons, List.take_zero] at h0 h1
  obtain ⟨s, hs, _⟩ := DataW.trod_bool Tryd.underlying4 h0
  simp only [List.cons.injEq, and_true] at hs
  subst hs
  have hform : ∃ a n c, c1 = .slice a n c := by
    rcases DataW.trod_slice Tryd.underlying22 h1 with ⟨h, _⟩ | ⟨a, len, cap, _, _, _, _, h, _⟩
    · simp only [List.cons.injEq, and_true] at h; exact ⟨_, _, _, h⟩
    · simp only [List.cons.injEq, and_true] at h; exact ⟨_, _, _, h⟩
  obtain ⟨a, len, c, rfl⟩ := hform
  obtain ⟨hlc, _, xs, hxl, hxs, hnone, hcell⟩ := open_rows Tryd.underlying22 (sz := 1) (by kernel_rfl) (by omega) h1
  obtain ⟨L, hL, hLx⟩ : ∃ L : List Nat, xs = L.map (fun (k : Nat) => [Value.int .u32 k]) ∧ ∀ x ∈ L, x < 4294967296 := by
    have key : ∀ ys : List (List Value), (∀ y ∈ ys, y ∈ xs) → ∃ L : List Nat, ys = L.map (fun (k : Nat) => [Value.int .u32 k]) ∧ ∀ x ∈ L, x < 4294967296 := by
      intro ys
      induction ys with
      | nil => intro _; exact ⟨[], rfl, by simp⟩
      | cons y ys ih =>
        intro hy
        obtain ⟨L, rfl, hL⟩ := ih fun z hz => hy z (by simp [hz])
        obtain ⟨_, fuel, q, hq⟩ := hxs y (hy y (by simp))
        obtain ⟨z, hz, _, hwf⟩ := DataW.trod_int Tryd.underlying45 hq
        have hb : 0 ≤ z ∧ z ≤ 4294967295 := by simpa [Lit.wf, IntKind.min, IntKind.max, IntKind.signed, IntKind.bits] using hwf
        refine ⟨z.toNat :: L, ?_, ?_⟩
        · rw [hz]
          show [Value.int .u32 z] :: _ = [Value.int .u32 ((z.toNat : Nat) : Int)] :: _
          rw [Int.toNat_of_nonneg hb.1]
        · intro x hx
          rw [List.mem_cons] at hx
          rcases hx with rfl | hx
          · omega
          · exact hL x hx
    exact key xs fun _ h => h
  subst hL
  obtain rfl : L.length = len := by simpa using hxl
  have hfl := flat_u32s L
  rw [hfl] at hcell
  exact ⟨s, a, c, L, rfl, ⟨by simp [u32s], a, c, rfl, hcell⟩, hLx, hlc, fun h => (hnone h).2⟩
end Go.Proofs.YtbacamboknmppaaDoor
