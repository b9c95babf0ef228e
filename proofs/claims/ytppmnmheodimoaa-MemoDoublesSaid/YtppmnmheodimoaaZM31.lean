/- Own texts of this claim, part 32: no condition. -/
import Derived.Test.YtppmnmheodimoaaZM6
import Derived.Test.YtppmnmheodimoaaZM30
section
/- Rules that came in, opened. -/
namespace Go.Proofs.Ytppmnmheodimoaa
open Go Go.ChangeShapes Go.WideShapes Go.RowKit Go.Proofs.Hp Go.Proofs.Lw Go.Proofs.Ev
set_option linter.unusedVariables false
set_option linter.unusedSimpArgs false
def i64 (n : Int) : Prop := -9223372036854775808 ≤ n ∧ n ≤ 9223372036854775807
theorem i64_of {n : Int} (h : (Lit.int .i64 n).wf = true) : i64 n := by
  unfold i64
  simpa [Lit.wf, IntKind.min, IntKind.max, IntKind.signed, IntKind.bits] using h
set_option maxRecDepth 100000 in
theorem open_point {H : Type} {enc : TypeId × Value → H} {W : World} {fuel : Nat} {cs : List Value} {x : DataW H × List MemPlace} (h : DataW.trod enc Try.prog W 0 (fun _ => true) true fuel 87 cs = some x) :
    ∃ p : Int × Int, cs = [.int .i64 p.1, .int .i64 p.2] ∧ i64 p.1 ∧ i64 p.2 := by
  obtain ⟨xs, n, rfl, rfl, hl, hn, hf⟩ := DataW.trod_struct Try.underlying87 h
  have hl2 : cs.length = 2 := hl.trans (by kernel_rfl)
  have hx2 : xs.length = 2 := hn
  have hc1 : Try.prog.cellsOf 3 = 1 := by kernel_rfl
  have h0 := hf 0 _ rfl
  have h1 := hf 1 _ rfl
  rw [List.getElem?_eq_getElem (by omega)] at h0 h1
  change DataW.trod enc Try.prog W 0 (fun _ => true) true n 3 ((cs.drop 0).take (Try.prog.cellsOf 3)) = some _ at h0
  change DataW.trod enc Try.prog W 0 (fun _ => true) true n 3 ((cs.drop 1).take (Try.prog.cellsOf 3)) = some _ at h1
  rw [hc1] at h0 h1
  obtain ⟨a, ha, _, wa⟩ := DataW.trod_int Try.underlying3 h0
  obtain ⟨b, hb, _, wb⟩ := DataW.trod_int Try.underlying3 h1
  match cs, hl2 with
  | [c0, c1], _ =>
    simp at ha hb
    exact ⟨(a, b), by rw [ha, hb], i64_of wa, i64_of wb⟩
theorem flat_pts (l : List (Int × Int)) : (l.map fun p : Int × Int => [Value.int .i64 p.1, .int .i64 p.2]).flatten = pts l := by rw [pts, List.flatMap_def]
theorem open_points {H : Type} {enc : TypeId × Value → H} {W : World} {fuel n c : Nat} {a : Option Addr} {x : DataW H × List MemPlace} (h : DataW.trod enc Try.prog W 0 (fun _ => true) true fuel 28 [.slice a n c] = some x) :
    ∃ l : List (Int × Int), l.length = n ∧ PtsAt W (.slice a l.length c) l ∧ (∀ p ∈ l, i64 p.1 ∧ i64 p.2) ∧ (a = none → c = 0) ∧ n ≤ c := by
  obtain ⟨hlc, _, xs, hxl, hxs, hnil, hcell⟩ := open_rows Try.underlying28 (sz := 2) (by kernel_rfl) (by omega) h
  obtain ⟨l, rfl, hb⟩ : ∃ l : List (Int × Int), xs = l.map (fun p : Int × Int => [Value.int .i64 p.1, .int .i64 p.2]) ∧ ∀ p ∈ l, i64 p.1 ∧ i64 p.2 := by
    have key : ∀ ys : List (List Value), (∀ y ∈ ys, y ∈ xs) → ∃ l : List (Int × Int), ys = l.map (fun p : Int × Int => [Value.int .i64 p.1, .int .i64 p.2]) ∧ ∀ p ∈ l, i64 p.1 ∧ i64 p.2 := by
      intro ys
      induction ys with
      | nil => intro _; exact ⟨[], rfl, by simp⟩
      | cons y ys ih =>
        intro hy
        obtain ⟨l, rfl, hl⟩ := ih fun z hz => hy z (by simp [hz])
        obtain ⟨_, fuel, q, hq⟩ := hxs y (hy y (by simp))
        obtain ⟨p, rfl, h1, h2⟩ := open_point hq
        refine ⟨p :: l, rfl, fun z hz => ?_⟩
        rw [List.mem_cons] at hz
        rcases hz with rfl | hz
        · exact ⟨h1, h2⟩
        · exact hl z hz
    exact key xs fun _ h => h
  have hn : l.length = n := by simpa using hxl
  subst hn
  rw [flat_pts] at hcell
  exact ⟨l, rfl, ⟨pts_length l, a, c, rfl, hcell⟩, hb, fun h => (hnil h).2, hlc⟩
/-- a slice of ints inside of something that came in -/
theorem open_ints1 {H : Type} {enc : TypeId × Value → H} {W : World} {fuel : Nat} {v : Value} {x : DataW H × List MemPlace} (h : DataW.trod enc Try.prog W 0 (fun _ => true) true fuel 71 [v] = some x) :
    ∃ (a : Option Addr) (c : Nat) (l : List Int), v = .slice a l.length c ∧ IntsAt W (.slice a l.length c) l ∧ (∀ n ∈ l, i64 n) ∧ (a = none → c = 0) ∧ l.length ≤ c := by
  have hform : ∃ a n c, v = .slice a n c := by
    rcases DataW.trod_slice Try.underlying71 h with ⟨h, _⟩ | ⟨a, len, cap, _, _, _, _, h, _⟩
    · simp only [List.cons.injEq, and_true] at h; exact ⟨_, _, _, h⟩
    · simp only [List.cons.injEq, and_true] at h; exact ⟨_, _, _, h⟩
  obtain ⟨a, n, c, rfl⟩ := hform
  obtain ⟨hlc, _, xs, hxl, hxs, hnil, hcell⟩ := open_rows Try.underlying71 (sz := 1) (by kernel_rfl) (by omega) h
  obtain ⟨l, rfl, hb⟩ : ∃ l : List Int, xs = l.map (fun n : Int => [Value.int .i64 n]) ∧ ∀ n ∈ l, i64 n := by
    have key : ∀ ys : List (List Value), (∀ y ∈ ys, y ∈ xs) → ∃ l : List Int, ys = l.map (fun n : Int => [Value.int .i64 n]) ∧ ∀ n ∈ l, i64 n := by
      intro ys
      induction ys with
      | nil => intro _; exact ⟨[], rfl, by simp⟩
      | cons y ys ih =>
        intro hy
        obtain ⟨l, rfl, hl⟩ := ih fun z hz => hy z (by simp [hz])
        obtain ⟨_, fuel, q, hq⟩ := hxs y (hy y (by simp))
        obtain ⟨z, rfl, _, hw⟩ := DataW.trod_int Try.underlying3 hq
        refine ⟨z :: l, rfl, fun u hu => ?_⟩
        rw [List.mem_cons] at hu
        rcases hu with rfl | hu
        · exact i64_of hw
        · exact hl u hu
    exact key xs fun _ h => h
  have hn : l.length = n := by simpa using hxl
  subst hn
  have e : ∀ l : List Int, (l.map fun x : Int => [Value.int .i64 x]).flatten = iv l := fun l => by
    induction l with
    | nil => rfl
    | cons x l ih => rw [List.map_cons, List.flatten_cons, ih]; rfl
  rw [e] at hcell
  exact ⟨a, c, l, rfl, ⟨by simp [iv], a, c, rfl, hcell⟩, hb, fun h => (hnil h).2, hlc⟩
set_option maxRecDepth 100000 in
theorem open_node {H : Type} {enc : TypeId × Value → H} {W : World} {fuel : Nat} {cs : List Value} {x : DataW H × List MemPlace} (h : DataW.trod enc Try.prog W 0 (fun _ => true) true fuel 91 cs = some x) :
    ∃ (p : Int × List Int) (u : Value), cs = [.int .i64 p.1, u] ∧ IntsAt W u p.2 ∧ i64 p.1 ∧ ∀ n ∈ p.2, i64 n := by
  obtain ⟨xs, n, rfl, rfl, hl, hn, hf⟩ := DataW.trod_struct Try.underlying91 h
  have hl2 : cs.length = 2 := hl.trans (by kernel_rfl)
  have hx2 : xs.length = 2 := hn
  have hc1 : Try.prog.cellsOf 3 = 1 := by kernel_rfl
  have hc2 : Try.prog.cellsOf 71 = 1 := by kernel_rfl
  have h0 := hf 0 _ rfl
  have h1 := hf 1 _ rfl
  rw [List.getElem?_eq_getElem (by omega)] at h0 h1
  change DataW.trod enc Try.prog W 0 (fun _ => true) true n 3 ((cs.drop 0).take (Try.prog.cellsOf 3)) = some _ at h0
  change DataW.trod enc Try.prog W 0 (fun _ => true) true n 71 ((cs.drop 1).take (Try.prog.cellsOf 71)) = some _ at h1
  rw [hc1] at h0
  rw [hc2] at h1
  obtain ⟨a, ha, _, wa⟩ := DataW.trod_int Try.underlying3 h0
  match cs, hl2 with
  | [c0, c1], _ =>
    simp at ha
    simp only [List.drop_succ_cons, List.drop_zero, List.take_succ_cons, List.take_zero] at h1
    obtain ⟨b, c, l, rfl, hr, hb, _, _⟩ := open_ints1 h1
    exact ⟨(a, l), _, by rw [ha], hr, i64_of wa, hb⟩
theorem flat_nodes : ∀ (l : List (Int × List Int)) (vs : List Value), l.length = vs.length → ((l.zip vs).map fun p : (Int × List Int) × Value => [Value.int .i64 p.1.1, p.2]).flatten = ncells l vs := fun l vs _ => by rw [ncells, List.flatMap_def]
theorem open_nodes {H : Type} {enc : TypeId × Value → H} {W : World} {fuel n c : Nat} {a : Option Addr} {x : DataW H × List MemPlace} (h : DataW.trod enc Try.prog W 0 (fun _ => true) true fuel 29 [.slice a n c] = some x) :
    ∃ l : List (Int × List Int), l.length = n ∧ NodesAt W (.slice a l.length c) l ∧ (∀ p ∈ l, i64 p.1 ∧ ∀ n ∈ p.2, i64 n) ∧ (a = none → c = 0) := by
  obtain ⟨hlc, _, xs, hxl, hxs, hnil, hcell⟩ := open_rows Try.underlying29 (sz := 2) (by kernel_rfl) (by omega) h
  obtain ⟨l, vs, hlen, rfl, hr, hb⟩ : ∃ (l : List (Int × List Int)) (vs : List Value), l.length = vs.length ∧ xs = (l.zip vs).map (fun p : (Int × List Int) × Value => [Value.int .i64 p.1.1, p.2]) ∧ (∀ (i : Nat) (x : Int × List Int), l[i]? = some x → ∃ u, vs[i]? = some u ∧ IntsAt W u x.2) ∧ ∀ p ∈ l, i64 p.1 ∧ ∀ n ∈ p.2, i64 n := by
    have key : ∀ ys : List (List Value), (∀ y ∈ ys, y ∈ xs) → ∃ (l : List (Int × List Int)) (vs : List Value), l.length = vs.length ∧ ys = (l.zip vs).map (fun p : (Int × List Int) × Value => [Value.int .i64 p.1.1, p.2]) ∧ (∀ (i : Nat) (x : Int × List Int), l[i]? = some x → ∃ u, vs[i]? = some u ∧ IntsAt W u x.2) ∧ ∀ p ∈ l, i64 p.1 ∧ ∀ n ∈ p.2, i64 n := by
      intro ys
      induction ys with
      | nil => intro _; exact ⟨[], [], rfl, rfl, by simp, by simp⟩
      | cons y ys ih =>
        intro hy
        obtain ⟨l, vs, hlen, rfl, hr, hl⟩ := ih fun z hz => hy z (by simp [hz])
        obtain ⟨_, fuel, q, hq⟩ := hxs y (hy y (by simp))
        obtain ⟨p, u, rfl, h1, h2, h3⟩ := open_node hq
        refine ⟨p :: l, u :: vs, by simp [hlen], by simp, fun i x hi => ?_, fun z hz => ?_⟩
        · cases i with
          | zero =>
            simp at hi
            subst hi
            exact ⟨u, by simp, h1⟩
          | succ i =>
            obtain ⟨u', hu', hr'⟩ := hr i x (by simpa using hi)
            exact ⟨u', by simpa using hu', hr'⟩
        · rw [List.mem_cons] at hz
          rcases hz with rfl | hz
          · exact ⟨h2, h3⟩
          · exact hl z hz
    exact key xs fun _ h => h
  have hn : l.length = n := by
    rw [← hxl, List.length_map, List.length_zip]
    omega
  subst hn
  rw [flat_nodes l vs hlen] at hcell
  refine ⟨l, rfl, ⟨vs, ⟨?_, a, c, rfl, hcell⟩, hr⟩, hb, fun h => (hnil h).2⟩
  rw [← flat_nodes l vs hlen]
  have : ∀ ps : List ((Int × List Int) × Value), ((ps.map fun p => [Value.int .i64 p.1.1, p.2]).flatten).length = ps.length * 2 := by
    intro ps
    induction ps with
    | nil => rfl
    | cons p ps ih => simp only [List.map_cons, List.flatten_cons, List.length_append, List.length_cons, List.length_nil, ih]; omega
  rw [this, List.length_zip]
  omega
set_option maxRecDepth 100000 in
theorem open_tree {H : Type} {enc : TypeId × Value → H} {W : World} {base : Nat} {v : Value} {d : DataW H} {ps : List MemPlace} (hval : Value.okWide Try.prog W .any base 31 v)
    (h : DataW.Trod enc Try.prog W 0 (fun _ => true) true 31 v d ps) :
    ∃ (r : Rule) (ha na : Option Addr) (hc nc : Nat), v = .agg #[.int .i64 r.S, .slice ha r.hood.length hc, .slice na r.nodes.length nc] ∧ RuleAt W (.slice ha r.hood.length hc) (.slice na r.nodes.length nc) r ∧ i64 r.S ∧ (∀ p ∈ r.hood, i64 p.1 ∧ i64 p.2) ∧ (∀ p ∈ r.nodes, i64 p.1 ∧ ∀ n ∈ p.2, i64 n) := by
  obtain ⟨cs, rfl, hsz⟩ := okWide_struct Try.underlying31 hval
  have hs3 : cs.size = 3 := hsz.trans (by kernel_rfl)
  obtain ⟨fuel, hf⟩ := h
  obtain ⟨xs, n, rfl, _, _, hn, hf⟩ := DataW.trod_struct Try.underlying31 hf
  obtain ⟨c0, c1, c2, rfl⟩ : ∃ c0 c1 c2, cs = #[c0, c1, c2] := ⟨cs[0], cs[1], cs[2], by apply Array.ext <;> simp [hs3]; intro i hi; match i, hi with | 0, _ => intro _; rfl | 1, _ => intro _; rfl | 2, _ => intro _; rfl⟩
  have e1 : Try.prog.cellsOf 3 = 1 := by kernel_rfl
  have e2 : Try.prog.cellsOf 28 = 1 := by kernel_rfl
  have e3 : Try.prog.cellsOf 29 = 1 := by kernel_rfl
  have hx3 : xs.length = 3 := hn
  have h0 := hf 0 _ rfl
  have h1 := hf 1 _ rfl
  have h2 := hf 2 _ rfl
  rw [List.getElem?_eq_getElem (by omega)] at h0 h1 h2
  change DataW.trod enc Try.prog W 0 (fun _ => true) true n 3 (([c0, c1, c2].drop 0).take (Try.prog.cellsOf 3)) = some _ at h0
  change DataW.trod enc Try.prog W 0 (fun _ => true) true n 28 (([c0, c1, c2].drop 1).take (Try.prog.cellsOf 28)) = some _ at h1
  change DataW.trod enc Try.prog W 0 (fun _ => true) true n 29 (([c0, c1, c2].drop 2).take (Try.prog.cellsOf 29)) = some _ at h2
  rw [e1] at h0
  rw [e2] at h1
  rw [e3] at h2
  simp only [List.drop_zero, List.drop_succ_cons, List.take_succ_cons, List.take_zero] at h0 h1 h2
  obtain ⟨s, hs, _, ws⟩ := DataW.trod_int Try.underlying3 h0
  simp only [List.cons.injEq, and_true] at hs
  subst hs
  have hf1 : ∃ a n c, c1 = .slice a n c := by
    rcases DataW.trod_slice Try.underlying28 h1 with ⟨h, _⟩ | ⟨a, len, cap, _, _, _, _, h, _⟩
    · simp only [List.cons.injEq, and_true] at h; exact ⟨_, _, _, h⟩
    · simp only [List.cons.injEq, and_true] at h; exact ⟨_, _, _, h⟩
  have hf2 : ∃ a n c, c2 = .slice a n c := by
    rcases DataW.trod_slice Try.underlying29 h2 with ⟨h, _⟩ | ⟨a, len, cap, _, _, _, _, h, _⟩
    · simp only [List.cons.injEq, and_true] at h; exact ⟨_, _, _, h⟩
    · simp only [List.cons.injEq, and_true] at h; exact ⟨_, _, _, h⟩
  obtain ⟨a1, n1, k1, rfl⟩ := hf1
  obtain ⟨a2, n2, k2, rfl⟩ := hf2
  obtain ⟨hood, rfl, hp, hb1, _, _⟩ := open_points h1
  obtain ⟨nodes, rfl, hq, hb2, _⟩ := open_nodes h2
  exact ⟨⟨s, hood, nodes⟩, a1, a2, k1, k2, rfl, ⟨hp, hq⟩, i64_of ws, hb1, hb2⟩
end Go.Proofs.Ytppmnmheodimoaa
end
