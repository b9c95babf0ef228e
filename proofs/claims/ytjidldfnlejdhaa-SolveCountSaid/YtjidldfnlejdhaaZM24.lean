/- Own texts of this claim, part 25: no condition. -/
import Derived.Test.YtjidldfnlejdhaaZM20
import Derived.Test.YtjidldfnlejdhaaZM22
import Derived.Test.YtjidldfnlejdhaaZM17
section
/- Law 42: the examples. -/
namespace Go.Proofs.Ytjidldfnlejdhaa
open Go Go.RowKit Go.Proofs.Rg Go.Proofs.Mp Go.Proofs.Hp Go.Proofs.Sv Go.Proofs.Bn
set_option linter.unusedVariables false
set_option linter.unusedSimpArgs false
structure KeptT (T : Prop) : Prop where
  out : T
theorem cut_in {T G : Prop} (h : KeptT T → G) (t : T) : G := h ⟨t⟩
theorem blk_mem {W w : World} {Ps : List Res} {b : Nat} {o : Obj} (h : Has W w Ps) (hm : Hp.blk b o ∈ Ps) : w.heap[b]? = some o := by
  obtain ⟨q1, q2, rfl⟩ := List.append_of_mem hm
  exact (h.perm List.perm_middle).blk
theorem has_many {W w : World} {Ps : List Res} (h : Has W w Ps) (T : Nat) (vs : List Value) (h0 : 0 < vs.length) (hl : vs.length ≤ 100) : Has W (w.alloc (.cells vs.toArray T (0, 0))) (Hp.row T 1 (.slice (some ⟨w.heap.size, 0, none⟩) vs.length vs.length) vs.length vs :: Ps) := by
  refine h.newRow ((Fr.refl [] w).alloc _) ?_
  have hm : (100 : Nat) ≤ maxLen := by decide
  refine ⟨by simp, .inr ⟨w.heap.size, vs.length, vs.toArray, rfl, Nat.le_refl _, by rw [hp_alloc, if_pos rfl], Nat.le_refl _, by omega, by simp, ?_⟩⟩
  rw [Nat.mul_one]
  simp
theorem cells_slice {w : World} {g T : Nat} {vs : List Value} (h : w.heap[g]? = some (.cells vs.toArray T (0, 0))) : Reads w (.slice (some ⟨g, 0, none⟩) vs.length vs.length) vs.length 1 vs := by
  refine ⟨by simp, _, _, rfl, fun _ => ⟨g, 0, rfl, lt_of_block h, fun j u hu => ?_⟩⟩
  rw [Nat.zero_add, heap_eq_cell h j]
  simpa using hu
theorem bools_blk {w : World} {g T : Nat} {l : List Bool} {vs : List Value} (hv : vs = bv l) (h : w.heap[g]? = some (.cells vs.toArray T (0, 0))) : BoolsAt w (.slice (some ⟨g, 0, none⟩) l.length l.length) l := by
  subst hv
  have := cells_slice h
  rwa [bv_length] at this
theorem under_hs {W : World} {Qs : List Res} {OV : List (Value × List Int)} {oa : Option Addr} {oc : Nat} (hl : ∀ q ∈ OV, q.2.length ≤ 9223372036854775807) (hn : OV.length ≤ 9223372036854775807) :
    FormHs W (Hp.row 51 1 (.slice oa OV.length oc) OV.length (OV.map (·.1)) :: bun (OV.map rowC) :: Qs) oa oc (OV.map (·.1)) (OV.map (·.2)) := by
  have h0 : FormHs W Qs none 0 [] [] := ⟨fun w Qs' hw _ => ⟨⟨rfl, none, 0, rfl, fun h => absurd h (by simp)⟩, fun i r hi => by simp at hi⟩, by simp, by simp⟩
  have h1 := h0.grown (a' := oa) (c' := oc) (k := OV.length) (OV := OV) (by simp) hn hl
  rw [List.nil_append, List.nil_append] at h1
  exact h1
section
variable {W w' : World} {Ps : List Res} {e : Ending}
theorem ex_first (h : FirstPost W Ps 2 [[1, 2]] e w') : ∃ a c, e = .returned (.tuple #[.slice a 2 c, .bool true, .int .i64 0]) ∧ Has W w' (Hp.row 4 1 (.slice a 2 c) 2 (bv [false, true]) :: Ps) := by
  rcases h with ⟨h, _⟩ | ⟨_, h, _⟩ | ⟨_, A, S, v, h, rfl, h2⟩
  · exact absurd h (by decide)
  · exact absurd h (by decide)
  · have : Sols 2 [[1, 2]] = [[false, true], [true, false], [true, true]] := by decide
    rw [this] at h
    obtain ⟨rfl, rfl⟩ := List.cons.inj h
    obtain ⟨a, c, rfl, _⟩ := owns_form2 h2.row
    exact ⟨a, c, rfl, h2⟩
theorem ex_none (h : FirstPost W Ps 1 [[1], [-1]] e w') : e = .returned (.tuple #[.slice none 0 0, .bool false, .int .i64 0]) ∧ Has W w' Ps := by
  rcases h with ⟨h, _⟩ | ⟨_, _, rfl, h⟩ | ⟨_, A, S, v, h, _⟩
  · exact absurd h (by decide)
  · exact ⟨rfl, h⟩
  · exact absurd h (by rw [show Sols 1 [[1], [-1]] = [] from by decide]; simp)
theorem ex_all {n most : Int} {L : List (List Bool)} (hg : goodA 2 [[1, 2]] n most = true) (hL : firsts n.toNat (Sols 2 [[1, 2]]) = L) (hm : L.length ≤ most.toNat) (h : AllPost W Ps 2 [[1, 2]] n most e w') :
    ∃ (OV : List (Value × List Bool)) (oa : Option Addr) (oc : Nat), OV.map (·.2) = L ∧ e = .returned (.tuple #[.slice oa L.length oc, .int .i64 0]) ∧ Has W w' (Hp.row 25 1 (.slice oa L.length oc) L.length (OV.map (·.1)) :: bun (OV.map rowB) :: Ps) := by
  rcases h with ⟨h, _⟩ | ⟨_, h, _⟩ | ⟨_, OV, vo, h1, _, rfl, h2⟩
  · rw [hg] at h; cases h
  · rw [hL] at h; omega
  · obtain ⟨oa, oc, rfl, _⟩ := owns_form2 h2.row
    have e1 : OV.length = L.length := by rw [← hL, ← h1, List.length_map]
    rw [e1] at h2 ⊢
    exact ⟨OV, oa, oc, h1.trans hL, rfl, h2⟩
theorem ex_limit (h : AllPost W Ps 2 [[1, 2]] 2 2 e w') : e = .returned (.tuple #[.slice none 0 0, .int .i64 14]) ∧ Has W w' Ps := by
  have hL : firsts (2 : Int).toNat (Sols 2 [[1, 2]]) = [[false, true], [true, false], [true, true]] := by decide
  rcases h with ⟨h, _⟩ | ⟨_, h, rfl, h2⟩ | ⟨_, OV, vo, h1, h3, _⟩
  · exact absurd h (by decide)
  · exact ⟨rfl, h2⟩
  · rw [hL] at h1
    have := congrArg List.length h1
    rw [List.length_map] at this
    simp at this h3
    omega
theorem ex_count {V : Nat} {cs : List (List Int)} {N : Nat} (hr : rightF V cs = true) (hN : cntF V cs = N) (h9 : N ≤ 100) (h : CountPost W Ps V cs e w') : ∃ a c, e = .returned (.tuple #[bgv N a c, .int .i64 0]) ∧ Has W w' (natR N a c :: Ps) := by
  have hl : N < limB := Nat.lt_trans (m := 2 ^ 7) (by omega) ((lim_pow 7).2 (by omega))
  rcases h with ⟨h, _⟩ | ⟨_, _, a, c, rfl, h⟩ | ⟨_, h, _⟩
  · rw [hr] at h; cases h
  · rw [hN] at h ⊢; exact ⟨a, c, rfl, h⟩
  · rw [hN] at h; omega
theorem ex_next (h : NxPost W Ps 2 [[1, 2]] 2 [false, true] e w') : ∃ a c Qs, e = .returned (.tuple #[.slice a 2 c, .bool true, .int .i64 0]) ∧ Has W w' (Qs ++ Ps) ∧ BoolsSrc W (Qs ++ Ps) a c [true, false] := by
  have hN : nextR [[1, 2]] 2 [false, true] 2 = some [true, false] := by decide
  rcases h with ⟨h, _⟩ | ⟨_, h, _⟩ | ⟨_, x, a, c, Qs, h, rfl, h2, h3⟩
  · exact absurd h (by decide)
  · rw [show ([false, true] : List Bool).length = 2 from rfl, hN] at h; cases h
  · rw [show ([false, true] : List Bool).length = 2 from rfl, hN] at h
    obtain rfl := Option.some.inj h
    exact ⟨a, c, Qs, rfl, h2, h3⟩
end
theorem rows_mem {W w : World} {Ps : List Res} {oa : Option Addr} {oc : Nat} {OV : List (Value × List Bool)} {L : List (List Bool)} (hO : OV.map (·.2) = L) (h : Has W w Ps) (h1 : Hp.row 25 1 (.slice oa L.length oc) L.length (OV.map (·.1)) ∈ Ps) (h2 : bun (OV.map rowB) ∈ Ps) : BRowsAt w (.slice oa L.length oc) L := by
  refine ⟨OV.map (·.1), ?_, fun i r hi => ?_⟩
  · obtain ⟨q1, q2, e⟩ := List.append_of_mem h1
    rw [e] at h
    exact (h.perm List.perm_middle).rowReads
  · rw [← hO, List.getElem?_map] at hi
    obtain ⟨q, hq, rfl⟩ := Option.map_eq_some_iff.1 hi
    refine ⟨q.1, by rw [List.getElem?_map, hq]; rfl, ?_⟩
    obtain ⟨q1, q2, e⟩ := List.append_of_mem h2
    rw [e] at h
    have h3 := (h.perm List.perm_middle).unbun
    obtain ⟨q3, q4, e2⟩ := List.append_of_mem (List.mem_map_of_mem (f := rowB) (List.mem_of_getElem? hq))
    rw [e2, List.append_assoc, List.cons_append] at h3
    exact (h3.perm List.perm_middle).rowReads
theorem row_mem {W w : World} {Ps : List Res} {a : Option Addr} {c n : Nat} {l : List Bool} (hn : l.length = n) (h : Has W w Ps) (hm : Hp.row 4 1 (.slice a n c) n (bv l) ∈ Ps) : BoolsAt w (.slice a n c) l := by
  subst hn
  exact ((BoolsSrc.row (W := W) (Ps := Ps) rfl hm) _ _ h fun P hP => hP).1
theorem brows_of {W w : World} {Ps : List Res} {a : Option Addr} {c n : Nat} {vs : List Value} {ls : List (List Bool)} (hn : ls.length = n) (h : Has W w Ps) (hm : Hp.row 25 1 (.slice a n c) n vs ∈ Ps) (hb : ∀ (i : Nat) (r : List Bool), ls[i]? = some r → ∃ u, vs[i]? = some u ∧ BoolsAt w u r) : BRowsAt w (.slice a n c) ls := by
  subst hn
  obtain ⟨q1, q2, e⟩ := List.append_of_mem hm
  rw [e] at h
  exact ⟨vs, (h.perm List.perm_middle).rowReads, hb⟩
theorem nat_mem {W w : World} {Ps : List Res} {v : Nat} {a : Option Addr} {c : Nat} (h : Has W w Ps) (hm : natR v a c ∈ Ps) : BigZ w (fun _ => True) (.agg #[.bool false, .slice a (zd (v : Int)).length c]) (v : Int) := nat_z h hm
theorem brows3 {w : World} {g g1 g2 g3 T U : Nat} (h : w.heap[g]? = some (.cells #[.slice (some ⟨g1, 0, none⟩) 2 2, .slice (some ⟨g2, 0, none⟩) 2 2, .slice (some ⟨g3, 0, none⟩) 2 2] T (0, 0))) (h1 : w.heap[g1]? = some (.cells #[.bool false, .bool true] U (0, 0))) (h2 : w.heap[g2]? = some (.cells #[.bool true, .bool false] U (0, 0))) (h3 : w.heap[g3]? = some (.cells #[.bool true, .bool true] U (0, 0))) :
    BRowsAt w (.slice (some ⟨g, 0, none⟩) 3 3) [[false, true], [true, false], [true, true]] := by
  refine ⟨[.slice (some ⟨g1, 0, none⟩) 2 2, .slice (some ⟨g2, 0, none⟩) 2 2, .slice (some ⟨g3, 0, none⟩) 2 2], cells_slice (T := T) h, fun i r hi => ?_⟩
  rcases i with _ | _ | _ | i
  · obtain rfl := Option.some.inj hi
    exact ⟨_, rfl, bools_blk (vs := [.bool false, .bool true]) rfl h1⟩
  · obtain rfl := Option.some.inj hi
    exact ⟨_, rfl, bools_blk (vs := [.bool true, .bool false]) rfl h2⟩
  · obtain rfl := Option.some.inj hi
    exact ⟨_, rfl, bools_blk (vs := [.bool true, .bool true]) rfl h3⟩
  · simp at hi
theorem brows2 {w : World} {g g1 g2 T U : Nat} (h : w.heap[g]? = some (.cells #[.slice (some ⟨g1, 0, none⟩) 1 1, .slice (some ⟨g2, 0, none⟩) 1 1] T (0, 0))) (h1 : w.heap[g1]? = some (.cells #[.bool false] U (0, 0))) (h2 : w.heap[g2]? = some (.cells #[.bool true] U (0, 0))) :
    BRowsAt w (.slice (some ⟨g, 0, none⟩) 2 2) [[false], [true]] := by
  refine ⟨[.slice (some ⟨g1, 0, none⟩) 1 1, .slice (some ⟨g2, 0, none⟩) 1 1], cells_slice (T := T) h, fun i r hi => ?_⟩
  rcases i with _ | _ | i
  · obtain rfl := Option.some.inj hi
    exact ⟨_, rfl, bools_blk (vs := [.bool false]) rfl h1⟩
  · obtain rfl := Option.some.inj hi
    exact ⟨_, rfl, bools_blk (vs := [.bool true]) rfl h2⟩
  · simp at hi
theorem bools2 {w : World} {g T : Nat} {x y : Bool} (h : w.heap[g]? = some (.cells #[.bool x, .bool y] T (0, 0))) : BoolsAt w (.slice (some ⟨g, 0, none⟩) 2 2) [x, y] := bools_blk (vs := [.bool x, .bool y]) rfl h
theorem ex_bools2 {w' : World} {va vb : Option Addr} {lc mc : Nat} {x y : Bool} (h1 : BoolsAt w' (.slice va 2 lc) [x, y]) (h2 : BoolsAt w' (.slice vb 2 mc) [x, y]) :
    Calls Try.prog 15 #[.slice va 2 lc, .slice vb 2 mc] w' (fun e w'' => e = .returned (.bool true) ∧ Fr [] w' w'') :=
  (bools_calls (l := [x, y]) (m := [x, y]) h1 h2 (by simp)).mono fun e w'' ⟨he, hf⟩ => ⟨by rw [he]; simp, hf⟩
theorem ex_lists3 {w' : World} {va vb : Option Addr} {lc mc : Nat} (h1 : BRowsAt w' (.slice va 3 lc) [[false, true], [true, false], [true, true]]) (h2 : BRowsAt w' (.slice vb 3 mc) [[false, true], [true, false], [true, true]]) :
    Calls Try.prog 18 #[.slice va 3 lc, .slice vb 3 mc] w' (fun e w'' => e = .returned (.bool true) ∧ Fr [] w' w'') :=
  (lists_calls h1 h2 (by simp) (by simp)).mono fun e w'' ⟨he, hf⟩ => ⟨by rw [he]; simp, hf⟩
theorem ex_lists2 {w' : World} {va vb : Option Addr} {lc mc : Nat} (h1 : BRowsAt w' (.slice va 2 lc) [[false], [true]]) (h2 : BRowsAt w' (.slice vb 2 mc) [[false], [true]]) :
    Calls Try.prog 18 #[.slice va 2 lc, .slice vb 2 mc] w' (fun e w'' => e = .returned (.bool true) ∧ Fr [] w' w'') :=
  (lists_calls h1 h2 (by simp) (by simp)).mono fun e w'' ⟨he, hf⟩ => ⟨by rw [he]; simp, hf⟩
/-- a formula's clauses among things -/
def V1 (g1 : Nat) : List (Value × List Int) := [(.slice (some ⟨g1, 0, none⟩) 2 2, [1, 2])]
def QL (g1 g2 fb : Nat) : List Res := [Hp.row 51 1 (.slice (some ⟨g2, 0, none⟩) 1 1) 1 [.slice (some ⟨g1, 0, none⟩) 2 2], bun ((V1 g1).map rowC), Hp.blk fb (.cells #[.int .i64 2, .slice (some ⟨g2, 0, none⟩) 1 1] 24 (0, 0))]
theorem ql_hs {W : World} {g1 g2 fb : Nat} {Rs : List Res} (h : ∀ P ∈ QL g1 g2 fb, P ∈ Rs) : FormHs W Rs (some ⟨g2, 0, none⟩) 1 [.slice (some ⟨g1, 0, none⟩) 2 2] [[1, 2]] :=
  (under_hs (W := W) (Qs := [Hp.blk fb (.cells #[.int .i64 2, .slice (some ⟨g2, 0, none⟩) 1 1] 24 (0, 0))]) (OV := V1 g1) (oa := some ⟨g2, 0, none⟩) (oc := 1) (by simp [V1]) (by simp [V1])).more h
set_option maxHeartbeats 16000000 in
set_option maxRecDepth 100000 in
theorem awake_calls (w : World) : Calls Try.prog 10 #[] w fun e w' => e = .returned (.bool true) ∧ Fr [] w w' := by
  have hl1 : ∀ r ∈ ([[1, 2]] : List (List Int)), r.length ≤ 1000000 := by simp
  have h1 := has_many (Has.nil (Fr.refl [] w)) 3 [.int .i64 1, .int .i64 2] (by simp) (by simp)
  have h2 := has_many h1 51 [.slice (some ⟨w.heap.size, 0, none⟩) 2 2] (by simp) (by simp)
  have h3 := h2.newBlk (.cells #[.int .i64 2, .slice (some ⟨w.heap.size + 1, 0, none⟩) 1 1] 24 (0, 0))
  simp only [hp_alloc_size] at h3
  have h4 := h3.ord 3 [2, 1, 0]
  have H0 := Lib.hid (show Has w _ (QL (w.heap.size) (w.heap.size + 1) (w.heap.size + 1 + 1)) from (Has.rebun (Qs := (V1 w.heap.size).map rowC) h4).ord 3 [1, 0, 2])
  clear h1 h2 h3 h4
  go_enter Try.func10, Try.ntmps10
  go_wp2_with fail
  refine (First_calls H0.out (V := 2) (a := some ⟨w.heap.size + 1, 0, none⟩) (c := 1) (cs := [[1, 2]]) (ql_hs (g1 := w.heap.size) (g2 := w.heap.size + 1) (fb := w.heap.size + 1 + 1) fun P hP => hP).src hl1).mono ?_
  intro e w1 k1
  obtain ⟨a1, d1, rfl, h1⟩ := ex_first k1
  clear k1
  have H1 := Lib.hid h1
  obtain ⟨g1, hg1⟩ : ∃ b, w.heap.size = b := ⟨_, rfl⟩
  rw [hg1] at H1 ⊢
  obtain ⟨g2, hg2⟩ : ∃ b, g1 + 1 = b := ⟨_, rfl⟩
  rw [hg2] at H1 ⊢
  obtain ⟨fb, hfb⟩ : ∃ b, g2 + 1 = b := ⟨_, rfl⟩
  rw [hfb] at H1 ⊢
  clear h1 H0 hg1 hg2 hfb
  have hb := blk_mem H1.out (b := fb) (o := .cells #[.int .i64 2, .slice (some ⟨g2, 0, none⟩) 1 1] 24 (0, 0)) (by simp [QL])
  (try clear c0 c1 cl)
  have c0 : _ = some _ := heap_eq_cell hb 0
  have c1 : _ = some _ := heap_eq_cell hb 1
  have cl := lt_of_block hb
  clear hb
  go_wp2_with fail
  refine (All_calls H1.out (V := 2) (a := some ⟨g2, 0, none⟩) (c := 1) (cs := [[1, 2]]) (ql_hs (g1 := g1) (g2 := g2) (fb := fb) fun P hP => by simp [hP]).src hl1 (n := 2) (most := 3)).mono ?_
  intro e w2 k2
  obtain ⟨O2, a2, d2, hO2, rfl, h2⟩ := ex_all (L := [[false, true], [true, false], [true, true]]) (by decide) (by decide) (by decide) k2
  clear k2
  have H2 := Lib.hid h2
  have HO2 := Lib.hid hO2
  clear h2 H1 hO2
  have hb := blk_mem H2.out (b := fb) (o := .cells #[.int .i64 2, .slice (some ⟨g2, 0, none⟩) 1 1] 24 (0, 0)) (by simp [QL])
  (try clear c0 c1 cl)
  have c0 : _ = some _ := heap_eq_cell hb 0
  have c1 : _ = some _ := heap_eq_cell hb 1
  have cl := lt_of_block hb
  clear hb
  go_wp2_with fail
  refine (Count_calls H2.out (V := 2) (a := some ⟨g2, 0, none⟩) (c := 1) (cs := [[1, 2]]) (ql_hs (g1 := g1) (g2 := g2) (fb := fb) fun P hP => by simp [hP]).src hl1).mono ?_
  intro e w3 k3
  obtain ⟨N3, hN3⟩ : ∃ N : Nat, N = 3 := ⟨3, rfl⟩
  obtain ⟨a3, d3, rfl, h3⟩ := ex_count (N := N3) (by decide) (by rw [hN3]; decide) (by omega) k3
  have HN3 := Lib.hid hN3
  clear k3 hN3
  unfold bgv
  have H3 := Lib.hid h3
  clear h3 H2
  have hb := blk_mem H3.out (b := fb) (o := .cells #[.int .i64 2, .slice (some ⟨g2, 0, none⟩) 1 1] 24 (0, 0)) (by simp [QL])
  (try clear c0 c1 cl)
  have c0 : _ = some _ := heap_eq_cell hb 0
  have c1 : _ = some _ := heap_eq_cell hb 1
  have cl := lt_of_block hb
  clear hb
  have h4 := has_many (H3.out.newBlk (.cells #[.bool false, .slice a3 (zd (N3 : Int)).length d3] 41 (0, 0))) 4 [.bool false, .bool true] (by simp) (by simp)
  rw [hp_alloc_size] at h4
  have hbs : BoolsSrc w (Hp.row 4 1 (.slice (some ⟨w3.heap.size + 1, 0, none⟩) 2 2) 2 (bv [false, true]) :: Hp.blk w3.heap.size (.cells #[.bool false, .slice a3 (zd (N3 : Int)).length d3] 41 (0, 0)) :: natR N3 a3 d3 :: Hp.row 25 1 (.slice a2 [[false, true], [true, false], [true, true]].length d2) [[false, true], [true, false], [true, true]].length (O2.map (·.1)) :: bun (O2.map rowB) :: Hp.row 4 1 (.slice a1 2 d1) 2 (bv [false, true]) :: QL g1 g2 fb) (some ⟨w3.heap.size + 1, 0, none⟩) 2 [false, true] := BoolsSrc.row (n := 2) rfl (by simp)
  have HBS := Lib.hid hbs
  have H4 := Lib.hid (show Has w _ (Hp.row 4 1 (.slice (some ⟨w3.heap.size + 1, 0, none⟩) 2 2) 2 (bv [false, true]) :: Hp.blk w3.heap.size (.cells #[.bool false, .slice a3 (zd (N3 : Int)).length d3] 41 (0, 0)) :: natR N3 a3 d3 :: Hp.row 25 1 (.slice a2 [[false, true], [true, false], [true, true]].length d2) [[false, true], [true, false], [true, true]].length (O2.map (·.1)) :: bun (O2.map rowB) :: Hp.row 4 1 (.slice a1 2 d1) 2 (bv [false, true]) :: QL g1 g2 fb) from h4)
  clear h4 hbs
  have hl2 : ∀ u ∈ [Value.slice (some ⟨g1, 0, none⟩) 2 2], u.oneCell' = true := by simp [Value.oneCell']
  have HNX := Lib.hid (fun w' (hf : Fr [] _ w') => show Calls Try.prog 13 #[.agg #[.int .i64 2, .slice (some ⟨g2, 0, none⟩) 1 1], .int .i64 2, .slice (some ⟨w3.heap.size + 1, 0, none⟩) 2 2] w' (NxPost w _ 2 [[1, 2]] 2 [false, true]) from Next_calls (H4.out.step hf) (V := 2) (a := some ⟨g2, 0, none⟩) (c := 1) (cs := [[1, 2]]) (ql_hs (g1 := g1) (g2 := g2) (fb := fb) fun P hP => by simp [hP]) hl2 hl1 (n := 2) HBS.out (by simp) (by simp))
  go_wp2_with fail
  refine (HNX.out _ (by (repeat first | exact Fr.refl _ _ | assumption | apply Fr.n | apply Fr.d | apply Fr.a | refine Fr.s ?_ (.inr (by simp; try omega)) _))).mono ?_
  intro e w5 k5
  obtain ⟨a5, d5, Q5, rfl, h5, hs5⟩ := ex_next k5
  clear k5 HNX
  obtain ⟨nb, hnb⟩ : ∃ b, w3.heap.size = b := ⟨_, rfl⟩
  obtain ⟨nc, hnc⟩ : ∃ b, nb + 1 = b := ⟨_, rfl⟩
  rw [hnb, hnc] at h5 hs5
  rw [hnb, hnc]
  have H5 := Lib.hid h5
  have HS5 := Lib.hid hs5
  clear h5 hs5 H4 H3 HBS hnb hnc
  have hb := blk_mem H5.out (b := fb) (o := .cells #[.int .i64 2, .slice (some ⟨g2, 0, none⟩) 1 1] 24 (0, 0)) (by simp [QL])
  (try clear c0 c1 cl)
  have c0 : _ = some _ := heap_eq_cell hb 0
  have c1 : _ = some _ := heap_eq_cell hb 1
  have cl := lt_of_block hb
  clear hb
  go_wp2_with fail
  refine (All_calls H5.out (V := 2) (a := some ⟨g2, 0, none⟩) (c := 1) (cs := [[1, 2]]) (ql_hs (g1 := g1) (g2 := g2) (fb := fb) fun P hP => by simp [hP]).src hl1 (n := 1) (most := 2)).mono ?_
  intro e w6 k6
  obtain ⟨O6, a6, d6, hO6, rfl, h6⟩ := ex_all (L := [[false], [true]]) (by decide) (by decide) (by decide) k6
  clear k6
  have H6 := Lib.hid h6
  have HO6 := Lib.hid hO6
  clear h6 H5 hO6
  have hb := blk_mem H6.out (b := fb) (o := .cells #[.int .i64 2, .slice (some ⟨g2, 0, none⟩) 1 1] 24 (0, 0)) (by simp [QL])
  (try clear c0 c1 cl)
  have c0 : _ = some _ := heap_eq_cell hb 0
  have c1 : _ = some _ := heap_eq_cell hb 1
  have cl := lt_of_block hb
  clear hb
  go_wp2_with fail
  refine (All_calls H6.out (V := 2) (a := some ⟨g2, 0, none⟩) (c := 1) (cs := [[1, 2]]) (ql_hs (g1 := g1) (g2 := g2) (fb := fb) fun P hP => by simp [hP]).src hl1 (n := 2) (most := 2)).mono ?_
  intro e w7 k7
  obtain ⟨rfl, h7⟩ := ex_limit k7
  clear k7 H6 c0 c1 cl
  have h8 := has_many (has_many (has_many h7 3 [.int .i64 1] (by simp) (by simp)) 3 [.int .i64 (-1)] (by simp) (by simp)) 51 [.slice (some ⟨w7.heap.size, 0, none⟩) 1 1, .slice (some ⟨w7.heap.size + 1, 0, none⟩) 1 1] (by simp) (by simp)
  simp only [hp_alloc_size] at h8
  have h9 := (Has.rebun (Qs := ([(.slice (some ⟨w7.heap.size, 0, none⟩) 1 1, [1]), (.slice (some ⟨w7.heap.size + 1, 0, none⟩) 1 1, [-1])] : List (Value × List Int)).map rowC) (h8.ord 3 [2, 1, 0]))
  have H8 := Lib.hid (h9.ord 2 [1, 0])
  clear h7 h8 h9
  have HFG := Lib.hid (fun w' (hf : Fr [] _ w') => show Calls Try.prog 11 #[.agg #[.int .i64 1, .slice (some ⟨w7.heap.size + 1 + 1, 0, none⟩) 2 2]] w' (FirstPost w _ 1 [[1], [-1]]) from First_calls (H8.out.step hf) (V := 1) (a := some ⟨w7.heap.size + 1 + 1, 0, none⟩) (c := 2) (cs := [[1], [-1]]) (under_src (OV := [(.slice (some ⟨w7.heap.size, 0, none⟩) 1 1, [1]), (.slice (some ⟨w7.heap.size + 1, 0, none⟩) 1 1, [-1])]) (oa := some ⟨w7.heap.size + 1 + 1, 0, none⟩) (oc := 2) (by simp) (by simp)) (by simp))
  go_wp2_with fail
  refine (HFG.out _ (by (repeat first | exact Fr.refl _ _ | assumption | apply Fr.n | apply Fr.d | apply Fr.a | refine Fr.s ?_ (.inr (by simp; try omega)) _))).mono ?_
  intro e w9 k9
  obtain ⟨rfl, h9⟩ := ex_none k9
  clear k9 HFG
  have H9 := Lib.hid h9.drop.drop
  clear h9 H8
  have HCG := Lib.hid (fun w' (hf : Fr [] _ w') => show Calls Try.prog 20 #[.agg #[.int .i64 3, .slice none 0 0]] w' (CountPost w _ 3 []) from Count_calls (H9.out.step hf) (V := 3) (a := none) (c := 0) (cs := []) (fun w' Qs hw _ => ⟨⟨[], ⟨rfl, none, 0, rfl, fun h => absurd h (by simp)⟩, fun i r hi => by simp at hi⟩, by simp, by simp⟩) (by simp))
  go_wp2_with fail
  refine (HCG.out _ (by (repeat first | exact Fr.refl _ _ | assumption | apply Fr.n | apply Fr.d | apply Fr.a | refine Fr.s ?_ (.inr (by simp; try omega)) _))).mono ?_
  intro e w10 k10
  obtain ⟨N8, hN8⟩ : ∃ N : Nat, N = 8 := ⟨8, rfl⟩
  obtain ⟨a10, d10, rfl, h10⟩ := ex_count (N := N8) (by decide) (by rw [hN8]; decide) (by omega) k10
  have HN8 := Lib.hid hN8
  unfold bgv
  have H10 := Lib.hid (h10.newBlk (.cells #[.bool false, .slice a10 (zd (N8 : Int)).length d10] 41 (0, 0)))
  clear k10 hN8 h10 H9 HCG
  go_wp2
  obtain ⟨tb, htb⟩ : ∃ b, w10.heap.size = b := ⟨_, rfl⟩
  rw [htb] at H10 ⊢
  refine abs_world (fun w' => Has w w' (Hp.blk tb (.cells #[.bool false, .slice a10 (zd (N8 : Int)).length d10] 41 (0, 0)) :: natR N8 a10 d10 :: Hp.row 25 1 (.slice a6 [[false], [true]].length d6) [[false], [true]].length (O6.map (·.1)) :: bun (O6.map rowB) :: (Q5 ++ (Hp.row 4 1 (.slice (some ⟨nc, 0, none⟩) 2 2) 2 (bv [false, true]) :: Hp.blk nb (.cells #[.bool false, .slice a3 (zd (N3 : Int)).length d3] 41 (0, 0)) :: natR N3 a3 d3 :: Hp.row 25 1 (.slice a2 [[false, true], [true, false], [true, true]].length d2) [[false, true], [true, false], [true, true]].length (O2.map (·.1)) :: bun (O2.map rowB) :: Hp.row 4 1 (.slice a1 2 d1) 2 (bv [false, true]) :: QL g1 g2 fb)))) H10.out ?_
  clear H10 htb
  intro wz hz
  have HB1 := Lib.hid (fun w' (hf : Fr [] wz w') => row_mem (a := a1) (c := d1) (n := 2) (l := [false, true]) rfl (hz.step hf) (by simp))
  have HB2 := Lib.hid (fun w' (hf : Fr [] wz w') => rows_mem (oa := a2) (oc := d2) HO2.out (hz.step hf) (by simp) (by simp))
  have HB5 := Lib.hid (fun w' (hf : Fr [] wz w') => (HS5.out _ _ (hz.step hf) (fun P hP => List.mem_cons_of_mem _ (List.mem_cons_of_mem _ (List.mem_cons_of_mem _ (List.mem_cons_of_mem _ hP))))).1)
  have HB6 := Lib.hid (fun w' (hf : Fr [] wz w') => rows_mem (oa := a6) (oc := d6) HO6.out (hz.step hf) (by simp) (by simp))
  have HN3Z := Lib.hid (fun w' (hf : Fr [] wz w') => nat_mem (v := N3) (a := a3) (c := d3) (hz.step hf) (by simp))
  have HN8Z := Lib.hid (fun w' (hf : Fr [] wz w') => nat_mem (v := N8) (a := a10) (c := d10) (hz.step hf) (by simp))
  have hb := blk_mem hz (b := nb) (o := .cells #[.bool false, .slice a3 (zd (N3 : Int)).length d3] 41 (0, 0)) (by simp)
  have n0 : wz.cell? ⟨nb, 0, none⟩ = some (.bool false) := heap_eq_cell hb 0
  have n1 : wz.cell? ⟨nb, 1, none⟩ = some (.slice a3 (zd (N3 : Int)).length d3) := heap_eq_cell hb 1
  have nl := lt_of_block hb
  have hb := blk_mem hz (b := tb) (o := .cells #[.bool false, .slice a10 (zd (N8 : Int)).length d10] 41 (0, 0)) (by simp)
  have t0 : wz.cell? ⟨tb, 0, none⟩ = some (.bool false) := heap_eq_cell hb 0
  have t1 : wz.cell? ⟨tb, 1, none⟩ = some (.slice a10 (zd (N8 : Int)).length d10) := heap_eq_cell hb 1
  have tl := lt_of_block hb
  have HZ := Lib.hid hz
  have ne0 := World.new_ne wz _ n0
  have ne1 := World.new_ne wz _ t0
  have HF3 := Lib.hid (fun w' => show Calls Try.prog 24 #[.int .i64 3] w' (fun e w'' => ∃ a c, e = .returned (.agg #[.bool false, .slice a (zd (N3 : Int)).length c]) ∧ BigZ w'' (fun _ => True) (.agg #[.bool false, .slice a (zd (N3 : Int)).length c]) (N3 : Int) ∧ Fr [] w' w'') from by
    rw [show (3 : Int) = (N3 : Int) from by rw [HN3.out]; rfl]
    exact (RFrom_n (Has.nil (Fr.refl [] w')) (x := N3) (by rw [HN3.out]; omega)).mono fun e w'' ⟨a, c, he, h⟩ => ⟨a, c, he, nat_mem h (by simp), h.fr⟩)
  have HF8 := Lib.hid (fun w' => show Calls Try.prog 24 #[.int .i64 8] w' (fun e w'' => ∃ a c, e = .returned (.agg #[.bool false, .slice a (zd (N8 : Int)).length c]) ∧ BigZ w'' (fun _ => True) (.agg #[.bool false, .slice a (zd (N8 : Int)).length c]) (N8 : Int) ∧ Fr [] w' w'') from by
    rw [show (8 : Int) = (N8 : Int) from by rw [HN8.out]; rfl]
    exact (RFrom_n (Has.nil (Fr.refl [] w')) (x := N8) (by rw [HN8.out]; omega)).mono fun e w'' ⟨a, c, he, h⟩ => ⟨a, c, he, nat_mem h (by simp), h.fr⟩)
  have HC3 := Lib.hid (fun w' aC dC (hf : Fr [] wz w') (hz : BigZ w' (fun _ => True) (.agg #[.bool false, .slice aC (zd (N3 : Int)).length dC]) (N3 : Int)) => show Calls Try.prog 22 #[.agg #[.bool false, .slice a3 (zd (N3 : Int)).length d3], .agg #[.bool false, .slice aC (zd (N3 : Int)).length dC]] w' (fun e w'' => e = .returned (.int .i64 0) ∧ Fr [] w' w'') from
    (RCompare_n (HN3Z.out _ hf) hz (zok_int (by rw [HN3.out]; omega) (by rw [HN3.out]; omega)) (zok_int (by rw [HN3.out]; omega) (by rw [HN3.out]; omega))).mono fun e w'' ⟨he, hf⟩ => ⟨by rw [he]; unfold cmpI; simp, hf⟩)
  have HC8 := Lib.hid (fun w' aC dC (hf : Fr [] wz w') (hz : BigZ w' (fun _ => True) (.agg #[.bool false, .slice aC (zd (N8 : Int)).length dC]) (N8 : Int)) => show Calls Try.prog 22 #[.agg #[.bool false, .slice a10 (zd (N8 : Int)).length d10], .agg #[.bool false, .slice aC (zd (N8 : Int)).length dC]] w' (fun e w'' => e = .returned (.int .i64 0) ∧ Fr [] w' w'') from
    (RCompare_n (HN8Z.out _ hf) hz (zok_int (by rw [HN8.out]; omega) (by rw [HN8.out]; omega)) (zok_int (by rw [HN8.out]; omega) (by rw [HN8.out]; omega))).mono fun e w'' ⟨he, hf⟩ => ⟨by rw [he]; unfold cmpI; simp, hf⟩)
  clear hb hz
  refine wp_region_alts [[16, 17, 18], [50, 51]] [([[0, 1, 2, 3, 4, 5, 6, 7, 8, 9, 10, 11, 12, 13, 14, 15]], []), ([[16, 17, 18, 19, 20], [16, 18, 17, 19, 20], [17, 16, 18, 19, 20], [17, 18, 16, 19, 20], [18, 16, 17, 19, 20], [18, 17, 16, 19, 20]], []), ([[21, 22, 23, 24, 25, 26, 27, 28]], [27]), ([[29, 30, 31, 32, 33, 34, 35, 36, 37, 38, 39, 40, 41, 42, 43, 44, 45, 46, 47, 48, 49]], []), ([[50, 51, 52, 53], [51, 50, 52, 53]], []), ([[54, 55, 56, 57, 58, 59, 60, 61, 62, 63, 64, 65, 66, 67, 68, 69, 70, 71, 72, 73]], [72]), ([[74, 75, 76, 77]], [])] (by kernel_rfl) (by kernel_rfl) ?_
  refine alts_step fun K hK => ?_
  have K1 := Lib.hid hK
  clear hK
  (simp only [allW, pick, Array.getD_eq_getD_getElem?, List.getElem?_toArray, List.getElem?_cons_succ, List.getElem?_cons_zero, Option.getD_some])
  go_wp2_with fail
  refine (ex_bools2 (HB1.out _ (by (repeat first | exact Fr.refl _ _ | assumption | apply Fr.n | apply Fr.d | apply Fr.a | refine Fr.s ?_ (.inr (by simp; try omega)) _))) (bools2 (T := 4) (by (repeat first | rw [if_pos (by omega)] | rw [if_neg (by omega)] | rw [hp_drew] | rw [hp_drewN] | rw [hp_alloc_size] | rw [hp_setCell_size] | rw [hp_alloc] | rw [hp_setCell] | rw [oMS] | rw [upd_cells] | rw [lSZ] | rw [lSS] | rfl)))).mono ?_
  rintro e wA ⟨rfl, hfA⟩
  have HA := Lib.hid (show Fr [] wz wA from Fr.trans0 (by (repeat first | exact Fr.refl _ _ | assumption | apply Fr.n | apply Fr.d | apply Fr.a | refine Fr.s ?_ (.inr (by simp; try omega)) _)) hfA)
  clear hfA
  go_wp2
  refine Mid.intro (K1.out _ _ trivial ?_)
  refine alts_step fun K hK => ?_
  have K2 := Lib.hid hK
  clear hK
  (simp only [allW, pick, Array.getD_eq_getD_getElem?, List.getElem?_toArray, List.getElem?_cons_succ, List.getElem?_cons_zero, Option.getD_some])
  clear K1
  apply cut_in
  · intro TAIL
    refine ⟨?_, ?_, ?_, ?_, ?_, ?_⟩
    ·
      go_wp2_with fail
      refine Calls.mono (ex_lists3 (HB2.out _ (HA.out.trans0 (by (repeat first | exact Fr.refl _ _ | assumption | apply Fr.n | apply Fr.d | apply Fr.a | refine Fr.s ?_ (.inr (by simp; try omega)) _)))) (by apply brows3 (T := 25) (U := 4) <;> (repeat first | rw [if_pos (by omega)] | rw [if_neg (by omega)] | rw [hp_drew] | rw [hp_drewN] | rw [hp_alloc_size] | rw [hp_setCell_size] | rw [hp_alloc] | rw [hp_setCell] | rw [oMS] | rw [upd_cells] | rw [lSZ] | rw [lSS] | rfl))) ?_
      rintro e wB ⟨rfl, hfB⟩
      have hrB : Fr [] wz wB := HA.out.trans0 (Fr.trans0 (by (repeat first | exact Fr.refl _ _ | assumption | apply Fr.n | apply Fr.d | apply Fr.a | refine Fr.s ?_ (.inr (by simp; try omega)) _)) hfB)
      clear hfB
      go_wp2

      generalize wA.heap.size + 1 + 1 + 1 = b3
      generalize wA.heap.size + 1 + 1 = b2
      generalize wA.heap.size + 1 = b1
      generalize wA.heap.size = b0
      revert b0 b1 b2 b3 wB
      exact TAIL.out
    all_goals
      go_wp2_with fail
      refine Calls.mono (ex_lists3 (HB2.out _ (HA.out.trans0 (by (repeat first | exact Fr.refl _ _ | assumption | apply Fr.n | apply Fr.d | apply Fr.a | refine Fr.s ?_ (.inr (by simp; try omega)) _)))) (by apply brows3 (T := 25) (U := 4) <;> (repeat first | rw [if_pos (by omega)] | rw [if_neg (by omega)] | rw [hp_drew] | rw [hp_drewN] | rw [hp_alloc_size] | rw [hp_setCell_size] | rw [hp_alloc] | rw [hp_setCell] | rw [oMS] | rw [upd_cells] | rw [lSZ] | rw [lSS] | rfl))) ?_
      rintro e wB ⟨rfl, hfB⟩
      have hrB : Fr [] wz wB := HA.out.trans0 (Fr.trans0 (by (repeat first | exact Fr.refl _ _ | assumption | apply Fr.n | apply Fr.d | apply Fr.a | refine Fr.s ?_ (.inr (by simp; try omega)) _)) hfB)
      clear hfB
      go_wp2
      exact TAIL.out _ hrB _ _ _ _
  intro wB hrB b3 b2 b1 b0
  refine Mid.intro (K2.out _ _ trivial ?_)
  have kB0 := (hrB.cell (p := ⟨nb, 0, none⟩) nl (by simp)).trans n0
  have kB1 := (hrB.cell (p := ⟨nb, 1, none⟩) nl (by simp)).trans n1
  have HB := Lib.hid hrB
  clear hrB K2 HA
  refine alts_step fun K hK => ?_
  have K3 := Lib.hid hK
  clear hK
  (simp only [allW, pick, Array.getD_eq_getD_getElem?, List.getElem?_toArray, List.getElem?_cons_succ, List.getElem?_cons_zero, Option.getD_some])
  go_wp2_with fail
  refine (HF3.out _).mono ?_
  rintro e wC ⟨aC, dC, rfl, zC, hfC⟩
  have KC := Lib.hid zC
  have hrC : Fr [] wz wC := HB.out.trans0 (Fr.trans0 (by (repeat first | exact Fr.refl _ _ | assumption | apply Fr.n | apply Fr.d | apply Fr.a | refine Fr.s ?_ (.inr (by simp; try omega)) _)) hfC)
  have kC0 := (hrC.cell (p := ⟨nb, 0, none⟩) nl (by simp)).trans n0
  have kC1 := (hrC.cell (p := ⟨nb, 1, none⟩) nl (by simp)).trans n1
  have HC := Lib.hid hrC
  have HCB := Lib.hid (show wC.rangeAt nb 0 [.bool false, .slice a3 (zd (N3 : Int)).length d3] from fun j v hj => by
    have : j = 0 ∨ j = 1 ∨ 2 ≤ j := by omega
    rcases this with rfl | rfl | h2
    · cases hj; exact kC0
    · cases hj; exact kC1
    · rw [List.getElem?_eq_none (by simpa using h2)] at hj; cases hj)
  clear zC hfC hrC HB kB0 kB1
  go_wp2
  refine Mid.intro (K3.out _ _ ⟨again_row (T := 41) (cs := [.bool false, .slice a3 (zd (N3 : Int)).length d3]) rfl rfl rfl Try.underlying41 rfl (by kernel_rfl) HCB.out rfl, trivial⟩ ?_)
  clear K3 HCB
  refine alts_step fun K hK => ?_
  have K4 := Lib.hid hK
  clear hK
  (simp only [allW, pick, Array.getD_eq_getD_getElem?, List.getElem?_toArray, List.getElem?_cons_succ, List.getElem?_cons_zero, Option.getD_some])
  go_wp2_with fail
  refine (HC3.out _ aC dC (HC.out.trans0 (by (repeat first | exact Fr.refl _ _ | assumption | apply Fr.n | apply Fr.d | apply Fr.a | refine Fr.s ?_ (.inr (by simp; try omega)) _))) (KC.out.fr0 (by (repeat first | exact Fr.refl _ _ | assumption | apply Fr.n | apply Fr.d | apply Fr.a | refine Fr.s ?_ (.inr (by simp; try omega)) _)))).mono ?_
  rintro e wD ⟨rfl, hfD⟩
  have hrD : Fr [] wz wD := HC.out.trans0 (Fr.trans0 (by (repeat first | exact Fr.refl _ _ | assumption | apply Fr.n | apply Fr.d | apply Fr.a | refine Fr.s ?_ (.inr (by simp; try omega)) _)) hfD)
  have HD := Lib.hid hrD
  clear hfD hrD HC KC kC0 kC1
  go_wp2_with fail
  refine (ex_bools2 (HB5.out _ (HD.out.trans0 (by (repeat first | exact Fr.refl _ _ | assumption | apply Fr.n | apply Fr.d | apply Fr.a | refine Fr.s ?_ (.inr (by simp; try omega)) _)))) (bools2 (T := 4) (by (repeat first | rw [if_pos (by omega)] | rw [if_neg (by omega)] | rw [hp_drew] | rw [hp_drewN] | rw [hp_alloc_size] | rw [hp_setCell_size] | rw [hp_alloc] | rw [hp_setCell] | rw [oMS] | rw [upd_cells] | rw [lSZ] | rw [lSS] | rfl)))).mono ?_
  rintro e wE ⟨rfl, hfE⟩
  have HE := Lib.hid (show Fr [] wz wE from HD.out.trans0 (Fr.trans0 (by (repeat first | exact Fr.refl _ _ | assumption | apply Fr.n | apply Fr.d | apply Fr.a | refine Fr.s ?_ (.inr (by simp; try omega)) _)) hfE))
  clear hfE HD
  go_wp2
  refine Mid.intro (K4.out _ _ trivial ?_)
  refine alts_step fun K hK => ?_
  have K5 := Lib.hid hK
  clear hK
  (simp only [allW, pick, Array.getD_eq_getD_getElem?, List.getElem?_toArray, List.getElem?_cons_succ, List.getElem?_cons_zero, Option.getD_some])
  clear K4
  apply cut_in
  · intro TAIL
    refine ⟨?_, ?_⟩
    ·
      go_wp2_with fail
      refine Calls.mono (ex_lists2 (HB6.out _ (HE.out.trans0 (by (repeat first | exact Fr.refl _ _ | assumption | apply Fr.n | apply Fr.d | apply Fr.a | refine Fr.s ?_ (.inr (by simp; try omega)) _)))) (by apply brows2 (T := 25) (U := 4) <;> (repeat first | rw [if_pos (by omega)] | rw [if_neg (by omega)] | rw [hp_drew] | rw [hp_drewN] | rw [hp_alloc_size] | rw [hp_setCell_size] | rw [hp_alloc] | rw [hp_setCell] | rw [oMS] | rw [upd_cells] | rw [lSZ] | rw [lSS] | rfl))) ?_
      rintro e wF ⟨rfl, hfF⟩
      have hrF : Fr [] wz wF := HE.out.trans0 (Fr.trans0 (by (repeat first | exact Fr.refl _ _ | assumption | apply Fr.n | apply Fr.d | apply Fr.a | refine Fr.s ?_ (.inr (by simp; try omega)) _)) hfF)
      clear hfF
      go_wp2
      generalize wE.heap.size + 1 + 1 = e3
      generalize wE.heap.size + 1 = e2
      generalize wE.heap.size = e1
      revert e1 e2 e3 wF
      exact TAIL.out
    ·
      go_wp2_with fail
      refine Calls.mono (ex_lists2 (HB6.out _ (HE.out.trans0 (by (repeat first | exact Fr.refl _ _ | assumption | apply Fr.n | apply Fr.d | apply Fr.a | refine Fr.s ?_ (.inr (by simp; try omega)) _)))) (by apply brows2 (T := 25) (U := 4) <;> (repeat first | rw [if_pos (by omega)] | rw [if_neg (by omega)] | rw [hp_drew] | rw [hp_drewN] | rw [hp_alloc_size] | rw [hp_setCell_size] | rw [hp_alloc] | rw [hp_setCell] | rw [oMS] | rw [upd_cells] | rw [lSZ] | rw [lSS] | rfl))) ?_
      rintro e wF ⟨rfl, hfF⟩
      have hrF : Fr [] wz wF := HE.out.trans0 (Fr.trans0 (by (repeat first | exact Fr.refl _ _ | assumption | apply Fr.n | apply Fr.d | apply Fr.a | refine Fr.s ?_ (.inr (by simp; try omega)) _)) hfF)
      clear hfF
      go_wp2
      exact TAIL.out _ hrF _ _ _
  intro wF hrF e3 e2 e1
  refine Mid.intro (K5.out _ _ trivial ?_)
  have kF2 := (hrF.cell (p := ⟨tb, 0, none⟩) tl (by simp)).trans t0
  have kF3 := (hrF.cell (p := ⟨tb, 1, none⟩) tl (by simp)).trans t1
  have HF := Lib.hid hrF
  clear hrF K5 HE
  refine alts_step fun K hK => ?_
  have K6 := Lib.hid hK
  clear hK
  (simp only [allW, pick, Array.getD_eq_getD_getElem?, List.getElem?_toArray, List.getElem?_cons_succ, List.getElem?_cons_zero, Option.getD_some])
  go_wp2_with fail
  refine (HF8.out _).mono ?_
  rintro e wG ⟨aG, dG, rfl, zG, hfG⟩
  have KG := Lib.hid zG
  have hrG : Fr [] wz wG := HF.out.trans0 (Fr.trans0 (by (repeat first | exact Fr.refl _ _ | assumption | apply Fr.n | apply Fr.d | apply Fr.a | refine Fr.s ?_ (.inr (by simp; try omega)) _)) hfG)
  have kG2 := (hrG.cell (p := ⟨tb, 0, none⟩) tl (by simp)).trans t0
  have kG3 := (hrG.cell (p := ⟨tb, 1, none⟩) tl (by simp)).trans t1
  have HG := Lib.hid hrG
  have HGB := Lib.hid (show wG.rangeAt tb 0 [.bool false, .slice a10 (zd (N8 : Int)).length d10] from fun j v hj => by
    have : j = 0 ∨ j = 1 ∨ 2 ≤ j := by omega
    rcases this with rfl | rfl | h2
    · cases hj; exact kG2
    · cases hj; exact kG3
    · rw [List.getElem?_eq_none (by simpa using h2)] at hj; cases hj)
  clear zG hfG hrG HF kF2 kF3
  go_wp2
  refine Mid.intro (K6.out _ _ ⟨again_row (T := 41) (cs := [.bool false, .slice a10 (zd (N8 : Int)).length d10]) rfl rfl rfl Try.underlying41 rfl (by kernel_rfl) HGB.out rfl, trivial⟩ ?_)
  clear K6 HGB
  refine alts_step fun K hK => ?_
  have K7 := Lib.hid hK
  clear hK
  (simp only [allW, pick, Array.getD_eq_getD_getElem?, List.getElem?_toArray, List.getElem?_cons_succ, List.getElem?_cons_zero, Option.getD_some])
  go_wp2_with fail
  refine (HC8.out _ aG dG (HG.out.trans0 (by (repeat first | exact Fr.refl _ _ | assumption | apply Fr.n | apply Fr.d | apply Fr.a | refine Fr.s ?_ (.inr (by simp; try omega)) _))) (KG.out.fr0 (by (repeat first | exact Fr.refl _ _ | assumption | apply Fr.n | apply Fr.d | apply Fr.a | refine Fr.s ?_ (.inr (by simp; try omega)) _)))).mono ?_
  rintro e wH ⟨rfl, hfH⟩
  have hrH : Fr [] wz wH := HG.out.trans0 (Fr.trans0 (by (repeat first | exact Fr.refl _ _ | assumption | apply Fr.n | apply Fr.d | apply Fr.a | refine Fr.s ?_ (.inr (by simp; try omega)) _)) hfH)
  clear hfH
  have HH := Lib.hid hrH
  clear hrH HG KG kG2 kG3
  go_wp2
  refine Mid.intro (K7.out _ _ trivial (alts_end rfl ?_))
  go_wp2
  go_ret
  exact ⟨rfl, HZ.out.fr.trans0 (HH.out.trans0 (by (repeat first | exact Fr.refl _ _ | assumption | apply Fr.n | apply Fr.d | apply Fr.a | refine Fr.s ?_ (.inr (by simp; try omega)) _)))⟩
end Go.Proofs.Ytjidldfnlejdhaa
end
