/- Own texts of this claim, part 15: no condition. -/
import Derived.Test.YtbpaadpocihahaaZM11
import Derived.Test.YtbpaadpocihahaaZM13
section
/- Law 43: the examples. -/
namespace Go.Proofs.Ytbpaadpocihahaa
open Go Go.RowKit Go.Proofs.Rg Go.Proofs.Mp Go.Proofs.Hp Go.Proofs.Sv Go.Proofs.Rp
set_option linter.unusedVariables false
set_option linter.unusedSimpArgs false
def F4 : List (List Int) := [[1, 2], [-1, 2], [1, -2], [-1, -2]]
def s2 (g n : Nat) : Value := .slice (some ⟨g, 0, none⟩) n n
def V4 (g1 g2 g3 g4 : Nat) : List (Value × List Int) := [(s2 g1 2, [1, 2]), (s2 g2 2, [-1, 2]), (s2 g3 2, [1, -2]), (s2 g4 2, [-1, -2])]
def QF (g1 g2 g3 g4 go fb : Nat) : List Res := [Hp.row 25 1 (.slice (some ⟨go, 0, none⟩) 4 4) 4 ((V4 g1 g2 g3 g4).map (·.1)), bun ((V4 g1 g2 g3 g4).map rowC), Hp.blk fb (.cells #[.int .i64 2, .slice (some ⟨go, 0, none⟩) 4 4] 24 (0, 0))]
theorem qf_hs {W : World} {g1 g2 g3 g4 go fb : Nat} {Rs : List Res} (h : ∀ P ∈ QF g1 g2 g3 g4 go fb, P ∈ Rs) : FormHs W Rs (some ⟨go, 0, none⟩) 4 ((V4 g1 g2 g3 g4).map (·.1)) F4 :=
  (under_hs (W := W) (Qs := [Hp.blk fb (.cells #[.int .i64 2, .slice (some ⟨go, 0, none⟩) 4 4] 24 (0, 0))]) (OV := V4 g1 g2 g3 g4) (oa := some ⟨go, 0, none⟩) (oc := 4) (by simp [V4]) (by simp [V4])).more h
theorem blk_mem {W w : World} {Ps : List Res} {b : Nat} {o : Obj} (h : Has W w Ps) (hm : Hp.blk b o ∈ Ps) : w.heap[b]? = some o := by
  obtain ⟨q1, q2, rfl⟩ := List.append_of_mem hm
  exact (h.perm List.perm_middle).blk
theorem row_src {W : World} {Ps : List Res} {a : Option Addr} {c : Nat} {l : List Int} (hm : Hp.row 3 1 (.slice a l.length c) l.length (iv l) ∈ Ps) : IntsSrc W Ps a c l := fun w' Qs hw hP => by
  obtain ⟨Q, h1⟩ := has_mem hw (hP _ hm)
  exact h1.rowReads
theorem ex_step {W w' : World} {Ps : List Res} {V : Int} {cs : List (List Int)} {r : List Int} {e : Ending} (h1 : stepB V cs r = true) (h2 : stepE V cs r = 0) (h : StepPost W Ps V cs r e w') : e = .returned (.tuple #[.bool true, .int .i64 0]) ∧ Has W w' Ps := by
  obtain ⟨he, h⟩ := h
  rw [h1, h2] at he
  exact ⟨he, h⟩
theorem len4 : ∀ r ∈ F4, r.length ≤ 1000000 := by simp [F4]
theorem ex_num {n : Nat} {k : Int} {e : Ending} {W w' : World} {Ps : List Res} {V : Int} {cs p : List (List Int)} (h1 : chkNV V cs p = n) (h2 : chkEV V cs p = k) (h : CheckVPost W Ps V cs p e w') : e = .returned (.tuple #[.int .i64 (n : Int), .int .i64 k]) ∧ Has W w' Ps := by
  obtain ⟨he, h⟩ := h
  rw [h1, h2] at he
  exact ⟨he, h⟩
theorem ex_prove {W w' : World} {Ps : List Res} {V : Int} {cs : List (List Int)} {e : Ending} (hr : rightF V cs = true) (ha : validB V cs [[2], []] = true ∧ accB cs [[2], []] = true) (h : ProvePost W Ps V cs e w') :
    ∃ (PV : List (Value × List Int)) (va : Option Addr) (vc : Nat), accB cs (PV.map (·.2)) = true ∧ LitsLV V.toNat PV ∧ PV.length ≤ 2 ^ (V.toNat + 1) ∧ e = .returned (.tuple #[.slice va PV.length vc, .int .i64 0]) ∧
    Has W w' (Hp.row 25 1 (.slice va PV.length vc) PV.length (PV.map (·.1)) :: bun (PV.map rowC) :: Ps) := by
  rcases h with ⟨h, _⟩ | ⟨_, ⟨A, h⟩, _⟩ | ⟨_, h⟩
  · rw [hr] at h; cases h
  · rw [acc_sound (right_noz hr) (right_noz (validB_one ha.1).2) ha.2] at h; cases h
  · exact h
theorem ex_prove_none {W w' : World} {Ps : List Res} {e : Ending} (h : ProvePost W Ps 1 [] e w') : e = .returned (.tuple #[.slice none 0 0, .int .i64 13]) ∧ Has W w' Ps := by
  rcases h with ⟨h, _⟩ | ⟨_, _, h⟩ | ⟨_, PV, va, vc, h, hlv, _⟩
  · exact absurd h (by decide)
  · exact h
  · have := acc_sound (A := []) (by intro C hC; cases hC) (fun C hC x hx => by
      obtain ⟨q, hq, rfl⟩ := List.mem_map.1 hC
      exact ((hlv q hq).2 x hx).1) h
    cases this
theorem lits_valid {cs : List (List Int)} {PV : List (Value × List Int)} (hr : rightF 2 cs = true) (hlv : LitsLV (2 : Int).toNat PV) (hlen : PV.length ≤ 2 ^ ((2 : Int).toNat + 1)) : validB 2 cs (PV.map (·.2)) = true := by
  unfold validB
  rw [hr, Bool.true_and]
  have h2 : 2 ^ ((2 : Int).toNat + 1) = 8 := by decide
  have h3 : (2 : Int).toNat = 2 := rfl
  unfold rightF
  simp only [Bool.and_eq_true, Bool.not_eq_true', Bool.or_eq_false_iff, decide_eq_false_iff_not, List.all_eq_true, List.length_map]
  refine ⟨⟨⟨by omega, by omega⟩, by omega⟩, fun c hc x hx => ?_⟩
  obtain ⟨q, hq, rfl⟩ := List.mem_map.1 hc
  have := (hlv q hq).2 x hx
  unfold okLit
  simp
  omega
theorem under_n {W : World} {Qs : List Res} {OV : List (Value × List Int)} {oa : Option Addr} {oc n V : Nat} (hn : OV.length = n) (h8 : n ≤ 8) (hlv : LitsLV V OV) (hV : V ≤ 10) :
    FormHs W (Hp.row 25 1 (.slice oa n oc) n (OV.map (·.1)) :: bun (OV.map rowC) :: Qs) oa oc (OV.map (·.1)) (OV.map (·.2)) := by
  subst hn
  exact under_hs (fun q hq => by have := (hlv q hq).1; omega) (by omega)
theorem form_nil {W : World} {Ps : List Res} {vs : List Value} (h : vs = [] := by rfl) : FormHs W Ps none 0 vs [] := by
  subst h
  exact ⟨fun w Qs' hw _ => ⟨⟨rfl, none, 0, rfl, fun h => absurd h (by simp)⟩, fun i r hi => by simp at hi⟩, by simp, by simp⟩
def T3 (g : Nat) : List (Value × List Int) := [(s2 g 1, [1]), (s2 (g + 1) 1, [2]), (s2 (g + 1 + 1) 0, [])]
def C3 (g : Nat) : List (Value × List Int) := [(s2 g 1, [1]), (s2 (g + 1) 1, [2]), (s2 (g + 1 + 1) 1, [-1])]
def U2 (g : Nat) : List (Value × List Int) := [(s2 g 1, [1]), (s2 (g + 1) 0, [])]
def E1 (g : Nat) : List (Value × List Int) := [(s2 g 0, [])]
theorem ex_trim {W w' : World} {Ps : List Res} {V : Int} {cs p L : List (List Int)} {n : Nat} {e : Ending} (h1 : trimEV V cs p = 0) (h2 : trimLV V cs p = L) (hn : L.length = n) (hl : n ≤ 1000000) (hL : ∀ r ∈ L, r.length ≤ 1000000) (h : TrimPost W Ps (trimEV V cs p) (trimLV V cs p) e w') :
    ∃ (vs : List Value) (va : Option Addr) (vc : Nat) (PT : List Res), FormHs W PT va vc vs L ∧ e = .returned (.tuple #[.slice va n vc, .int .i64 0]) ∧ Has W w' PT := by
  rw [h1, h2] at h
  obtain ⟨PV, va, vc, rfl, h3, h4, h5⟩ := h
  rw [List.length_map] at hn
  rw [hn] at h4 h5
  exact ⟨_, va, vc, _, h3.form hn hl (fun q hq => hL _ (List.mem_map_of_mem hq)) (List.mem_cons_self ..) (fun P hP => List.mem_cons_of_mem _ hP), h4, h5⟩
theorem ex_core {W w' : World} {Ps : List Res} {V : Int} {cs p : List (List Int)} {L : List Nat} {e : Ending} (h1 : coreEV V cs p = 0) (h2 : coreLV V cs p = L) (h : CorePost W Ps (coreEV V cs p) (coreLV V cs p) e w') :
    ∃ va vc, e = .returned (.tuple #[.slice va L.length vc, .int .i64 0]) ∧ Has W w' (Hp.row 3 1 (.slice va L.length vc) L.length (nv L) :: Ps) := by
  rw [h1, h2] at h
  exact h
set_option maxHeartbeats 16000000 in
set_option maxRecDepth 100000 in
theorem awake_calls : AwakeOk := by
  intro w
  have h1 := has_many (Has.nil (Fr.refl [] w)) 3 [.int .i64 1, .int .i64 2] (by simp) (by simp)
  have h2 := has_many h1 3 [.int .i64 (-1), .int .i64 2] (by simp) (by simp)
  have h3 := has_many h2 3 [.int .i64 1, .int .i64 (-2)] (by simp) (by simp)
  have h4 := has_many h3 3 [.int .i64 (-1), .int .i64 (-2)] (by simp) (by simp)
  have h5 := has_many h4 25 [s2 w.heap.size 2, s2 (w.heap.size + 1) 2, s2 (w.heap.size + 1 + 1) 2, s2 (w.heap.size + 1 + 1 + 1) 2] (by simp) (by simp)
  have h6 := h5.newBlk (.cells #[.int .i64 2, .slice (some ⟨w.heap.size + 1 + 1 + 1 + 1, 0, none⟩) 4 4] 24 (0, 0))
  simp only [hp_alloc_size] at h6
  have h7 := h6.ord 6 [5, 4, 3, 2, 1, 0]
  have h8 : Has w _ (QF w.heap.size (w.heap.size + 1) (w.heap.size + 1 + 1) (w.heap.size + 1 + 1 + 1) (w.heap.size + 1 + 1 + 1 + 1) (w.heap.size + 1 + 1 + 1 + 1 + 1)) := (Has.rebun (Qs := (V4 w.heap.size (w.heap.size + 1) (w.heap.size + 1 + 1) (w.heap.size + 1 + 1 + 1)).map rowC) h7).ord 3 [1, 0, 2]
  have H0 := Lib.hid (has_many h8 3 [.int .i64 2] (by simp) (by simp))
  clear h1 h2 h3 h4 h5 h6 h7 h8
  simp only [hp_alloc_size] at H0
  go_enter Try.func9, Try.ntmps9
  go_wp2_with fail
  refine (Step_calls H0.out (V := 2) (cs := F4) (r := [2]) (qf_hs fun P hP => List.mem_cons_of_mem _ hP) (row_src (List.mem_cons_self ..)) len4 (by simp)).mono ?_
  intro e w1 k1
  obtain ⟨rfl, h1⟩ := ex_step (by decide) (by decide) k1
  have h1 := h1.drop
  obtain ⟨g1, hg1⟩ : ∃ b, w.heap.size = b := ⟨_, rfl⟩
  rw [hg1] at h1 ⊢
  obtain ⟨g2, hg2⟩ : ∃ b, g1 + 1 = b := ⟨_, rfl⟩
  rw [hg2] at h1 ⊢
  obtain ⟨g3, hg3⟩ : ∃ b, g2 + 1 = b := ⟨_, rfl⟩
  rw [hg3] at h1 ⊢
  obtain ⟨g4, hg4⟩ : ∃ b, g3 + 1 = b := ⟨_, rfl⟩
  rw [hg4] at h1 ⊢
  obtain ⟨go, hgo⟩ : ∃ b, g4 + 1 = b := ⟨_, rfl⟩
  rw [hgo] at h1 ⊢
  obtain ⟨fb, hfb⟩ : ∃ b, go + 1 = b := ⟨_, rfl⟩
  rw [hfb] at h1 ⊢
  have H1 := Lib.hid h1
  clear k1 h1 hg1 hg2 hg3 hg4 hgo hfb H0
  have hb := blk_mem H1.out (b := fb) (o := .cells #[.int .i64 2, .slice (some ⟨go, 0, none⟩) 4 4] 24 (0, 0)) (by simp [QF])
  (try clear c0 c1 cl)
  have c0 : _ = some _ := heap_eq_cell hb 0
  have c1 : _ = some _ := heap_eq_cell hb 1
  have cl := lt_of_block hb
  clear hb
  have h2 := has_many (has_zero (has_many H1.out 3 [.int .i64 2] (by simp) (by simp)) 3) 25 [s2 w1.heap.size 1, s2 (w1.heap.size + 1) 0] (by simp) (by simp)
  simp only [hp_alloc_size] at h2
  have H2 := Lib.hid (show Has w _ (Hp.row 25 1 (.slice (some ⟨w1.heap.size + 1 + 1, 0, none⟩) 2 2) 2 (([(s2 w1.heap.size 1, [2]), (s2 (w1.heap.size + 1) 0, [])] : List (Value × List Int)).map (·.1)) :: bun (([(s2 w1.heap.size 1, [2]), (s2 (w1.heap.size + 1) 0, [])] : List (Value × List Int)).map rowC) :: QF g1 g2 g3 g4 go fb) from (Has.rebun (Qs := ([(s2 w1.heap.size 1, [2]), (s2 (w1.heap.size + 1) 0, [])] : List (Value × List Int)).map rowC) (h2.ord 3 [2, 1, 0])).ord 2 [1, 0])
  clear h2
  go_wp2_with fail
  refine (Check_calls H2.out (V := 2) (cs := F4) (p := [[2], []]) (qf_hs fun P hP => List.mem_cons_of_mem _ (List.mem_cons_of_mem _ hP)) (under_hs (OV := [(s2 w1.heap.size 1, [2]), (s2 (w1.heap.size + 1) 0, [])]) (by simp) (by simp)) len4 (by simp)).mono ?_
  intro e w2 k2
  obtain ⟨rfl, h2⟩ := ex_num (n := 2) (k := 0) (by decide) (by decide) k2
  have H3 := Lib.hid h2.drop.drop
  clear k2 h2 H1 H2
  have hb := blk_mem H3.out (b := fb) (o := .cells #[.int .i64 2, .slice (some ⟨go, 0, none⟩) 4 4] 24 (0, 0)) (by simp [QF])
  (try clear c0 c1 cl)
  have c0 : _ = some _ := heap_eq_cell hb 0
  have c1 : _ = some _ := heap_eq_cell hb 1
  have cl := lt_of_block hb
  clear hb
  have h4 := has_many (has_zero H3.out 3) 25 [s2 w2.heap.size 0] (by simp) (by simp)
  simp only [hp_alloc_size] at h4
  have H4 := Lib.hid (show Has w _ (Hp.row 25 1 (.slice (some ⟨w2.heap.size + 1, 0, none⟩) 1 1) 1 (([(s2 w2.heap.size 0, [])] : List (Value × List Int)).map (·.1)) :: bun (([(s2 w2.heap.size 0, [])] : List (Value × List Int)).map rowC) :: QF g1 g2 g3 g4 go fb) from (Has.rebun (Qs := ([(s2 w2.heap.size 0, [])] : List (Value × List Int)).map rowC) (h4.ord 2 [1, 0])).ord 2 [1, 0])
  clear h4
  go_wp2_with fail
  refine (Check_calls H4.out (V := 2) (cs := F4) (p := [[]]) (qf_hs fun P hP => List.mem_cons_of_mem _ (List.mem_cons_of_mem _ hP)) (under_hs (OV := [(s2 w2.heap.size 0, [])]) (by simp) (by simp)) len4 (by simp)).mono ?_
  intro e w3 k3
  obtain ⟨rfl, h5⟩ := ex_num (n := 0) (k := 16) (by decide) (by decide) k3
  have H5 := Lib.hid h5.drop.drop
  clear k3 h5 H3 H4
  have hb := blk_mem H5.out (b := fb) (o := .cells #[.int .i64 2, .slice (some ⟨go, 0, none⟩) 4 4] 24 (0, 0)) (by simp [QF])
  (try clear c0 c1 cl)
  have c0 : _ = some _ := heap_eq_cell hb 0
  have c1 : _ = some _ := heap_eq_cell hb 1
  have cl := lt_of_block hb
  clear hb
  go_wp2_with fail
  refine (Prove_calls H5.out (V := 2) (cs := F4) (qf_hs fun P hP => hP) len4 (by simp)).mono ?_
  intro e w4 k4
  obtain ⟨PV, va, vc, hacc, hlv, hlen, rfl, h6⟩ := ex_prove (by decide) (by decide) k4
  have hnum := accB_num hacc
  have hpos := acc_pos hacc
  rw [List.length_map] at hnum hpos
  obtain ⟨n, hn⟩ : ∃ n, PV.length = n := ⟨_, rfl⟩
  have hl8 : PV.length ≤ 8 := hlen
  have hvd : validB 2 F4 (PV.map (·.2)) = true := lits_valid (by decide) hlv hlen
  have HPN := Lib.hid hn
  rw [hn] at hnum hpos h6 hl8 ⊢
  clear hlen hn
  have H6 := Lib.hid h6
  have HLV := Lib.hid hlv
  have HNUM := Lib.hid (show chkNV 2 F4 (PV.map (·.2)) = n ∧ chkEV 2 F4 (PV.map (·.2)) = 0 from by unfold chkNV chkEV; rw [hvd]; exact hnum)
  clear k4 hacc hnum hvd h6 hlv H5
  have hb := blk_mem H6.out (b := fb) (o := .cells #[.int .i64 2, .slice (some ⟨go, 0, none⟩) 4 4] 24 (0, 0)) (by simp [QF])
  (try clear c0 c1 cl)
  have c0 : _ = some _ := heap_eq_cell hb 0
  have c1 : _ = some _ := heap_eq_cell hb 1
  have cl := lt_of_block hb
  clear hb
  have HCK := Lib.hid (fun w' (hf : Fr [] w4 w') => Check_calls (H6.out.step hf) (V := 2) (cs := F4) (p := PV.map (·.2)) (qf_hs fun P hP => List.mem_cons_of_mem _ (List.mem_cons_of_mem _ hP)) (under_n HPN.out hl8 HLV.out (by decide)) len4 (fun r hr => by
    obtain ⟨q, hq, rfl⟩ := List.mem_map.1 hr
    have := (HLV.out q hq).1
    have h2 : (2 : Int).toNat = 2 := rfl
    omega))
  rw [List.length_map, HPN.out] at HCK
  go_wp2_with fail
  refine (HCK.out _ (Fr.refl [] _)).mono ?_
  intro e w5 k5
  obtain ⟨rfl, h7⟩ := ex_num HNUM.out.1 HNUM.out.2 k5
  have H7 := Lib.hid h7
  clear k5 h7 HCK H6
  go_wp2_with fail
  refine (Prove_calls H7.out (V := 1) (a := none) (c := 0) (cs := []) (form_nil (vs := [])) (by simp) (by simp)).mono ?_
  intro e w6 k6
  obtain ⟨rfl, h8⟩ := ex_prove_none k6
  have H8 := Lib.hid h8
  clear k6 h8 H7
  have hb := blk_mem H8.out (b := fb) (o := .cells #[.int .i64 2, .slice (some ⟨go, 0, none⟩) 4 4] 24 (0, 0)) (by simp [QF])
  (try clear c0 c1 cl)
  have c0 : _ = some _ := heap_eq_cell hb 0
  have c1 : _ = some _ := heap_eq_cell hb 1
  have cl := lt_of_block hb
  clear hb
  have h9 := has_many (has_zero (has_many (has_many H8.out 3 [.int .i64 1] (by simp) (by simp)) 3 [.int .i64 2] (by simp) (by simp)) 3) 25 [s2 w6.heap.size 1, s2 (w6.heap.size + 1) 1, s2 (w6.heap.size + 1 + 1) 0] (by simp) (by simp)
  simp only [hp_alloc_size] at h9
  have H9 := Lib.hid (show Has w _ (Hp.row 25 1 (.slice (some ⟨w6.heap.size + 1 + 1 + 1, 0, none⟩) 3 3) 3 ((T3 w6.heap.size).map (·.1)) :: bun ((T3 w6.heap.size).map rowC) :: Hp.row 25 1 (.slice va n vc) n (PV.map (·.1)) :: bun (PV.map rowC) :: QF g1 g2 g3 g4 go fb) from (Has.rebun (Qs := (T3 w6.heap.size).map rowC) (h9.ord 4 [3, 2, 1, 0])).ord 2 [1, 0])
  clear h9
  go_wp2_with fail
  refine (Trim_calls H9.out (V := 2) (cs := F4) (p := [[1], [2], []]) (qf_hs fun P hP => List.mem_cons_of_mem _ (List.mem_cons_of_mem _ (List.mem_cons_of_mem _ (List.mem_cons_of_mem _ hP)))) (under_hs (OV := T3 w6.heap.size) (by simp [T3]) (by simp [T3])) len4 (by simp)).mono ?_
  intro e w7 k7
  obtain ⟨tvs, ta, tc, PT, hTV, rfl, h10⟩ := ex_trim (L := [[1], []]) (n := 2) (by decide) (by decide) rfl (by omega) (by simp) k7
  have H10 := Lib.hid h10
  have HTV := Lib.hid hTV
  clear k7 h10 hTV H8 H9 c0 c1 cl
  have h11 := has_many (has_many (has_many (has_many H10.out 3 [.int .i64 1] (by simp) (by simp)) 3 [.int .i64 2] (by simp) (by simp)) 3 [.int .i64 (-1)] (by simp) (by simp)) 25 [s2 w7.heap.size 1, s2 (w7.heap.size + 1) 1, s2 (w7.heap.size + 1 + 1) 1] (by simp) (by simp)
  simp only [hp_alloc_size] at h11
  have h12 : Has w _ (Hp.row 25 1 (.slice (some ⟨w7.heap.size + 1 + 1 + 1, 0, none⟩) 3 3) 3 ((C3 w7.heap.size).map (·.1)) :: bun ((C3 w7.heap.size).map rowC) :: PT) := (Has.rebun (Qs := (C3 w7.heap.size).map rowC) (h11.ord 4 [3, 2, 1, 0])).ord 2 [1, 0]
  have h13 := has_many (has_zero h12 3) 25 [s2 (w7.heap.size + 1 + 1 + 1 + 1) 0] (by simp) (by simp)
  simp only [hp_alloc_size] at h13
  have H14 := Lib.hid (show Has w _ (Hp.row 25 1 (.slice (some ⟨w7.heap.size + 1 + 1 + 1 + 1 + 1, 0, none⟩) 1 1) 1 ((E1 (w7.heap.size + 1 + 1 + 1 + 1)).map (·.1)) :: bun ((E1 (w7.heap.size + 1 + 1 + 1 + 1)).map rowC) :: Hp.row 25 1 (.slice (some ⟨w7.heap.size + 1 + 1 + 1, 0, none⟩) 3 3) 3 ((C3 w7.heap.size).map (·.1)) :: bun ((C3 w7.heap.size).map rowC) :: PT) from (Has.rebun (Qs := (E1 (w7.heap.size + 1 + 1 + 1 + 1)).map rowC) (h13.ord 2 [1, 0])).ord 2 [1, 0])
  clear h11 h12 h13
  go_wp2_with fail
  refine (Core_calls H14.out (V := 2) (cs := [[1], [2], [-1]]) (p := [[]]) ((under_hs (OV := C3 w7.heap.size) (Qs := PT) (by simp [C3]) (by simp [C3])).more fun P hP => List.mem_cons_of_mem _ (List.mem_cons_of_mem _ hP)) (under_hs (OV := E1 (w7.heap.size + 1 + 1 + 1 + 1)) (by simp [E1]) (by simp [E1])) (by simp) (by simp)).mono ?_
  intro e w8 k8
  obtain ⟨ka, kc, rfl, h15⟩ := ex_core (L := [0, 2]) (by decide) (by decide) k8
  have H15 := Lib.hid h15
  clear k8 h15 H14
  have h16 := has_many (has_zero (has_many H15.out 3 [.int .i64 1] (by simp) (by simp)) 3) 25 [s2 w8.heap.size 1, s2 (w8.heap.size + 1) 0] (by simp) (by simp)
  simp only [hp_alloc_size] at h16
  have H17 := Lib.hid (show Has w _ (Hp.row 25 1 (.slice (some ⟨w8.heap.size + 1 + 1, 0, none⟩) 2 2) 2 ((U2 w8.heap.size).map (·.1)) :: bun ((U2 w8.heap.size).map rowC) :: Hp.row 3 1 (.slice ka 2 kc) 2 (nv [0, 2]) :: Hp.row 25 1 (.slice (some ⟨w7.heap.size + 1 + 1 + 1 + 1 + 1, 0, none⟩) 1 1) 1 ((E1 (w7.heap.size + 1 + 1 + 1 + 1)).map (·.1)) :: bun ((E1 (w7.heap.size + 1 + 1 + 1 + 1)).map rowC) :: Hp.row 25 1 (.slice (some ⟨w7.heap.size + 1 + 1 + 1, 0, none⟩) 3 3) 3 ((C3 w7.heap.size).map (·.1)) :: bun ((C3 w7.heap.size).map rowC) :: PT) from (Has.rebun (Qs := (U2 w8.heap.size).map rowC) (h16.ord 3 [2, 1, 0])).ord 2 [1, 0])
  clear h16
  go_wp2_with fail
  refine (same_calls (l := [[1], []]) (m := [[1], []]) (HTV.out.src _ _ H17.out fun P hP => List.mem_cons_of_mem _ (List.mem_cons_of_mem _ (List.mem_cons_of_mem _ (List.mem_cons_of_mem _ (List.mem_cons_of_mem _ (List.mem_cons_of_mem _ (List.mem_cons_of_mem _ hP))))))) ((under_hs (OV := U2 w8.heap.size) (by simp [U2]) (by simp [U2])).src _ _ H17.out fun P hP => hP) (by simp) (by simp)).mono ?_
  rw [decide_eq_true (rfl : ([[1], []] : List (List Int)) = [[1], []])]
  rintro e w9 ⟨rfl, hf9⟩
  have H18 := Lib.hid (has_many (H17.out.drop.drop.step hf9) 3 [.int .i64 0, .int .i64 2] (by simp) (by simp))
  clear hf9 H17
  go_wp2_with fail
  refine (REqual_calls (l := [0, 2]) (m := [0, 2]) (H18.out.bring 1).rowReads H18.out.rowReads (by simp)).mono ?_
  rw [decide_eq_true (rfl : ([0, 2] : List Int) = [0, 2])]
  rintro e w10 ⟨rfl, hf10⟩
  have HF := Lib.hid (H18.out.fr.trans0 hf10)
  clear hf10 H18
  go_wp2
  go_ret
  exact ⟨rfl, HF.out.trans0 (by (repeat first | exact Fr.refl _ _ | assumption | apply Fr.n | apply Fr.d | apply Fr.a | refine Fr.s ?_ (.inr (by simp; try omega)) _))⟩
end Go.Proofs.Ytbpaadpocihahaa
end
