/- Own texts of this claim, part 27: no condition. -/
import Derived.Test.YtdanghnadbkhfaaZF7
import Derived.Test.YtdanghnadbkhfaaZF23
import Derived.Test.YtdanghnadbkhfaaZF24
import Derived.Test.YtdanghnadbkhfaaZF25
import Derived.Test.YtdanghnadbkhfaaZF20
import Derived.Test.YtdanghnadbkhfaaZF21
import Derived.Test.YtdanghnadbkhfaaZF12
import Derived.Test.YtdanghnadbkhfaaZF3
import Derived.Test.YtdanghnadbkhfaaZF6
import Derived.Test.YtdanghnadbkhfaaZF18
import Derived.Test.YtdanghnadbkhfaaZF4
import Derived.Test.YtdanghnadbkhfaaZF2
set_option linter.unusedVariables false
set_option linter.unusedSimpArgs false
section
/- Calls of the reference of big integers on integers that do not overflow. -/
namespace Go.Proofs.Ytdanghnadbkhfaa
open Go Go.RowKit Go.Proofs.Rg Go.Proofs.Hp Go.Proofs.Bn
set_option linter.unusedVariables false
set_option linter.unusedSimpArgs false
def RBigCall (w : World) (z : Int) (e : Ending) (w' : World) : Prop := ∃ v, e = .returned (.tuple #[v, .int .i64 0]) ∧ BigZ w' (w.heap.size ≤ ·) v z ∧ Fr [] w w'
def RBigCall1 (w : World) (z : Int) (e : Ending) (w' : World) : Prop := ∃ v, e = .returned v ∧ BigZ w' (w.heap.size ≤ ·) v z ∧ Fr [] w w'
section
variable {w : World} {A B : Nat → Prop} {va vb : Value} {x y : Int}
theorem RAdd_z (ha : BigZ w A va x) (hb : BigZ w B vb y) (hx : Zok x) (hy : Zok y) (hs : Zok (x + y)) : Calls Try.prog 24 #[va, vb] w (RBigCall w (x + y)) := by
  obtain ⟨a, c, rfl, _, _, h3⟩ := ha
  obtain ⟨a', c', rfl, _, _, k3⟩ := hb
  refine (RAdd_calls h3 k3 (zd_dig x) (zd_dig y) (by have := zd_len hx; omega) (by have := zd_len hy; omega)).mono ?_
  rw [addS_z hx hy hs]
  rintro e w' ⟨a, c, ⟨h1, h2⟩, rfl, h3, hf⟩
  exact ⟨_, rfl, ⟨a, c, rfl, h1, h2, h3⟩, hf⟩
theorem RCompare_z (ha : BigZ w A va x) (hb : BigZ w B vb y) (hx : Zok x) (hy : Zok y) : Calls Try.prog 29 #[va, vb] w fun e w' => e = .returned (.int .i64 (cmpI x y)) ∧ Fr [] w w' := by
  obtain ⟨a, c, rfl, _, _, h3⟩ := ha
  obtain ⟨a', c', rfl, _, _, k3⟩ := hb
  have := RCompare_calls (na := decide (x < 0)) (nb := decide (y < 0)) h3 k3 (zd_dig x) (zd_dig y) (by have := zd_len hx; omega) (by have := zd_len hy; omega)
  rwa [cmpS_z hx hy] at this
theorem RFrom_z (h1 : -9223372036854775808 ≤ x) (h2 : x < 9223372036854775808) : Calls Try.prog 16 #[.int .i64 x] w (RBigCall1 w x) := by
  refine (RFrom_calls h1 h2).mono ?_
  rw [fromS_z (zok_int h1 h2)]
  rintro e w' ⟨a, c, ⟨h1, h2⟩, rfl, h3, hf⟩
  exact ⟨_, rfl, ⟨a, c, rfl, h1, h2, h3⟩, hf⟩
theorem RShift_z {n : Nat} (ha : BigZ w A va 1) (hn : n ≤ 2047) : Calls Try.prog 23 #[va, .int .i64 n] w (RBigCall w ((2 ^ n : Nat) : Int)) := by
  obtain ⟨a, c, rfl, h0, _, h3⟩ := ha
  refine (RShift_calls (neg := decide ((1 : Int) < 0)) h3 (zd_dig 1) (by have := zd_len (z := 1) (zok_int (by omega) (by omega)); omega) (by omega) (by omega)).mono ?_
  rw [show decide ((1 : Int) < 0) = false from rfl, shift_one hn]
  rintro e w' ⟨a, c, ⟨h1, h2⟩, rfl, h3, hf⟩
  refine ⟨_, rfl, ⟨a, c, ?_, h1, h2, h3⟩, hf⟩
  rw [decide_eq_false (Int.not_lt.2 (Int.natCast_nonneg _))]
end
end Go.Proofs.Ytdanghnadbkhfaa
end

section
/- Law 26: the fixed examples. -/
namespace Go.Proofs.Ytdanghnadbkhfaa
open Go Go.RowKit Go.Proofs.Rg Go.Proofs.Mp Go.Proofs.Hp Go.Proofs.Qs Go.Proofs.Ev Go.Proofs.Bn Go.Proofs.Pt
set_option linter.unusedVariables false
set_option linter.unusedSimpArgs false
theorem New_has {W w : World} {Ps : List Res} (h : Has W w Ps) (s : Int) (h1 : 2 ≤ s) (h2 : s ≤ 8) :
    Calls Try.prog 7 #[.int .i64 s] w fun e w' => ∃ b, e = .returned (.tuple #[.pointer (some ⟨b, 0, none⟩), .int .i64 0]) ∧ Has W w' (storeR b s [] :: Ps) := by
  refine (New_ok s w h1 h2).mono ?_
  rintro e w' ⟨b, F, rfl, hS, hf, hF⟩
  exact ⟨b, rfl, h.new hf hS hF⟩
theorem big_mem {W w : World} {Ps : List Res} {neg : Bool} {ds : List Nat} {a : Option Addr} {c : Nat} (h : Has W w Ps) (hm : bigR neg ds a c ∈ Ps) : BigIn w neg ds a c := by
  obtain ⟨G, h1, _⟩ := has_mem h hm
  exact h1
theorem zd_one : zd 1 = [1] := by
  unfold zd
  rw [show (1 : Int).natAbs = 1 from rfl, dg_succ (by omega) (by omega), show 1 / 4294967296 = 0 from rfl, dg_zero]
theorem zd_zero : zd 0 = [] := by unfold zd; rw [show (0 : Int).natAbs = 0 from rfl, dg_zero]
theorem zok1n : Zok ((1 : Nat) : Int) := zok_int (by decide) (by decide)
theorem zok0n : Zok ((0 : Nat) : Int) := zok_int (by decide) (by decide)
theorem zd1n : zd ((1 : Nat) : Int) = [1] := zd_one
theorem zd0n : zd ((0 : Nat) : Int) = [] := zd_zero
set_option maxHeartbeats 16000000 in
set_option maxRecDepth 100000 in
theorem awake_q (w : World) : Calls Try.prog 9 #[] w fun e w' => e = .returned (.bool true) ∧ Fr [] w w' := by
  have h0 : Has w w [] := ⟨[], rfl, Fr.refl _ _, by simp⟩
  have H0 := Lib.hid h0
  clear h0
  go_enter Try.func9, Try.ntmps9
  go_wp2_with fail
  refine (New_has H0.out 2 (by omega) (by omega)).mono ?_
  rintro e w1 ⟨b, rfl, h1⟩
  have h2 := (has_alloc h1 #[.int .i64 1, .int .i64 0, .int .i64 1] 72).swap
  obtain ⟨pb, hpb⟩ : ∃ pb, w1.heap.size = pb := ⟨_, rfl⟩
  rw [hpb] at h2
  have H2 := Lib.hid h2
  have HF1 := Lib.hid (From_q h2 (p := awP) (a := some ⟨pb, 0, none⟩) (c := 1) (reads_blk h2.swap.blk rfl) (by decide) 0 0 1 (by omega) (by omega))
  rw [aw_from1] at HF1
  clear h1 h2
  go_wp2_with fail
  refine HF1.out.mono ?_
  rintro e w2 ⟨rfl, h2⟩
  clear hpb H2
  have HF2 := Lib.hid (From_q h2 (p := awP) (a := some ⟨pb, 0, none⟩) (c := 1) (reads_blk h2.swap.blk rfl) (by decide) 0 0 2 (by omega) (by omega))
  rw [aw_from2] at HF2
  clear h2 HF1
  go_wp2_with fail
  refine HF2.out.mono ?_
  rintro e w3 ⟨rfl, h3⟩
  have H3 := Lib.hid h3
  clear h3 HF2
  go_wp2_with fail
  refine (RFrom_z (x := 1) (by omega) (by omega)).mono ?_
  rintro e w4 ⟨v1, rfl, hb1, hf1⟩
  obtain ⟨a1, c1, rfl, h4⟩ := has_big H3.out hf1 hb1 (zok_int (by omega) (by omega))
  rw [show decide ((1 : Int) < 0) = false from rfl, zd_one] at h4 ⊢
  have H4 := Lib.hid h4
  clear h4 hb1 hf1 H3
  go_wp2_with fail
  refine (RFrom_z (x := 0) (by omega) (by omega)).mono ?_
  rintro e w5 ⟨v2, rfl, hb2, hf2⟩
  obtain ⟨a2, c2, rfl, h5⟩ := has_big H4.out hf2 hb2 (zok_int (by omega) (by omega))
  rw [show decide ((0 : Int) < 0) = false from rfl, zd_zero] at h5 ⊢
  have H5 := Lib.hid h5
  clear h5 hb2 hf2 H4
  go_wp2_with fail
  have h6 := (has_alloc (has_alloc H5.out #[.bool false, .slice a1 1 c1] 38) #[.bool false, .slice a2 0 c2] 38).ord 6 [4, 1, 0, 3, 2, 5]
  simp only [List.filterMap_cons, List.filterMap_nil, List.getElem?_cons_zero, List.getElem?_cons_succ, List.drop_succ_cons, List.drop_zero, List.cons_append, List.nil_append] at h6
  obtain ⟨x8, hx8⟩ : ∃ x, w5.heap.size = x := ⟨_, rfl⟩
  rw [show (w5.alloc (.cells #[.bool false, .slice a1 1 c1] 38)).heap.size = w5.heap.size + 1 by simp, hx8] at h6
  rw [hx8]
  obtain ⟨x9, hx9⟩ : ∃ x, x8 + 1 = x := ⟨_, rfl⟩
  rw [hx9] at h6 ⊢
  have HG := Lib.hid (Get_q h6 4 (nx := false) (dx := [1]) (ny := false) (dy := []) (big_mem (a := a1) (c := c1) h6 (by simp)) (big_mem (a := a2) (c := c2) h6 (by simp)))
  rw [aw_get] at HG
  clear H5 h6 hx8 hx9
  refine HG.out.mono ?_
  rintro e w7 ⟨rfl, h7, _⟩
  have HB := Lib.hid (Bounds_q h7 4)
  clear HG h7
  go_wp2_with fail
  refine HB.out.mono ?_
  unfold BoundsPost
  rintro e w8 ⟨⟨ok, f0, f1, f2, f3⟩, L, rfl, h8, hok, hin⟩
  rw [aw_fr] at hok
  rw [aw_kn]
  simp only [FrOk, coF, Option.getD_some, Option.isSome_some] at hok
  obtain ⟨rfl, e0, e1, e2, e3⟩ := hok
  have h9 := (has_alloc h8 (lcells (true, f0, f1, f2, f3)) 49).ord 3 [1, 0, 2]
  simp only [List.filterMap_cons, List.filterMap_nil, List.getElem?_cons_zero, List.getElem?_cons_succ, List.drop_succ_cons, List.drop_zero, List.cons_append, List.nil_append] at h9
  obtain ⟨x12, hx12⟩ : ∃ x, w8.heap.size = x := ⟨_, rfl⟩
  rw [hx12] at h9
  have HFE := Lib.hid (And.intro hin (And.intro e0 (And.intro e1 (And.intro e2 e3))))
  have HP := Lib.hid (Population_q h9 4)
  rw [aw_kn, aw_pop] at HP
  clear HB h8 h9 hin e0 e1 e2 e3
  simp only [lcells] at HP ⊢
  go_wp2_with fail
  refine HP.out.mono ?_
  rintro e w9 ⟨pa, pc, rfl, h10⟩
  have h11 := (has_alloc h10 #[.bool false, .slice pa (zd ((1 : Nat) : Int)).length pc] 38).ord 3 [1, 0, 2]
  simp only [List.filterMap_cons, List.filterMap_nil, List.getElem?_cons_zero, List.getElem?_cons_succ, List.drop_succ_cons, List.drop_zero, List.cons_append, List.nil_append] at h11
  obtain ⟨x15, hx15⟩ : ∃ x, w9.heap.size = x := ⟨_, rfl⟩
  rw [hx15] at h11
  have HE := Lib.hid (Expand_q h11 2)
  rw [aw_exp] at HE
  clear HP h10 h11 hx12
  simp only [bvV]
  go_wp2_with fail
  refine HE.out.mono ?_
  rintro e w10 ⟨rfl, h12⟩
  have HC := Lib.hid (Centre_q h12 awX)
  rw [aw_ctr] at HC
  clear HE h12 hx15
  go_wp2_with fail
  refine HC.out.mono ?_
  rintro e w11 ⟨rfl, h13⟩
  have HPT := Lib.hid (Pattern_q h13 4 0 0 (by omega) (by omega))
  rw [aw_pat] at HPT
  clear HC h13
  go_wp2_with fail
  refine HPT.out.mono ?_
  rintro e w12 ⟨qv, rfl, h14⟩
  obtain ⟨_, qa, qc, rfl, _⟩ := Reads.of_owns h14.swap.row
  have HS := Lib.hid (Set_q h14 4 (nx := false) (dx := [1]) (ny := false) (dy := []) (BigSrc.thing (a := a1) (c := c1) (by simp)) (BigSrc.thing (a := a2) (c := c2) (by simp)) 0)
  rw [aw_set] at HS
  have hb8 := h14.ord 11 [6]
  simp only [List.filterMap_cons, List.filterMap_nil, List.getElem?_cons_zero, List.getElem?_cons_succ, List.drop_succ_cons, List.drop_zero, List.cons_append, List.nil_append] at hb8
  have hb8 := hb8.blk
  have a0 := heap_eq_cell hb8 0
  have a1' := heap_eq_cell hb8 1
  have al := lt_of_block hb8
  have hb9 := h14.ord 11 [7]
  simp only [List.filterMap_cons, List.filterMap_nil, List.getElem?_cons_zero, List.getElem?_cons_succ, List.drop_succ_cons, List.drop_zero, List.cons_append, List.nil_append] at hb9
  have hb9 := hb9.blk
  have b0 := heap_eq_cell hb9 0
  have b1 := heap_eq_cell hb9 1
  have bl := lt_of_block hb9
  clear HPT h14 hb8 hb9
  go_wp2_with fail
  refine HS.out.mono ?_
  rintro e w13 ⟨rfl, h15⟩
  have HEM := Lib.hid (Empty_has h15 2)
  rw [aw_empty] at HEM
  clear HS h15 a0 a1' al b0 b1 bl
  go_wp2_with fail
  refine HEM.out.mono ?_
  rintro e w14 ⟨rfl, h16⟩
  have hfg : Four w14 (true, (1, a1, c1), (0, a2, c2), (1, a1, c1), (0, a2, c2)) := by
    have h1 : BvIn w14 (1, a1, c1) := by
      show BigIn w14 false (zd ((1 : Nat) : Int)) a1 c1
      rw [zd1n]; exact big_mem h16 (by simp)
    have h2 : BvIn w14 (0, a2, c2) := by
      show BigIn w14 false (zd ((0 : Nat) : Int)) a2 c2
      rw [zd0n]; exact big_mem h16 (by simp)
    exact ⟨h1, h2, h1, h2, zok1n, zok0n, zok1n, zok0n⟩
  obtain ⟨⟨i0, i1, i2, i3⟩, e0, e1, e2, e3⟩ := HFE.out
  simp only at i0 i1 i2 i3 e0 e1 e2 e3
  have hff : Four w14 (true, f0, f1, f2, f3) := ⟨pool_in h16 (by simp) i0, pool_in h16 (by simp) i1, pool_in h16 (by simp) i2, pool_in h16 (by simp) i3, zok_int (by simp only; omega) (by simp only; omega), zok_int (by simp only; omega) (by simp only; omega), zok_int (by simp only; omega) (by simp only; omega), zok_int (by simp only; omega) (by simp only; omega)⟩
  have hsb : sameB (true, f0, f1, f2, f3) (true, (1, a1, c1), (0, a2, c2), (1, a1, c1), (0, a2, c2)) 4 = true := by
    simp only [sameB, Bool.and_eq_true, decide_eq_true_eq]; omega
  have HSM := Lib.hid (fun w' (hf : Fr [] w14 w') => same_q (hff.fr hf) (hfg.fr hf))
  rw [hsb] at HSM
  simp only [lcells, zd1n, zd0n, List.length_cons, List.length_nil, Nat.zero_add] at HSM
  have hpop : BigIn w14 false (zd ((1 : Nat) : Int)) pa pc := big_mem h16 (by simp)
  have hone : BigIn w14 false [1] a1 c1 := big_mem h16 (by simp)
  have HCM := Lib.hid (fun w' (hf : Fr [] w14 w') => RCompare_z (in_z (hpop.fr hf)) (in_z (V := 1) (a := a1) (c := c1) ((show BigIn w14 false (zd ((1 : Nat) : Int)) a1 c1 by rw [zd1n]; exact hone).fr hf)) (zok_int (by decide) (by decide)) (zok_int (by decide) (by decide)))
  simp only [zd1n, List.length_cons, List.length_nil, Nat.zero_add] at HCM
  have hrow := Reads.of_owns h16.swap.row
  have hpat := h16.ord 11 [10]
  simp only [List.filterMap_cons, List.filterMap_nil, List.getElem?_cons_zero, List.getElem?_cons_succ, List.drop_succ_cons, List.drop_zero, List.cons_append, List.nil_append] at hpat
  have HSP := Lib.hid (fun w' (hf : Fr [] w14 w') => Same_p (l := awP) (m := awP) (a := qa) (ca := qc) (b := some ⟨pb, 0, none⟩) (cb := 1) (Reads.fr hrow hf) (Reads.fr (reads_blk hpat.blk rfl) hf) (by decide) (by decide))
  have HFR := Lib.hid h16.fr
  clear hrow hpat
  have hb8 := h16.ord 11 [6]
  simp only [List.filterMap_cons, List.filterMap_nil, List.getElem?_cons_zero, List.getElem?_cons_succ, List.drop_succ_cons, List.drop_zero, List.cons_append, List.nil_append] at hb8
  have hb8 := hb8.blk
  have a0 := heap_eq_cell hb8 0
  have a1' := heap_eq_cell hb8 1
  have al := lt_of_block hb8
  have hb9 := h16.ord 11 [7]
  simp only [List.filterMap_cons, List.filterMap_nil, List.getElem?_cons_zero, List.getElem?_cons_succ, List.drop_succ_cons, List.drop_zero, List.cons_append, List.nil_append] at hb9
  have hb9 := hb9.blk
  have b0 := heap_eq_cell hb9 0
  have b1 := heap_eq_cell hb9 1
  have bl := lt_of_block hb9
  have hb2 := h16.ord 11 [4]
  simp only [List.filterMap_cons, List.filterMap_nil, List.getElem?_cons_zero, List.getElem?_cons_succ, List.drop_succ_cons, List.drop_zero, List.cons_append, List.nil_append] at hb2
  have hb2 := hb2.blk
  have r0 := heap_eq_cell hb2 0
  have r1 := heap_eq_cell hb2 1
  have r2 := heap_eq_cell hb2 2
  have r3 := heap_eq_cell hb2 3
  have r4 := heap_eq_cell hb2 4
  have r5 := heap_eq_cell hb2 5
  have r6 := heap_eq_cell hb2 6
  have r7 := heap_eq_cell hb2 7
  have rl := lt_of_block hb2
  have hb5 := h16.ord 11 [2]
  simp only [List.filterMap_cons, List.filterMap_nil, List.getElem?_cons_zero, List.getElem?_cons_succ, List.drop_succ_cons, List.drop_zero, List.cons_append, List.nil_append] at hb5
  have hb5 := hb5.blk
  rw [zd1n] at hb5
  have q0 := heap_eq_cell hb5 0
  have q1 := heap_eq_cell hb5 1
  have ql := lt_of_block hb5
  clear h16 HEM hff hfg hpop hone hsb e0 e1 e2 e3 i0 i1 i2 i3
  go_wp2_with fail
  refine (HSM.out _ (Fr.refl _ _)).mono ?_
  rintro e w15 ⟨rfl, hf15⟩
  have q0' := (hf15.cell (p := ⟨x15, 0, none⟩) ql (by simp)).trans q0
  have q1' := (hf15.cell (p := ⟨x15, 1, none⟩) ql (by simp)).trans q1
  have a0' := (hf15.cell (p := ⟨x8, 0, none⟩) al (by simp)).trans a0
  have a1'' := (hf15.cell (p := ⟨x8, 1, none⟩) al (by simp)).trans a1'
  have Hf15 := Lib.hid hf15
  have hlx : x8 < w15.heap.size := by
    have := hf15.size; omega
  have hlq : x15 < w15.heap.size := by
    have := hf15.size; omega
  clear r0 r1 r2 r3 r4 r5 r6 r7 rl a0 a1' al b0 b1 bl q0 q1 ql hf15
  go_wp2_with fail
  refine (HCM.out _ (by have := Hf15.out; (repeat (first | exact Fr.refl _ _ | assumption | apply Fr.drewN | apply Fr.drew | apply Fr.alloc | refine Fr.setCell ?_ (Or.inr (by simp; try omega)) _)))).mono ?_
  rintro e w16 ⟨rfl, hf16⟩
  have Hf16 := Lib.hid (Hf15.out.trans0 hf16)
  clear hf16 q0' q1' a0' a1''
  simp only [show cmpI ((1 : Nat) : Int) ((1 : Nat) : Int) = 0 from rfl]
  go_wp2_with fail
  refine (HSP.out _ Hf16.out).mono ?_
  rintro e w17 ⟨rfl, hf17⟩
  have Hf17 := Lib.hid (Hf16.out.trans0 hf17)
  clear hf17
  simp only [show decide (awP = awP) = true from by decide]
  go_wp2
  go_ret
  exact ⟨rfl, HFR.out.trans0 Hf17.out⟩
end Go.Proofs.Ytdanghnadbkhfaa
end

section
/- What Expand and Centre lead to. Nothing of a program. -/
namespace Go.Proofs.Ytdanghnadbkhfaa
open Go Go.Proofs.Qs Go.Proofs.Ev
set_option linter.unusedVariables false
set_option linter.unusedSimpArgs false
def cornerT (n : Nat) (t : Tr) : Nat → Tr
  | 0 => .node t (emptyT n) (emptyT n) (emptyT n)
  | 1 => .node (emptyT n) t (emptyT n) (emptyT n)
  | 2 => .node (emptyT n) (emptyT n) t (emptyT n)
  | _ => .node (emptyT n) (emptyT n) (emptyT n) t
theorem corner_join {s : Int} {m : List K4} {n : Nat} {a v : Int} {t : Tr} {k : Nat} (hg : GoodQ s m) (hl : m.length ≤ 5000) (hn : n < 256) (ha : Is s m n a (emptyT n)) (hv : Is s m n v t) (hk : k < 4) :
    ∃ id m', join s m (cornerK a v k) = ((id, 0), m') ∧ GoodQ s m' ∧ m <+: m' ∧ m'.length ≤ m.length + 1 ∧ Is s m' (n + 1) id (cornerT n t k) := by
  have hroom : ∀ u, room s m [u] := fun u => room.of_len (by simp; omega)
  have fin : ∀ {x y z u : Int} {tx ty tz tu : Tr}, Is s m n x tx → Is s m n y ty → Is s m n z tz → Is s m n u tu → ∃ id m', join s m ⟨x, y, z, u⟩ = ((id, 0), m') ∧ GoodQ s m' ∧ m <+: m' ∧ m'.length ≤ m.length + 1 ∧ Is s m' (n + 1) id (.node tx ty tz tu) := by
    intro x y z u tx ty tz tu hx hy hz hu
    obtain ⟨id, m', hj, h1, h2, _, h4⟩ := join_room hg (hroom (.node tx ty tz tu)) hn hx hy hz hu (by simp)
    have := join_len s m ⟨x, y, z, u⟩
    rw [hj] at this
    exact ⟨id, m', hj, h1, h2, this, h4⟩
  have : k = 0 ∨ k = 1 ∨ k = 2 ∨ k = 3 := by omega
  rcases this with rfl | rfl | rfl | rfl
  · exact fin hv ha ha ha
  · exact fin ha hv ha ha
  · exact fin ha ha hv ha
  · exact fin ha ha ha hv
theorem expand_ok {s : Int} {ns : List K4} {id : Int} {n : Nat} {t : Tr} (hg : GoodQ s ns) (hl : ns.length ≤ 2000) (hi : Is s ns (n + 1) id t) (hn : n + 1 < 256) :
    ∃ x ms, expandQ s ns id = ((x, 0), ms) ∧ GoodQ s ms ∧ ns <+: ms ∧ ms.length ≤ ns.length + 300 ∧ Is s ms (n + 2) x (expT n t) := by
  have hlv := hi.lvl hg
  obtain ⟨a, m0, h0, g0, p0, l0, i0⟩ := empty_is hg (L := n) (by omega) (by omega)
  have hk := (hi.node hg).2.2
  obtain ⟨x0, m1, j0, g1, p1, l1, c0⟩ := corner_join (k := 3) g0 (by omega) (by omega) i0 ((hk 0 (by omega)).grow p0) (by omega)
  obtain ⟨x1, m2, j1, g2, p2, l2, c1⟩ := corner_join (k := 2) g1 (by omega) (by omega) (i0.grow p1) ((hk 1 (by omega)).grow (p0.trans p1)) (by omega)
  obtain ⟨x2, m3, j2, g3, p3, l3, c2⟩ := corner_join (k := 1) g2 (by omega) (by omega) (i0.grow (p1.trans p2)) ((hk 2 (by omega)).grow ((p0.trans p1).trans p2)) (by omega)
  obtain ⟨x3, m4, j3, g4, p4, l4, c3⟩ := corner_join (k := 0) g3 (by omega) (by omega) (i0.grow ((p1.trans p2).trans p3)) ((hk 3 (by omega)).grow (((p0.trans p1).trans p2).trans p3)) (by omega)
  have k4 := kr_ok (f := fun ms k => join s ms (cornerK a ((nodeOf s ns id).get k) (3 - k))) (kr_ok (kr_ok (kr_ok (k := 0) (ids := []) rfl j0) j1) j2) j3
  obtain ⟨y, m5, hj, g5, p5, _, i5⟩ := join_room g4 (room.of_len (L := [expT n t]) (by simp; omega)) (by omega) (((c0.grow p2).grow p3).grow p4) ((c1.grow p3).grow p4) (c2.grow p4) c3 (by
    simp only [List.mem_singleton]; rfl)
  have l5 := join_len s m4 ⟨x0, x1, x2, x3⟩
  rw [hj] at l5
  refine ⟨y, m5, ?_, g5, ((((p0.trans p1).trans p2).trans p3).trans p4).trans p5, by simp only at l5; omega, i5⟩
  unfold expandQ
  rw [hlv, if_neg (by omega), if_neg (by omega), show (((n + 1 : Nat) : Int) - 1) = ((n : Nat) : Int) by omega, h0]
  simp only [ne_eq, not_true_eq_false, if_false]
  rw [fin4_ok k4]
  exact hj
theorem centre_ok {s : Int} {ms : List K4} {id x : Int} {n : Nat} {t : Tr} (hg : GoodQ s ms) (hl : ms.length ≤ 5000) (hi : Is s ms (n + 1) id t) (hx : Is s ms (n + 2) x (expT n t)) (hn : n + 1 < 256) :
    ∃ m', centreQ s ms x = ((id, 0), m') ∧ GoodQ s m' ∧ ms <+: m' ∧ m'.length ≤ ms.length + 1 := by
  have hlv := hx.lvl hg
  have hk := (hx.node hg).2.2
  have hkk : ∀ q, q < 4 → Is s ms n ((nodeOf s ms ((nodeOf s ms x).get q)).get (3 - q)) (Tr.q (Tr.q (expT n t) q) (3 - q)) := fun q hq => ((hk q hq).node hg).2.2 (3 - q) (by omega)
  have h0 := hkk 0 (by omega)
  have h1 := hkk 1 (by omega)
  have h2 := hkk 2 (by omega)
  have h3 := hkk 3 (by omega)
  have hf := hi.2.2.1
  obtain ⟨y, m', hj, g', p', _, i'⟩ := join_room hg (room.of_len (L := [t]) (by simp; omega)) (by omega) h0 h1 h2 h3 (by
    cases t with
    | leaf v => exact hf.elim
    | node a b c d => simp [expT, Tr.q])
  have hl' := join_len s ms ⟨(nodeOf s ms ((nodeOf s ms x).get 0)).get (3 - 0), (nodeOf s ms ((nodeOf s ms x).get 1)).get (3 - 1), (nodeOf s ms ((nodeOf s ms x).get 2)).get (3 - 2), (nodeOf s ms ((nodeOf s ms x).get 3)).get (3 - 3)⟩
  rw [hj] at hl'
  have ht : Is s m' (n + 1) y t := by
    cases t with
    | leaf v => exact hf.elim
    | node a b c d => simpa [expT, Tr.q] using i'
  have := Is.inj g' ht (hi.grow p')
  subst this
  refine ⟨m', ?_, g', p', hl'⟩
  unfold centreQ
  rw [hlv, if_neg (by omega), if_neg (by omega)]
  exact hj
end Go.Proofs.Ytdanghnadbkhfaa
end

section
/- Load, Right of package quad. -/
namespace Go.Proofs.Ytdanghnadbkhfaa
set_option linter.unusedVariables false
set_option linter.unusedSimpArgs false
open Go Go.RowKit Go.Proofs.Rg Go.Proofs.Mp Go.Proofs.Hp Go.Proofs.Qs
instance (s : Int) (ns : List K4) : Decidable (GoodQ s ns) := by
  have : GoodQ s ns ↔ 2 ≤ s ∧ s ≤ 8 ∧ ns.length ≤ 100000 ∧ ns.Nodup ∧ ∀ i : Fin ns.length, Fits s (ns.take i) ns[i] := by
    unfold GoodQ
    constructor
    · rintro ⟨h1, h2, h3, h4, h5⟩
      exact ⟨h1, h2, h3, h4, fun i => h5 i _ (by simp)⟩
    · rintro ⟨h1, h2, h3, h4, h5⟩
      refine ⟨h1, h2, h3, h4, fun i k hi => ?_⟩
      obtain ⟨h, rfl⟩ := List.getElem?_eq_some_iff.1 hi
      exact h5 ⟨i, h⟩
  exact decidable_of_iff _ this.symm
theorem goodQ_step {s : Int} {ns : List K4} (h : GoodQ s ns) {i : Nat} (hi : i < ns.length) : Fits s (ns.take i) ns[i] ∧ ns[i] ∉ ns.take i := by
  obtain ⟨h1, h2, h3, h4, h5⟩ := h
  refine ⟨h5 i _ (List.getElem?_eq_getElem hi), fun hm => ?_⟩
  obtain ⟨j, hj, e⟩ := List.getElem_of_mem hm
  rw [List.length_take] at hj
  rw [List.getElem_take] at e
  exact (List.pairwise_iff_getElem.1 h4) j i (by omega) hi (by omega) e
theorem take_snoc {ns : List K4} {i : Nat} (hi : i < ns.length) : ns.take (i + 1) = ns.take i ++ [ns[i]] := by
  rw [List.take_add_one, List.getElem?_eq_getElem hi]; rfl
theorem join_ok {s : Int} {ns : List K4} {k : K4} (h : Fits s ns k) (hn : k ∉ ns) (hl : ns.length < 100000) : join s ns k = ((s + ns.length, 0), ns ++ [k]) := by
  unfold join
  have hf := h
  unfold Fits at hf
  rw [if_neg (by omega), if_neg (by simpa using h), joinIn_new (by simpa using hn) hl]
theorem join_bad {s : Int} {ns : List K4} {k : K4} (h : ¬ (Fits s ns k ∧ k ∉ ns)) (_ : ns.length < 100000) : (join s ns k).1.2 ≠ 0 ∨ (join s ns k).1.1 ≠ s + ns.length := by
  unfold join
  split
  · left; simp
  · split
    · left; simp
    · rename_i hf
      have hf := Decidable.not_not.1 hf
      have hk : k ∈ ns := by
        rcases Decidable.em (k ∈ ns) with h' | h'
        · exact h'
        · exact absurd ⟨hf, h'⟩ h
      obtain ⟨i, hi⟩ : ∃ i, ns.idxOf? k = some i := by
        cases hx : ns.idxOf? k with
        | none => rw [List.idxOf?_eq_none_iff] at hx; exact absurd hk hx
        | some i => exact ⟨i, rfl⟩
      rw [joinIn_hit hi]
      right
      rw [List.idxOf?_eq_some_iff] at hi
      obtain ⟨h1, _⟩ := hi
      simp; omega
/-- what Load leaves -/
def LoadPost (w : World) (s : Int) (ns : List K4) (e : Ending) (w' : World) : Prop :=
  (GoodQ s ns → ∃ b F, e = .returned (.tuple #[.pointer (some ⟨b, 0, none⟩), .int .i64 0]) ∧ StoreAt w' b s ns F ∧ Fr [] w w' ∧ ∀ x ∈ F, w.heap.size ≤ x) ∧
  (¬ GoodQ s ns → e = .returned (.tuple #[.pointer none, .int .i64 2]) ∧ Fr [] w w')
set_option maxHeartbeats 4000000 in
theorem Load_calls {w : World} {s : Int} {ns : List K4} {v : Value} (hl : ns.length ≤ 100000) (hv : Reads w v ns.length 4 (flat ns)) :
    Calls Try.prog 49 #[.agg #[.int .i64 s, v]] w (LoadPost w s ns) := by
  have hvk := hv
  obtain ⟨_, a, c, rfl, hav⟩ := hv
  by_cases hbad : s < 2 ∨ 8 < s
  · have hng : ¬ GoodQ s ns := fun h => by have := h.1; have := h.2.1; omega
    have Hl := Lib.hid hl
    clear hl hav hvk
    go_enter Try.func49, Try.ntmps49
    go_wp2_with fail
    refine (New_bad s _ hbad).mono ?_
    rintro e w' ⟨rfl, rfl⟩
    go_wp2
    go_ret2
    exact ⟨fun h => absurd h hng, fun _ => ⟨rfl, by (repeat (first | exact Fr.refl _ _ | assumption | apply Fr.drewN | apply Fr.drew | apply Fr.alloc | refine Fr.setCell ?_ (Or.inr (by simp; try omega)) _))⟩⟩
  · have hl2 : ns.length ≤ 1048576 := by omega
    have Hl := Lib.hid hl
    have Hav := Lib.hid hav
    have Hvk := Lib.hid hvk
    have hs1 : 2 ≤ s := by omega
    have hs2 : s ≤ 8 := by omega
    clear hav hvk hbad hl
    have hd : decide ((100000 : Int) < ↑ns.length) = false := by have := Hl.out; simp; omega
    go_enter Try.func49, Try.ntmps49
    go_wp2_with fail
    refine (New_ok s _ hs1 hs2).mono ?_
    rintro e w1 ⟨b, F0, rfl, hS0, hf0, hF0⟩
    have hbx : w1.heap[w.heap.size]? = some (.cells #[.int .i64 s, .slice a ns.length c] 56 (0, 0)) := (hf0.block _ (by simp) (by simp)).trans (by (repeat (first | rw [if_pos (by omega)] | rw [if_neg (by omega)] | rw [hp_drew] | rw [hp_drewN] | rw [hp_alloc_size] | rw [hp_setCell_size] | rw [hp_alloc] | rw [hp_setCell] | rw [Option.map_some] | rw [upd_cells] | rw [List.set_cons_zero] | rw [List.set_cons_succ] | rfl)))
    have c0 := heap_eq_cell hbx 0
    have c1 := heap_eq_cell hbx 1
    have hfw : Fr [] w w1 := ((Fr.refl _ _).alloc _).trans0 hf0
    have Hbx := Lib.hid hbx
    have Hfw := Lib.hid hfw
    have HF0 := Lib.hid hF0
    clear hbx hf0 hfw hF0
    go_wp2
    go_loopw [27] (fun x wr => ∃ (k : Nat) (F' : List Nat), x = .int .i64 k ∧ k ≤ ns.length ∧ GoodQ s (ns.take k) ∧ StoreAt wr b s (ns.take k) F' ∧ Fr [] w wr ∧ (∀ x ∈ F', w.heap.size + 1 ≤ x) ∧ wr.heap[w.heap.size]? = some (.cells #[.int .i64 s, .slice a ns.length c] 56 (0, 0))) (fun x _ => ns.length - (intOf x).toNat)
    case atStart => exact ⟨0, F0, rfl, by omega, GoodQ.nil hs1 hs2, hS0, Hfw.out, fun x hx => by have := HF0.out x hx; simp at this; omega, Hbx.out⟩
    case round =>
      obtain ⟨k, F', rfl, hk, hg, hS', hf', hF', hb'⟩ := hrel
      have c0 := heap_eq_cell hb' 0
      have c1 := heap_eq_cell hb' 1
      have hwlt : w.heap.size < wr.heap.size := lt_of_block hb'
      have Hf := Lib.hid hf'
      have HF := Lib.hid hF'
      have HB := Lib.hid hb'
      have HG := Lib.hid hg
      clear hf' hF' hb' hg
      by_cases hlt : k < ns.length
      · obtain ⟨g, off, rfl, hg, hc⟩ := Hav.out (by omega)
        obtain ⟨f0, f1, f2, f3⟩ := flat_get (List.getElem?_eq_getElem hlt)
        rw [Nat.mul_comm] at f0 f1 f2 f3
        obtain ⟨x, hx⟩ : ∃ x, x = ns[k] := ⟨_, rfl⟩
        rw [← hx] at f0 f1 f2 f3
        have hgw : ∀ j, wr.cell? ⟨g, off + j, none⟩ = w.cell? ⟨g, off + j, none⟩ := fun j => Hf.out.cell (p := ⟨g, off + j, none⟩) hg (by simp)
        have e0 := (hgw _).trans (hc _ _ f0)
        have e1 := (hgw _).trans (hc _ _ f1)
        have e2 := (hgw _).trans (hc _ _ f2)
        have e3 := (hgw _).trans (hc _ _ f3)
        simp only [← Nat.add_assoc] at e1 e2 e3
        have hgr : g < wr.heap.size := by omega
        have Hx := Lib.hid hx
        clear hx hc f0 f1 f2 f3 hgw
        have hJ : ∀ w1, Fr [] wr w1 → Calls Try.prog 46 #[.pointer (some ⟨b, 0, none⟩), .int .i64 x.a, .int .i64 x.b, .int .i64 x.c, .int .i64 x.d] w1 (JoinPost w1 b s (ns.take k) F' x) := fun w1 hf => Join_calls (hS'.fr hf (by simp)) x
        go_wp2_with fail
        refine (hJ _ (by (repeat (first | exact Fr.refl _ _ | assumption | apply Fr.drewN | apply Fr.drew | apply Fr.alloc | refine Fr.setCell ?_ (Or.inr (by simp; try omega)) _)))).mono ?_
        clear hJ
        rintro e w2 ⟨rfl, F2, hS2, hf2, hF2⟩
        have hb2 : w2.heap[w.heap.size]? = some (.cells #[.int .i64 s, .slice (some ⟨g, off, none⟩) ns.length c] 56 (0, 0)) := by
          refine (hf2.block _ (by simp; omega) fun h => ?_).trans ?_
          · have := HF.out _ h; omega
          · rw [← HB.out]; (repeat (first | rw [if_pos (by omega)] | rw [if_neg (by omega)] | rw [hp_drew] | rw [hp_drewN] | rw [hp_alloc_size] | rw [hp_setCell_size] | rw [hp_alloc] | rw [hp_setCell] | rw [Option.map_some] | rw [upd_cells] | rw [List.set_cons_zero] | rw [List.set_cons_succ] | rfl))
        have c0 := heap_eq_cell hb2 0
        have c1 := heap_eq_cell hb2 1
        have hlk : (ns.take k).length = k := by rw [List.length_take]; omega
        have hfr2 : Fr [] w w2 := by
          have h1 : Fr F' wr w2 := by
            refine Fr.trans ?_ hf2 fun x hx => .inl hx
            (repeat (first | exact Fr.refl _ _ | assumption | apply Fr.drewN | apply Fr.drew | apply Fr.alloc | refine Fr.setCell ?_ (Or.inr (by simp; try omega)) _))
          refine Hf.out.trans (h1) fun x hx => ?_
          right; have := HF.out x hx; omega
        have Hb2 := Lib.hid hb2
        have Hlk := Lib.hid hlk
        have Hf2 := Lib.hid hf2
        have HF2 := Lib.hid hF2
        have Hfr2 := Lib.hid hfr2
        clear hb2 hlk hf2 hF2 hfr2
        have hl5 : ns.length ≤ 100000 := Hl.out
        have hk5 : k < 100000 := by omega
        have Hk5 := Lib.hid hk5
        clear hl5 hk5
        by_cases hok : Fits s (ns.take k) x ∧ x ∉ ns.take k
        · have hj := join_ok hok.1 hok.2 (by rw [Hlk.out]; exact Hk5.out)
          rw [Hlk.out] at hj
          rw [hj] at hS2 ⊢
          have Hok := Lib.hid hok
          clear hok hj
          go_wp2
          go_roundw
          case rel =>
            have hx := Hx.out
            have ht : ns.take (k + 1) = ns.take k ++ [x] := by rw [take_snoc hlt, hx]
            refine ⟨k + 1, F2, by go_num, by omega, ?_, by rw [ht]; exact hS2, Hfr2.out, fun y hy => ?_, Hb2.out⟩
            · rw [ht]; exact HG.out.snoc Hok.out.1 Hok.out.2 (by rw [Hlk.out]; exact Hk5.out)
            · rcases HF2.out y hy with h | h
              · exact HF.out y h
              · simp at h; omega
          case measure => simp [intOf]; omega
        · have hjb := join_bad hok (by rw [Hlk.out]; exact Hk5.out)
          rw [Hlk.out] at hjb
          have hng : ¬ GoodQ s ns := fun h => hok (by rw [Hx.out]; exact goodQ_step h hlt)
          have Hng := Lib.hid hng
          clear hok hng hS2
          generalize (join s (ns.take k) x).1.1 = r at *
          generalize (join s (ns.take k) x).1.2 = q at *
          by_cases hq : q = 0
          · subst hq
            have hr : r ≠ s + k := by rcases hjb with h | h <;> omega
            have hrb : (r != s + ↑k) = true := by simpa using hr
            clear hjb hr
            go_wp2
            go_ret2
            exact ⟨fun h => absurd h Hng.out, fun _ => ⟨rfl, Hfr2.out⟩⟩
          · have hqb : (q != 0) = true := by simpa using hq
            clear hjb hq
            go_wp2
            go_ret2
            exact ⟨fun h => absurd h Hng.out, fun _ => ⟨rfl, Hfr2.out⟩⟩
      · obtain rfl : k = ns.length := by omega
        go_wp2
        go_ret2
        have hg := HG.out
        rw [List.take_length] at hg hS'
        exact ⟨fun _ => ⟨b, F', rfl, hS', Hf.out, fun x hx => by have := HF.out x hx; omega⟩, fun h => absurd hg h⟩
end Go.Proofs.Ytdanghnadbkhfaa
end

section
/- The reference of layer 25: Right. -/
namespace Go.Proofs.Ytdanghnadbkhfaa
set_option linter.unusedVariables false
set_option linter.unusedSimpArgs false
open Go Go.RowKit Go.Proofs.Rg Go.Proofs.Mp Go.Proofs.Hp Go.Proofs.Qs
theorem findR_cases (ns : List K4) (k : K4) : (k ∈ ns ∧ 0 ≤ findR ns k ∧ findR ns k < ns.length) ∨ (k ∉ ns ∧ findR ns k = -1) := by
  unfold findR
  cases h : ns.idxOf? k with
  | some i =>
    left
    rw [List.idxOf?_eq_some_iff] at h
    obtain ⟨h1, h2, _⟩ := h
    have h3 : ns[i] = k := by simpa using h2
    refine ⟨by rw [← h3]; exact List.getElem_mem _, ?_, ?_⟩ <;> simp <;> omega
  | none => right; exact ⟨by simpa using h, rfl⟩
set_option maxHeartbeats 2000000 in
set_option maxRecDepth 100000 in
theorem R25Right_calls {w : World} {s : Int} {ns : List K4} {v : Value} (hl : ns.length ≤ 90000) (hv : Reads w v ns.length 4 (flat ns)) :
    Calls Try.prog 48 #[.agg #[.int .i64 s, v]] w fun e w' => e = .returned (.bool (decide (GoodQ s ns))) ∧ Fr [] w w' := by
  have hvk := hv
  obtain ⟨_, a, c, rfl, hav⟩ := hv
  have Hav := Lib.hid hav
  have Hvk := Lib.hid hvk
  have Hl := Lib.hid hl
  clear hav hvk hl
  obtain ⟨i0, hi0, hi1, hi2, hi3⟩ := info_parts info_quad
  by_cases hs1 : s < 2
  · have hng : ¬ GoodQ s ns := fun h => by have := h.1; omega
    have Hng := Lib.hid hng
    clear hng
    go_enter Try.func48, Try.ntmps48
    go_wp2
    go_ret
    exact ⟨by rw [decide_eq_false Hng.out]; rfl, by (repeat (first | exact Fr.refl _ _ | assumption | apply Fr.drewN | apply Fr.drew | apply Fr.alloc | refine Fr.setCell ?_ (Or.inr (by simp; try omega)) _))⟩
  by_cases hs2 : 8 < s
  · have hng : ¬ GoodQ s ns := fun h => by have := h.2.1; omega
    have Hng := Lib.hid hng
    clear hng
    go_enter Try.func48, Try.ntmps48
    go_wp2
    go_ret
    exact ⟨by rw [decide_eq_false Hng.out]; rfl, by (repeat (first | exact Fr.refl _ _ | assumption | apply Fr.drewN | apply Fr.drew | apply Fr.alloc | refine Fr.setCell ?_ (Or.inr (by simp; try omega)) _))⟩
  have hd : decide ((100000 : Int) < ↑ns.length) = false := by have := Hl.out; simp; omega
  go_enter Try.func48, Try.ntmps48
  go_wp2
  clear hd
  go_loopw [4] (fun x wr => ∃ (k : Nat) (nv : Value), x = .int .i64 k ∧ k ≤ ns.length ∧ Fr [] w wr ∧ w.heap.size + 2 ≤ wr.heap.size ∧ wr.heap[w.heap.size]? = some (.cells #[.int .i64 s, .slice a ns.length c] 56 (0, 0)) ∧
      wr.heap[w.heap.size + 1]? = some (.cells #[.int .i64 s, nv] 56 (0, 0)) ∧
      wr.ownsRow (w.heap.size + 2) 136 4 nv k (flat (ns.take k)) ∧ GoodQ s (ns.take k)) (fun x _ => ns.length - (intOf x).toNat)
  case atStart =>
    refine ⟨0, .slice none 0 0, rfl, by omega, ?_, ?_, ?_, ?_, World.ownsRow_nil _ _ _ _, GoodQ.nil (by omega) (by omega)⟩
    · (repeat (first | exact Fr.refl _ _ | assumption | apply Fr.drewN | apply Fr.drew | apply Fr.alloc | refine Fr.setCell ?_ (Or.inr (by simp; try omega)) _))
    · simp only [hp_alloc_size, hp_setCell_size]; omega
    · (repeat (first | rw [if_pos (by omega)] | rw [if_neg (by omega)] | rw [hp_drew] | rw [hp_drewN] | rw [hp_alloc_size] | rw [hp_setCell_size] | rw [hp_alloc] | rw [hp_setCell] | rw [Option.map_some] | rw [upd_cells] | rw [List.set_cons_zero] | rw [List.set_cons_succ] | rfl))
    · (repeat (first | rw [if_pos (by omega)] | rw [if_neg (by omega)] | rw [hp_drew] | rw [hp_drewN] | rw [hp_alloc_size] | rw [hp_setCell_size] | rw [hp_alloc] | rw [hp_setCell] | rw [Option.map_some] | rw [upd_cells] | rw [List.set_cons_zero] | rw [List.set_cons_succ] | rfl))
  case round =>
    obtain ⟨k, nv, rfl, hk, hf, hsz, hb0, hb1, hown, hgood⟩ := hrel
    have b0 := heap_eq_cell hb0 0
    have b1 := heap_eq_cell hb0 1
    have o0 := heap_eq_cell hb1 0
    have o1 := heap_eq_cell hb1 1
    have hz1 : w.heap.size + 1 < wr.heap.size := by omega
    have Hsz := Lib.hid hsz
    have hnb : ∀ x, nv.ownBlock = some x → w.heap.size + 2 ≤ x := fun x hx => owns_ge hown hx
    have Hnb := Lib.hid hnb
    have Hf := Lib.hid hf
    have H0 := Lib.hid hb0
    have H1 := Lib.hid hb1
    have Hown := Lib.hid hown
    have Hgood := Lib.hid hgood
    obtain ⟨na, nc, rfl, _, _⟩ := owns_form hown
    clear hf hb0 hb1 hown hsz hnb hgood
    by_cases hlt : k < ns.length
    · obtain ⟨g, off, rfl, hg, hc⟩ := Hav.out (by omega)
      obtain ⟨f0, f1, f2, f3⟩ := flat_get (List.getElem?_eq_getElem hlt)
      rw [Nat.mul_comm] at f0 f1 f2 f3
      obtain ⟨x, hx⟩ : ∃ x, x = ns[k] := ⟨_, rfl⟩
      rw [← hx] at f0 f1 f2 f3
      have hgw : ∀ j, wr.cell? ⟨g, off + j, none⟩ = w.cell? ⟨g, off + j, none⟩ := fun j => Hf.out.cell (p := ⟨g, off + j, none⟩) hg (by simp)
      have e0 := (hgw _).trans (hc _ _ f0)
      have e1 := (hgw _).trans (hc _ _ f1)
      have e2 := (hgw _).trans (hc _ _ f2)
      have e3 := (hgw _).trans (hc _ _ f3)
      simp only [← Nat.add_assoc] at e1 e2 e3
      have hgr : g < wr.heap.size := by have := Hf.out.size; omega
      have E0 := hc _ _ f0
      have E1 := hc _ _ f1
      have E2 := hc _ _ f2
      have E3 := hc _ _ f3
      simp only [← Nat.add_assoc] at E1 E2 E3
      have HE := Lib.hid (And.intro E0 (And.intro E1 (And.intro E2 E3)))
      clear E0 E1 E2 E3
      have Hx := Lib.hid hx
      clear hx hc f0 f1 f2 f3 hgw
      have hlk : (ns.take k).length = k := by rw [List.length_take]; omega
      have Hlk := Lib.hid hlk
      clear hlk
      have hR : ∀ w1, Fr [] wr w1 → Reads w1 (.slice na k nc) (ns.take k).length 4 (flat (ns.take k)) := fun w1 hf1 => by rw [Hlk.out]; exact (Reads.of_owns Hown.out).fr hf1
      have HR := Lib.hid hR
      clear hR
      obtain ⟨la, hla⟩ : ∃ la, la = lvl s (levs s (ns.take k)) x.a := ⟨_, rfl⟩
      obtain ⟨lb, hlb⟩ : ∃ lb, lb = lvl s (levs s (ns.take k)) x.b := ⟨_, rfl⟩
      obtain ⟨lc, hlc⟩ : ∃ lc, lc = lvl s (levs s (ns.take k)) x.c := ⟨_, rfl⟩
      obtain ⟨ld, hld⟩ : ∃ ld, ld = lvl s (levs s (ns.take k)) x.d := ⟨_, rfl⟩
      obtain ⟨fi, hfi⟩ : ∃ fi, fi = findR (ns.take k) x := ⟨_, rfl⟩
      have Hla := Lib.hid hla
      have Hlb := Lib.hid hlb
      have Hlc := Lib.hid hlc
      have Hld := Lib.hid hld
      have Hfi := Lib.hid hfi
      clear hla hlb hlc hld hfi
      have hsp : GoodQ s ns → 0 ≤ la ∧ la < 256 ∧ lb = la ∧ lc = la ∧ ld = la ∧ fi < 0 := fun h => by
        obtain ⟨⟨h0, h1, h2, h3, h4⟩, hn⟩ := goodQ_step h hlt
        have hx := Hx.out
        subst hx
        rw [Hla.out, Hlb.out, Hlc.out, Hld.out, Hfi.out]
        refine ⟨h0, h1, h2, h3, h4, ?_⟩
        rcases findR_cases (ns.take k) ns[k] with h5 | h5
        · exact absurd h5.1 hn
        · rw [h5.2]; omega
      have Hsp := Lib.hid hsp
      clear hsp
      go_wp2_with fail
      have hk3 : (wr.alloc (.cells #[.int .i64 x.a, .int .i64 x.b, .int .i64 x.c, .int .i64 x.d] 97)).heap[wr.heap.size]? = some (.cells #[.int .i64 x.a, .int .i64 x.b, .int .i64 x.c, .int .i64 x.d] 97 (0, 0)) := by (repeat (first | rw [if_pos (by omega)] | rw [if_neg (by omega)] | rw [hp_drew] | rw [hp_drewN] | rw [hp_alloc_size] | rw [hp_setCell_size] | rw [hp_alloc] | rw [hp_setCell] | rw [Option.map_some] | rw [upd_cells] | rw [List.set_cons_zero] | rw [List.set_cons_succ] | rfl))
      have hf3 : Fr [] wr (wr.alloc (.cells #[.int .i64 x.a, .int .i64 x.b, .int .i64 x.c, .int .i64 x.d] 97)) := by (repeat (first | exact Fr.refl _ _ | assumption | apply Fr.drewN | apply Fr.drew | apply Fr.alloc | refine Fr.setCell ?_ (Or.inr (by simp; try omega)) _))
      generalize wr.alloc (.cells #[.int .i64 x.a, .int .i64 x.b, .int .i64 x.c, .int .i64 x.d] 97) = w3 at *
      have hcells : ∀ w', Fr [] w3 w' → w'.cell? ⟨w.heap.size + 1, 0, none⟩ = some (.int .i64 s) ∧ w'.cell? ⟨w.heap.size + 1, 1, none⟩ = some (.slice na k nc) ∧ w'.cell? ⟨wr.heap.size, 0, none⟩ = some (.int .i64 x.a) ∧ w'.cell? ⟨wr.heap.size, 1, none⟩ = some (.int .i64 x.b) ∧
          w'.cell? ⟨wr.heap.size, 2, none⟩ = some (.int .i64 x.c) ∧ w'.cell? ⟨wr.heap.size, 3, none⟩ = some (.int .i64 x.d) := fun w' hf' => by
        have hp := ((hf3.trans0 hf').block _ (lt_of_block H1.out) (by simp)).trans H1.out
        have hq := (hf'.block _ (lt_of_block hk3) (by simp)).trans hk3
        exact ⟨heap_eq_cell hp 0, heap_eq_cell hp 1, heap_eq_cell hq 0, heap_eq_cell hq 1, heap_eq_cell hq 2, heap_eq_cell hq 3⟩
      have hLev : ∀ (w1 : World) (id l : Int), l = lvl s (levs s (ns.take k)) id → Fr [] w3 w1 → Calls Try.prog 73 #[.agg #[.int .i64 s, .slice na k nc], .int .i64 id] w1 fun e w' => e = .returned (.int .i64 l) ∧ Fr [] w3 w' ∧ w'.cell? ⟨w.heap.size + 1, 0, none⟩ = some (.int .i64 s) ∧ w'.cell? ⟨w.heap.size + 1, 1, none⟩ = some (.slice na k nc) ∧ w'.cell? ⟨wr.heap.size, 0, none⟩ = some (.int .i64 x.a) ∧ w'.cell? ⟨wr.heap.size, 1, none⟩ = some (.int .i64 x.b) ∧
          w'.cell? ⟨wr.heap.size, 2, none⟩ = some (.int .i64 x.c) ∧ w'.cell? ⟨wr.heap.size, 3, none⟩ = some (.int .i64 x.d) := fun w1 id l hl1 hf1 => by
        refine (level_ref Hgood.out (HR.out w1 (hf3.trans0 hf1)) id).mono ?_
        rintro e w' ⟨rfl, o, rfl⟩
        exact ⟨by rw [hl1], hf1.alloc o, hcells _ (hf1.alloc o)⟩
      have hFind : ∀ (w1 : World), Fr [] w3 w1 → Calls Try.prog 74 #[.agg #[.int .i64 s, .slice na k nc], .agg #[.int .i64 x.a, .int .i64 x.b, .int .i64 x.c, .int .i64 x.d]] w1 fun e w' => e = .returned (.int .i64 fi) ∧ Fr [] w3 w' := fun w1 hf1 => by
        refine (find_ref (s := s) (by rw [Hlk.out]; have := Hl.out; omega) (HR.out w1 (hf3.trans0 hf1)) x).mono ?_
        rintro e w' ⟨rfl, o1, o2, n, rfl⟩
        exact ⟨by rw [Hfi.out], ((hf1.alloc o1).alloc o2).drewN n⟩
      have hcs := hcells w3 (Fr.refl _ _)
      have HLev := Lib.hid hLev
      have HFind := Lib.hid hFind
      have Hf3 := Lib.hid hf3
      have Hk3 := Lib.hid hk3
      clear hLev hFind hcells hf3 hk3 b0 b1 o0 o1 e0 e1 e2 e3
      obtain ⟨c0, c1, k0, k1, k2, k3⟩ := hcs
      clear c0 c1 k0 k1 k2 k3
      refine (HLev.out _ _ _ Hla.out (Fr.refl _ _)).mono ?_
      rintro e w4 ⟨rfl, hf, c0, c1, k0, k1, k2, k3⟩
      have Hf_w4 := Lib.hid hf
      clear hf
      go_wp2_with fail
      any_goals (go_ret; refine ⟨?_, (Hf.out.trans0 Hf3.out).trans0 Hf_w4.out⟩; rw [decide_eq_false (p := GoodQ s ns) fun h => by have := Hsp.out h; omega]; rfl)
      clear c0 c1 k0 k1 k2 k3
      refine (HLev.out _ _ _ Hlb.out Hf_w4.out).mono ?_
      rintro e w5 ⟨rfl, hf, c0, c1, k0, k1, k2, k3⟩
      have Hf_w5 := Lib.hid hf
      clear hf
      go_wp2_with fail
      any_goals (go_ret; refine ⟨?_, (Hf.out.trans0 Hf3.out).trans0 Hf_w5.out⟩; rw [decide_eq_false (p := GoodQ s ns) fun h => by have := Hsp.out h; omega]; rfl)
      clear c0 c1 k0 k1 k2 k3
      refine (HLev.out _ _ _ Hlc.out Hf_w5.out).mono ?_
      rintro e w6 ⟨rfl, hf, c0, c1, k0, k1, k2, k3⟩
      have Hf_w6 := Lib.hid hf
      clear hf
      go_wp2_with fail
      any_goals (go_ret; refine ⟨?_, (Hf.out.trans0 Hf3.out).trans0 Hf_w6.out⟩; rw [decide_eq_false (p := GoodQ s ns) fun h => by have := Hsp.out h; omega]; rfl)
      clear c0 c1 k0 k1 k2 k3
      refine (HLev.out _ _ _ Hld.out Hf_w6.out).mono ?_
      rintro e w7 ⟨rfl, hf, c0, c1, k0, k1, k2, k3⟩
      have Hf_w7 := Lib.hid hf
      clear hf
      go_wp2_with fail
      any_goals (go_ret; refine ⟨?_, (Hf.out.trans0 Hf3.out).trans0 Hf_w7.out⟩; rw [decide_eq_false (p := GoodQ s ns) fun h => by have := Hsp.out h; omega]; rfl)
      clear c0 c1 k0 k1 k2 k3
      refine (HFind.out _ Hf_w7.out).mono ?_
      rintro e w8 ⟨rfl, hf⟩
      have Hf8 := Lib.hid hf
      clear hf
      have hf8 : Fr [] wr w8 := Hf3.out.trans0 Hf8.out
      have hp := (hf8.block _ (lt_of_block H1.out) (by simp)).trans H1.out
      have hq := (hf8.block _ (lt_of_block H0.out) (by simp)).trans H0.out
      have o0 := heap_eq_cell hp 0
      have o1 := heap_eq_cell hp 1
      have p1 := heap_eq_frozen hp 1
      have b1 := heap_eq_cell hq 1
      obtain ⟨E0, E1, E2, E3⟩ := HE.out
      have hgw : ∀ j, w8.cell? ⟨g, j, none⟩ = w.cell? ⟨g, j, none⟩ := fun j => (Hf.out.trans0 hf8).cell (p := ⟨g, j, none⟩) hg (by simp)
      have e0 := (hgw _).trans E0
      have e1 := (hgw _).trans E1
      have e2 := (hgw _).trans E2
      have e3 := (hgw _).trans E3
      have hown8 := owns_of_block Hown.out fun y hy => hf8.block y (owns_lt Hown.out hy) (by simp)
      have hsz8 := hf8.size
      have hz1 : w.heap.size + 1 < w8.heap.size := by have := Hsz.out; omega
      have hg8 : g < w8.heap.size := by omega
      have Hown8 := Lib.hid hown8
      have HP8 := Lib.hid hp
      have HQ8 := Lib.hid hq
      have Hf8w := Lib.hid (Hf.out.trans0 hf8)
      have Hsz8 := Lib.hid hsz8
      clear hf8 hp hq E0 E1 E2 E3 hgw hown8 hsz8 HLev HFind
      go_wp2_with fail
      any_goals (go_ret; refine ⟨?_, Hf8w.out⟩; rw [decide_eq_false (p := GoodQ s ns) fun h => by have := Hsp.out h; omega]; rfl)
      have hadd : Fits s (ns.take k) x ∧ x ∉ ns.take k := by
        have ha := Hla.out
        have hb := Hlb.out
        have hc := Hlc.out
        have hd := Hld.out
        refine ⟨⟨by omega, by omega, by omega, by omega, by omega⟩, fun hm => ?_⟩
        rcases findR_cases (ns.take k) x with h | h
        · have := Hfi.out; omega
        · exact h.1 hm
      have hg1 : GoodQ s (ns.take (k + 1)) := by
        rw [take_snoc hlt, ← Hx.out]
        exact Hgood.out.snoc hadd.1 hadd.2 (by rw [Hlk.out]; have := Hl.out; omega)
      have Hg1 := Lib.hid hg1
      have hk9 : k < 90000 := by have := Hl.out; omega
      clear hadd hg1 Hsp
      (refine wp_region_text (by kernel_rfl) (by kernel_rfl) ?_)
      go_wp2_with (at_builtin; refine append_quad (k := x) (n := k) (base := w.heap.size + 2) (xs := flat (ns.take k)) rfl rfl rfl ?e1 rfl ?e2 ?e3 ?e4 ?_)
      case e1 => exact owns_of_block Hown8.out fun y hy => by rw [hp_drew]; exact heap_alloc_else _ _ _ (owns_lt Hown8.out hy)
      case e2 => (repeat (first | rw [if_pos (by omega)] | rw [if_neg (by omega)] | rw [hp_drew] | rw [hp_drewN] | rw [hp_alloc_size] | rw [hp_setCell_size] | rw [hp_alloc] | rw [hp_setCell] | rw [Option.map_some] | rw [upd_cells] | rw [List.set_cons_zero] | rw [List.set_cons_succ] | rfl))
      case e3 => have := Hl.out; omega
      case e4 => rw [hp_drew, hp_alloc_size]; omega
      intro g' cap w9 hown1 hW1 hF1 hloc1 hg1
      have old : ∀ y, y < w.heap.size + 2 → w9.heap[y]? = w8.heap[y]? := fun y hy => (hW1 y (by omega) (fun e => by have := Hnb.out y e; omega)).trans (by rw [hp_drew]; exact heap_alloc_else _ _ _ (by omega))
      have hb2 := (old (w.heap.size + 1) (by omega)).trans HP8.out
      have o0 := heap_eq_cell hb2 0
      have o1 := heap_eq_cell hb2 1
      have p1 := heap_eq_frozen hb2 1
      have Hown1 := Lib.hid hown1
      have Hold := Lib.hid old
      have HF1 := Lib.hid hF1
      have HB2 := Lib.hid hb2
      clear hown1 hW1 hF1 hloc1 old hb2
      have hs1 : w.heap.size + 1 < w9.heap.size := lt_of_block HB2.out
      go_wp2
      refine Strict.intro rfl ?_
      go_wp2
      go_roundw
      case rel =>
        have hG : w.heap.size + 2 ≤ g' := owns_ge Hown1.out rfl
        refine ⟨k + 1, .slice (some ⟨g', 0, none⟩) (k + 1) cap, by go_num, by omega, ?_, ?_, ?_, ?_, ?_, Hg1.out⟩
        · refine (((Hf8w.out.alloc _).drew).trans HF1.out fun y hy => ?_).setCell (Or.inr (by simp)) _
          have := Hnb.out y (by simpa using hy)
          right; omega
        · rw [hp_setCell_size]; omega
        · rw [hp_setCell, if_neg (by omega), Hold.out _ (by omega)]; exact HQ8.out
        · rw [hp_setCell, if_pos rfl, HB2.out]; rfl
        · have ht : flat (ns.take (k + 1)) = flat (ns.take k) ++ kcells x := by
            rw [List.take_add_one, List.getElem?_eq_getElem hlt, ← Hx.out]
            exact flat_snoc _ _
          rw [ht]
          refine owns_of_block Hown1.out fun y hy => ?_
          have : g' = y := by simpa [Value.ownBlock] using hy
          rw [hp_setCell, if_neg (by omega)]
      case measure => simp [intOf]; omega
    · obtain rfl : k = ns.length := by omega
      have hgood := Hgood.out
      rw [List.take_length] at hgood
      have Hgd := Lib.hid hgood
      clear hgood
      go_wp2
      go_ret
      exact ⟨by rw [decide_eq_true Hgd.out]; rfl, Hf.out⟩
end Go.Proofs.Ytdanghnadbkhfaa
end

section
/- The reference of layer 25: copied. -/
namespace Go.Proofs.Ytdanghnadbkhfaa
set_option linter.unusedVariables false
set_option linter.unusedSimpArgs false
open Go Go.RowKit Go.Proofs.Rg Go.Proofs.Mp Go.Proofs.Hp Go.Proofs.Qs
def CopyPost (w : World) (s : Int) (ns : List K4) (e : Ending) (w' : World) : Prop := ∃ v, e = .returned (.agg #[.int .i64 s, v]) ∧ w'.ownsRow w.heap.size 136 4 v ns.length (flat ns) ∧ Fr [] w w'
set_option maxHeartbeats 4000000 in
theorem copied_ref {w : World} {s : Int} {ns : List K4} {v : Value} (hl : ns.length ≤ 1048576) (hv : Reads w v ns.length 4 (flat ns)) :
    Calls Try.prog 75 #[.agg #[.int .i64 s, v]] w (CopyPost w s ns) := by
  have hvk := hv
  obtain ⟨_, a, c, rfl, hav⟩ := hv
  have Hav := Lib.hid hav
  have Hvk := Lib.hid hvk
  clear hav hvk
  obtain ⟨i0, hi0, hi1, hi2, hi3⟩ := info_parts info_quad
  go_enter Try.func75, Try.ntmps75
  go_wp2
  go_loopw [4] (fun x wr => ∃ (k : Nat) (nv : Value), x = .int .i64 k ∧ k ≤ ns.length ∧ Fr [] w wr ∧ w.heap.size + 3 ≤ wr.heap.size ∧ wr.heap[w.heap.size]? = some (.cells #[.int .i64 s, .slice a ns.length c] 56 (0, 0)) ∧
      wr.heap[w.heap.size + 1]? = some (.cells #[.int .i64 0, .slice none 0 0] 56 (0, 0)) ∧ wr.heap[w.heap.size + 2]? = some (.cells #[.int .i64 s, nv] 56 (0, 0)) ∧
      wr.ownsRow (w.heap.size + 3) 136 4 nv k (flat (ns.take k))) (fun x _ => ns.length - (intOf x).toNat)
  case atStart =>
    refine ⟨0, .slice none 0 0, rfl, by omega, ?_, ?_, ?_, ?_, ?_, World.ownsRow_nil _ _ _ _⟩
    · repeat (first | exact Fr.refl _ _ | apply Fr.drewN | apply Fr.drew | apply Fr.alloc | refine Fr.setCell ?_ (Or.inr (by simp)) _)
    · simp only [hp_alloc_size]; omega
    · (repeat (first | rw [if_pos (by omega)] | rw [if_neg (by omega)] | rw [hp_drew] | rw [hp_drewN] | rw [hp_alloc_size] | rw [hp_setCell_size] | rw [hp_alloc] | rw [hp_setCell] | rw [Option.map_some] | rw [upd_cells] | rw [List.set_cons_zero] | rw [List.set_cons_succ] | rfl))
    · (repeat (first | rw [if_pos (by omega)] | rw [if_neg (by omega)] | rw [hp_drew] | rw [hp_drewN] | rw [hp_alloc_size] | rw [hp_setCell_size] | rw [hp_alloc] | rw [hp_setCell] | rw [Option.map_some] | rw [upd_cells] | rw [List.set_cons_zero] | rw [List.set_cons_succ] | rfl))
    · (repeat (first | rw [if_pos (by omega)] | rw [if_neg (by omega)] | rw [hp_drew] | rw [hp_drewN] | rw [hp_alloc_size] | rw [hp_setCell_size] | rw [hp_alloc] | rw [hp_setCell] | rw [Option.map_some] | rw [upd_cells] | rw [List.set_cons_zero] | rw [List.set_cons_succ] | rfl))
  case round =>
    obtain ⟨k, nv, rfl, hk, hf, hsz, hb0, hb1, hb2, hown⟩ := hrel
    have b0 := heap_eq_cell hb0 0
    have b1 := heap_eq_cell hb0 1
    have r0 := heap_eq_cell hb1 0
    have r1 := heap_eq_cell hb1 1
    have q0 := heap_eq_frozen hb1 0
    have q1 := heap_eq_frozen hb1 1
    have o0 := heap_eq_cell hb2 0
    have o1 := heap_eq_cell hb2 1
    have p1 := heap_eq_frozen hb2 1
    have Hsz := Lib.hid hsz
    have hz0 : w.heap.size < wr.heap.size := by omega
    have hz1 : w.heap.size + 1 < wr.heap.size := by omega
    have hz2 : w.heap.size + 2 < wr.heap.size := by omega
    have hnb : ∀ x, nv.ownBlock = some x → w.heap.size + 3 ≤ x := fun x hx => owns_ge hown hx
    have Hnb := Lib.hid hnb
    have Hf := Lib.hid hf
    have H0 := Lib.hid hb0
    have H1 := Lib.hid hb1
    have H2 := Lib.hid hb2
    have Hown := Lib.hid hown
    obtain ⟨na, nc, rfl, _, _⟩ := owns_form hown
    clear hf hb0 hb1 hb2 hown hsz hnb
    by_cases hlt : k < ns.length
    · obtain ⟨g, off, rfl, hg, hc⟩ := Hav.out (by omega)
      obtain ⟨f0, f1, f2, f3⟩ := flat_get (List.getElem?_eq_getElem hlt)
      rw [Nat.mul_comm] at f0 f1 f2 f3
      obtain ⟨x, hx⟩ : ∃ x, x = ns[k] := ⟨_, rfl⟩
      rw [← hx] at f0 f1 f2 f3
      have hgw : ∀ j, wr.cell? ⟨g, off + j, none⟩ = w.cell? ⟨g, off + j, none⟩ := fun j => Hf.out.cell (p := ⟨g, off + j, none⟩) hg (by simp)
      have e0 := (hgw _).trans (hc _ _ f0)
      have e1 := (hgw _).trans (hc _ _ f1)
      have e2 := (hgw _).trans (hc _ _ f2)
      have e3 := (hgw _).trans (hc _ _ f3)
      simp only [← Nat.add_assoc] at e1 e2 e3
      have hgr : g < wr.heap.size := by omega
      have Hx := Lib.hid hx
      clear hx hc f0 f1 f2 f3 hgw
      go_wp2
      (refine wp_region_text (by kernel_rfl) (by kernel_rfl) ?_)
      go_wp2_with (at_builtin; refine append_quad (k := x) (n := k) (base := w.heap.size + 3) (xs := flat (ns.take k)) rfl rfl rfl ?e1 rfl ?e2 ?e3 ?e4 ?_)
      case e1 => exact owns_of_block Hown.out fun y hy => by rw [hp_drew]; exact heap_alloc_else _ _ _ (owns_lt Hown.out hy)
      case e2 => (repeat (first | rw [if_pos (by omega)] | rw [if_neg (by omega)] | rw [hp_drew] | rw [hp_drewN] | rw [hp_alloc_size] | rw [hp_setCell_size] | rw [hp_alloc] | rw [hp_setCell] | rw [Option.map_some] | rw [upd_cells] | rw [List.set_cons_zero] | rw [List.set_cons_succ] | rfl))
      case e3 => omega
      case e4 => rw [hp_drew, hp_alloc_size]; omega
      intro g' cap w1 hown1 hW1 hF1 hloc1 hg1
      have old : ∀ y, y < w.heap.size + 3 → w1.heap[y]? = wr.heap[y]? := fun y hy => (hW1 y (by have := Hsz.out; first | omega | (simp only [hp_drew, hp_alloc_size]; omega)) (fun e => by have := Hnb.out y e; omega)).trans (by rw [hp_drew]; exact heap_alloc_else _ _ _ (by have := Hsz.out; omega))
      have hb2 := (old (w.heap.size + 2) (by omega)).trans H2.out
      have o0 := heap_eq_cell hb2 0
      have o1 := heap_eq_cell hb2 1
      have p1 := heap_eq_frozen hb2 1
      have Hown1 := Lib.hid hown1
      have Hold := Lib.hid old
      have HF1 := Lib.hid hF1
      have HB2 := Lib.hid hb2
      clear hown1 hW1 hF1 hloc1 old hb2
      have hs1 : w.heap.size + 2 < w1.heap.size := lt_of_block HB2.out
      go_wp2
      refine Strict.intro rfl ?_
      go_wp2
      go_roundw
      case rel =>
        have hG : w.heap.size + 3 ≤ g' := owns_ge Hown1.out rfl
        refine ⟨k + 1, .slice (some ⟨g', 0, none⟩) (k + 1) cap, by go_num, by omega, ?_, ?_, ?_, ?_, ?_, ?_⟩
        · refine (((Hf.out.alloc _).drew).trans HF1.out fun y hy => ?_).setCell (Or.inr (by simp; omega)) _
          have := Hnb.out y (by simpa using hy)
          right; omega
        · rw [hp_setCell_size]; have := HF1.out.size; simp only [hp_drew, hp_alloc_size] at this; have := Hsz.out; omega
        · rw [hp_setCell, if_neg (by omega), Hold.out _ (by omega)]; exact H0.out
        · rw [hp_setCell, if_neg (by omega), Hold.out _ (by omega)]; exact H1.out
        · rw [hp_setCell, if_pos rfl, HB2.out]; rfl
        · have ht : flat (ns.take (k + 1)) = flat (ns.take k) ++ kcells x := by
            rw [List.take_add_one, List.getElem?_eq_getElem hlt, ← Hx.out]
            exact flat_snoc _ _
          rw [ht]
          refine owns_of_block Hown1.out fun y hy => ?_
          have : g' = y := by simpa [Value.ownBlock] using hy
          rw [hp_setCell, if_neg (by omega)]
      case measure => simp [intOf]; omega
    · go_wp2
      refine bodyPost_ret (v := .agg #[.int .i64 s, .slice na k nc]) (by simp [results, Try.results75, go_sem, r0, r1]) rfl ⟨_, rfl, ?_, ?_⟩
      · have hkn : k = ns.length := by omega
        subst hkn
        rw [List.take_of_length_le (Nat.le_refl _)] at Hown
        refine owns_of_block (owns_base Hown.out (by omega)) fun y hy => ?_
        have := Hnb.out y hy
        exact heap_setCell2 _ _ _ _ _ _ (by omega)
      · exact (Hf.out.setCell (Or.inr (by simp)) _).setCell (Or.inr (by simp)) _
end Go.Proofs.Ytdanghnadbkhfaa
end
