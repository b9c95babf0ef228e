/- Own texts of this claim, part 23: no condition. -/
import Derived.Test.YtjidldfnlejdhaaZM21
import Derived.Test.YtjidldfnlejdhaaZM2
import Derived.Test.YtjidldfnlejdhaaZM20
import Derived.Test.YtjidldfnlejdhaaZM18
set_option linter.unusedVariables false
set_option linter.unusedSimpArgs false
section
/- solve: Count. -/
namespace Go.Proofs.Ytjidldfnlejdhaa
open Go Go.RowKit Go.Proofs.Rg Go.Proofs.Mp Go.Proofs.Hp Go.Proofs.Sv Go.Proofs.Bn Go.Lib
set_option linter.unusedVariables false
set_option linter.unusedSimpArgs false
abbrev SlV : Type := Option Addr × Nat × Nat
def encS (t : SlV) : Value := .slice t.1 t.2.1 t.2.2
theorem count1_calls (t : SlV) (w : World) : Calls Try.prog 39 #[encS t] w fun e w' => e = .returned (.bool (t.2.1 == 0)) ∧ ∃ q, w' = w.drewN q := by
  obtain ⟨a, n, c⟩ := t
  have hb : (((n : Nat) : Int) == 0) = (n == 0) := by
    rw [Bool.eq_iff_iff]; simp
  unfold encS
  go_enter Try.func39, Try.ntmps39
  go_wp2
  go_ret
  exact ⟨by rw [← hb]; rfl, 0, rfl⟩
def slOf (u : Value) : SlV := match u with | .slice a n c => (a, n, c) | _ => (none, 0, 0)
theorem ContainsE_h {w : World} {a : Option Addr} {c : Nat} {cs : List (List Int)} (h : FormAt w a c cs) (hn : cs.length ≤ 262144) :
    Calls Try.prog 38 #[.slice a cs.length c, .func (.func 39) #[] #[]] w fun e w' => e = .returned (.bool (cs.any fun r => r.length == 0)) ∧ Fr [] w w' := by
  by_cases h0 : cs.length = 0
  · obtain rfl : cs = [] := List.eq_nil_of_length_eq_zero h0
    have hcon := AnyE.slices_ContainsFunc_empty Try.shContainsFunc a c (.func (.func 39) #[] #[]) w
    refine hcon.mono ?_
    rintro e w' ⟨rfl, rfl⟩
    exact ⟨rfl, Fr.refl [] _⟩
  · obtain ⟨⟨vs, hr, hrow⟩, _, _⟩ := h
    obtain ⟨hvl, a', c', he, hp⟩ := hr
    cases he
    obtain ⟨g, off, rfl, hg, hcell⟩ := hp (by omega)
    have hvl' : vs.length = cs.length := by omega
    have hsl : ∀ (j : Nat) (r : List Int), cs[j]? = some r → ∃ u, vs[j]? = some u ∧ encS (slOf u) = u ∧ (slOf u).2.1 = r.length := by
      intro j r hj
      obtain ⟨u, hu, _, a2, c2, rfl, _⟩ := hrow j r hj
      exact ⟨_, hu, rfl, rfl⟩
    have eg : ∀ args w, (callFunc 39 args).run Try.prog w = .ok (.enter 39 args) w := enters_of Try.func39 (by kernel_rfl) rfl
    have hcon := AnyE.slices_ContainsFunc Try.shContainsFunc encS (fun t : SlV => t.2.1 == 0) 39 #[] eg g off cs.length c (vs.map slOf) w (fun W2 t _ => count1_calls t W2) (by simp [hvl']) (by omega) (fun j hj => by
      have hj' : j < cs.length := by simpa [hvl'] using hj
      obtain ⟨u, hu, e1, _⟩ := hsl j _ (List.getElem?_eq_getElem hj')
      rw [hcell j u hu]
      have hjv : j < vs.length := by omega
      have : vs[j] = u := by rw [List.getElem?_eq_getElem hjv] at hu; exact Option.some.inj hu
      simp [hjv, this, e1])
    change Calls Try.prog 38 _ _ _ at hcon
    refine hcon.mono ?_
    rintro e w' ⟨rfl, q, rfl⟩
    refine ⟨?_, by (repeat first | exact Fr.refl _ _ | assumption | apply Fr.n | apply Fr.d | apply Fr.a | refine Fr.s ?_ (.inr (by simp; try omega)) _)⟩
    have e2 : ((vs.map slOf).take cs.length).any (fun t : SlV => t.2.1 == 0) = cs.any fun r => r.length == 0 := by
      rw [List.take_of_length_le (by simp [hvl']), Bool.eq_iff_iff, List.any_eq_true, List.any_eq_true]
      constructor
      · rintro ⟨t, ht, h1⟩
        obtain ⟨u, hu, rfl⟩ := List.mem_map.1 ht
        obtain ⟨j, hj, hju⟩ := List.getElem_of_mem hu
        obtain ⟨u', hu', _, e3⟩ := hsl j cs[j] (List.getElem?_eq_getElem (by omega))
        rw [List.getElem?_eq_getElem hj] at hu'
        obtain rfl : vs[j] = u' := Option.some.inj hu'
        rw [hju] at e3
        exact ⟨cs[j], List.getElem_mem _, by rw [← e3]; exact h1⟩
      · rintro ⟨r, hr, h1⟩
        obtain ⟨j, hj, rfl⟩ := List.getElem_of_mem hr
        obtain ⟨u', hu', _, e3⟩ := hsl j cs[j] (List.getElem?_eq_getElem hj)
        exact ⟨slOf u', List.mem_map_of_mem (List.mem_of_getElem? hu'), by rw [e3]; exact h1⟩
    rw [e2]
theorem cntF_zero {V : Nat} {cs : List (List Int)} (h : cs.any (fun r => r.length == 0) = true) : cntF V cs = 0 := by
  rw [List.any_eq_true] at h
  obtain ⟨r, hr, h1⟩ := h
  obtain rfl : r = [] := List.eq_nil_of_length_eq_zero (by simpa using h1)
  unfold cntF
  rw [List.countP_eq_zero]
  intro A _ hs
  unfold sat at hs
  rw [List.all_eq_true] at hs
  have := hs [] hr
  simp at this
theorem cntF_leaves {V : Nat} {cs : List (List Int)} (h : Over V V cs) : sum2 (leaves V cs) = cntF V cs := by
  have := leaves_count V V cs h
  rw [Nat.sub_self] at this
  unfold cntF
  simpa using this
theorem over_of {V : Nat} {cs : List (List Int)} (h : rightF V cs = true) (h0 : cs.any (fun r => r.length == 0) = false) : Over V V cs := by
  obtain ⟨_, _, hl⟩ := rightF_len h
  rw [List.any_eq_false] at h0
  refine ⟨fun c hc e => ?_, fun c hc y hy => (hl c hc y hy).1, List.range' 1 V, List.nodup_range', by simp, fun u hu => ?_, fun c hc y hy => ?_⟩
  · have := h0 c hc
    rw [e] at this
    simp at this
  · rw [List.mem_range'] at hu
    obtain ⟨i, h1, rfl⟩ := hu
    omega
  · have := hl c hc y hy
    rw [List.mem_range']
    exact ⟨y.natAbs - 1, by omega, by omega⟩
set_option maxHeartbeats 16000000 in
set_option maxRecDepth 100000 in
theorem Count_calls {W w : World} {Ps : List Res} (h : Has W w Ps) {V : Nat} {a : Option Addr} {c : Nat} {cs : List (List Int)} (hF : FormSrc W Ps a c cs) (hs : ∀ r ∈ cs, r.length ≤ 1000000) :
    Calls Try.prog 20 #[.agg #[.int .i64 (V : Int), .slice a cs.length c]] w (CountPost W Ps V cs) := by
  have h1 := h.newBlk (.cells #[.int .i64 (V : Int), .slice a cs.length c] 24 (0, 0))
  have h2 := h1.newBlk (.cells #[.bool false, .slice none 0 0] 41 (0, 0))
  rw [hp_alloc_size] at h2
  have H0 := Lib.hid h2
  have HF := Lib.hid hF
  have HS := Lib.hid hs
  clear h hF hs h1 h2
  go_enter Try.func20, Try.ntmps20
  go_wp2_with fail
  refine (FRight_calls (HF.out _ _ H0.out fun P hP => List.mem_cons_of_mem _ (List.mem_cons_of_mem _ hP))).mono ?_
  rintro e w1 ⟨rfl, hf1⟩
  obtain ⟨R, hR⟩ : ∃ R, rightF V cs = R := ⟨_, rfl⟩
  rw [hR]
  have H1 := Lib.hid (H0.out.step hf1)
  obtain ⟨fb, hfb⟩ : ∃ b, w.heap.size = b := ⟨_, rfl⟩
  rw [hfb] at H1 ⊢
  obtain ⟨rb, hrb⟩ : ∃ b, fb + 1 = b := ⟨_, rfl⟩
  rw [hrb] at H1 ⊢
  have HR := Lib.hid hR
  clear hf1 H0 hfb hrb hR
  cases R with
  | false =>
    have hb := (H1.out.bring 0).blk
    have r0 : _ = some _ := heap_eq_cell hb 0
    have r1 : _ = some _ := heap_eq_cell hb 1
    have rz0 := heap_eq_frozen hb 0
    have rz1 := heap_eq_frozen hb 1
    have rl := lt_of_block hb
    clear hb
    have H2 := Lib.hid ((H1.out.blkSet 0 (.bool false)).blkSet 1 (.slice none 0 0))
    clear H1
    go_wp2
    refine bodyPost_ret (big_result rfl (b := rb) (x := .bool false) (y := .slice none 0 0) (v := .int .i64 2) rfl ?_ rfl) rfl ?_
    · exact H2.out.blk
    · exact .inl ⟨HR.out, rfl, H2.out.drop.drop⟩
  | true =>
    obtain ⟨hcl, hV, hlit⟩ := rightF_len HR.out
    go_wp2_with fail
    refine (From_n (x := 0) (H1.out.step (by (repeat first | exact Fr.refl _ _ | assumption | apply Fr.n | apply Fr.d | apply Fr.a | refine Fr.s ?_ (.inr (by simp; try omega)) _))) (by omega)).mono ?_
    rintro e w2 ⟨a2, c2, rfl, h2⟩
    have h3 := (h2.newBlk (.cells #[.bool false, .slice a2 (zd ((0 : Nat) : Int)).length c2] 41 (0, 0))).newBlk (.cells #[.int .i64 0] 28 (0, 0))
    rw [hp_alloc_size] at h3
    have hb := (h2.bring 2).blk
    have c0 : _ = some _ := heap_eq_cell hb 0
    have c1 : _ = some _ := heap_eq_cell hb 1
    have cl := lt_of_block hb
    have H3 := Lib.hid h3
    obtain ⟨Z, hZ⟩ : ∃ Z : Nat, 0 = Z := ⟨_, rfl⟩
    have HZ := Lib.hid hZ
    have HCO := Lib.hid (fun w' (hf : Fr [] _ w') => ContainsE_h (HF.out _ _ (h3.step hf) fun P hP => by simp [hP]) hcl)
    obtain ⟨E, hE⟩ : ∃ E, cs.any (fun r => r.length == 0) = E := ⟨_, rfl⟩
    rw [hE] at HCO
    have HE := Lib.hid hE
    unfold bgv
    clear h2 h3 hb H1 hlit hE hZ
    go_wp2_with fail
    refine (HCO.out _ (by (repeat first | exact Fr.refl _ _ | assumption | apply Fr.n | apply Fr.d | apply Fr.a | refine Fr.s ?_ (.inr (by simp; try omega)) _))).mono ?_
    rintro e w4 ⟨rfl, hf4⟩
    have H4 := Lib.hid (H3.out.step (Fr.trans0 (by (repeat first | exact Fr.refl _ _ | assumption | apply Fr.n | apply Fr.d | apply Fr.a | refine Fr.s ?_ (.inr (by simp; try omega)) _)) hf4))
    obtain ⟨sb, hsb⟩ : ∃ b, w2.heap.size = b := ⟨_, rfl⟩
    rw [hsb] at H4 ⊢
    obtain ⟨eb, heb⟩ : ∃ b, sb + 1 = b := ⟨_, rfl⟩
    rw [heb] at H4 ⊢
    clear hf4 H3 HCO hsb heb c0 c1 cl
    cases E with
    | true =>
      have hb := (H4.out.bring 3).blk
      have r0 : _ = some _ := heap_eq_cell hb 0
      have r1 : _ = some _ := heap_eq_cell hb 1
      have rz0 := heap_eq_frozen hb 0
      have rz1 := heap_eq_frozen hb 1
      have rl := lt_of_block hb
      clear hb
      have hb := (H4.out.bring 1).blk
      have s0 : _ = some _ := heap_eq_cell hb 0
      have s1 : _ = some _ := heap_eq_cell hb 1
      have sl := lt_of_block hb
      have H5 := Lib.hid (((H4.out.bring 3).blkSet 0 (.bool false)).blkSet 1 (.slice a2 (zd ((0 : Nat) : Int)).length c2))
      clear hb H4
      go_wp2
      refine bodyPost_ret (big_result rfl (b := rb) (x := .bool false) (y := .slice a2 (zd ((0 : Nat) : Int)).length c2) (v := .int .i64 0) rfl ?_ rfl) rfl ?_
      · exact H5.out.blk
      · refine .inr (.inl ⟨HR.out, by rw [cntF_zero HE.out]; exact Nat.pow_pos (by omega), a2, c2, by rw [cntF_zero HE.out]; rfl, ?_⟩)
        rw [cntF_zero HE.out]
        exact H5.out.ord 5 [3]
    | false =>
      have hO := over_of HR.out HE.out
      have hb := (H4.out.bring 4).blk
      have c0 : _ = some _ := heap_eq_cell hb 0
      have c1 : _ = some _ := heap_eq_cell hb 1
      have cl := lt_of_block hb
      have HCT := Lib.hid (counted_calls (W := W) (V := V) (eb := eb) (sb := sb) V (w := w4) (Ps := Hp.blk rb (.cells #[.bool false, .slice none 0 0] 41 (0, 0)) :: Hp.blk fb (.cells #[.int .i64 (V : Int), .slice a cs.length c] 24 (0, 0)) :: Ps) (T := 0) (a := a) (c := c) (cs := cs) ⟨0, 0, a2, c2, H4.out, Nat.pow_pos (by omega), .inl ⟨Nat.pow_pos (by omega), rfl, rfl⟩⟩
        (FormSrc.more HF.out fun P hP => by simp [hP]) ⟨hO, fun r hr => ⟨hO.1 r hr, HS.out r hr⟩, hcl, hV⟩)
      rw [Nat.zero_add, cntF_leaves hO] at HCT
      clear hO hb
      go_wp2_with fail
      refine HCT.out.mono ?_
      rintro e w5 ⟨rfl, er, v, va, vc, h5, hv, hi⟩
      unfold CsL at h5
      have hb := h5.blk
      have f0 : _ = some _ := heap_eq_cell hb 0
      have fl := lt_of_block hb
      have H5 := Lib.hid h5
      clear h5 hb H4 HCT c0 c1 cl
      rcases hi with ⟨hlt, rfl, rfl⟩ | ⟨hge, rfl⟩
      ·
        have hb := (H5.out.bring 3).blk
        have r0 : _ = some _ := heap_eq_cell hb 0
        have r1 : _ = some _ := heap_eq_cell hb 1
        have rz0 := heap_eq_frozen hb 0
        have rz1 := heap_eq_frozen hb 1
        have rl := lt_of_block hb
        clear hb
        have hb := (H5.out.bring 1).blk
        have s0 : _ = some _ := heap_eq_cell hb 0
        have s1 : _ = some _ := heap_eq_cell hb 1
        have sl := lt_of_block hb
        obtain ⟨CN, hCN⟩ : ∃ z, cntF V cs = z := ⟨_, rfl⟩
        have HCN := Lib.hid hCN
        rw [hCN] at H5 s1 hlt
        have HLT := Lib.hid hlt
        have H6 := Lib.hid (((H5.out.bring 3).blkSet 0 (.bool false)).blkSet 1 (.slice va (zd (CN : Int)).length vc))
        clear hb H5 hCN hlt hv
        go_wp2
        refine bodyPost_ret (big_result rfl (b := rb) (x := .bool false) (y := .slice va (zd (CN : Int)).length vc) (v := .int .i64 0) rfl ?_ rfl) rfl ?_
        · exact H6.out.blk
        · refine .inr (.inl ⟨HR.out, by rw [HCN.out]; exact HLT.out, va, vc, by rw [HCN.out]; rfl, ?_⟩)
          rw [HCN.out]
          exact H6.out.ord 5 [3]
      ·
        have hb := (H5.out.bring 3).blk
        have r0 : _ = some _ := heap_eq_cell hb 0
        have r1 : _ = some _ := heap_eq_cell hb 1
        have rz0 := heap_eq_frozen hb 0
        have rz1 := heap_eq_frozen hb 1
        have rl := lt_of_block hb
        clear hb
        have hne : rb ≠ eb := ((H5.out.bring 3).ord 4 [0, 1]).bb
        have H6 := Lib.hid (((H5.out.bring 3).blkSet 0 (.bool false)).blkSet 1 (.slice none 0 0))
        have HGE := Lib.hid hge
        clear H5 hge hv
        go_wp2
        refine wp_region_segs [([0, 1, 2], [1]), ([3], [])] (by kernel_rfl) (by kernel_rfl) ?_
        (simp only [wpSegs, pick, Array.getD_eq_getD_getElem?, List.getElem?_toArray, List.getElem?_cons_succ, List.getElem?_cons_zero, Option.getD_some])
        go_wp2
        have H7 := Lib.hid (H6.out.step ((Fr.refl [] _).drew))
        have hb := (H7.out.bring 1).blk
        have g0 := heap_eq_cell hb 0
        refine Mid.intro ⟨⟨again_cell (T := 28) rfl rfl rfl Try.underlying28 rfl g0 rfl, trivial⟩, ?_⟩
        clear g0 hb f0 fl r0 r1 rz0 rz1 rl
        go_wp2
        refine Mid.intro ⟨trivial, Strict.intro rfl ?_⟩
        go_wp2
        refine bodyPost_ret (big_result rfl (b := rb) (x := .bool false) (y := .slice none 0 0) (v := .int .i64 6) rfl ?_ rfl) rfl ?_
        · exact H7.out.blk
        · exact .inr (.inr ⟨HR.out, HGE.out, rfl, H7.out.ord 5 []⟩)
end Go.Proofs.Ytjidldfnlejdhaa
end

section
/- Formulas whose number of variables is negative: each function answers with an error. -/
namespace Go.Proofs.Ytjidldfnlejdhaa
open Go Go.RowKit Go.Proofs.Rg Go.Proofs.Mp Go.Proofs.Hp Go.Proofs.Sv
set_option linter.unusedVariables false
set_option linter.unusedSimpArgs false
theorem right_neg {V : Int} {cs : List (List Int)} (hV : V < 0) : rightF V cs = false := by
  unfold rightF
  simp [hV]
theorem First_neg {W w : World} {Ps : List Res} (h : Has W w Ps) {V : Int} {a : Option Addr} {c : Nat} {cs : List (List Int)} (hF : FormAt W a c cs) (hV : V < 0)  :
    Calls Try.prog 11 #[.agg #[.int .i64 V, .slice a cs.length c]] w fun e w' => e = .returned (.tuple #[.slice none 0 0, .bool false, .int .i64 2]) ∧ Has W w' Ps := by
  have HRT := Lib.hid (fun w' (hf : Fr [] w w') => FRight_calls (V := V) (hF.fr (h.fr.trans0 hf)))
  have HR := Lib.hid (right_neg (cs := cs) hV)
  have H := Lib.hid h
  clear h hF hV
  go_enter Try.func11, Try.ntmps11
  go_wp2_with fail
  refine (HRT.out _ (by (repeat first | exact Fr.refl _ _ | assumption | apply Fr.n | apply Fr.d | apply Fr.a | refine Fr.s ?_ (.inl (by simp)) _))).mono ?_
  rintro e w1 ⟨rfl, hf1⟩
  rw [HR.out]
  have hfr : Fr [] w w1 := Fr.trans0 (by (repeat first | exact Fr.refl _ _ | assumption | apply Fr.n | apply Fr.d | apply Fr.a | refine Fr.s ?_ (.inl (by simp)) _)) hf1
  have HFR := Lib.hid hfr
  clear hf1 hfr HRT
  go_wp2
  go_ret3
  exact ⟨rfl, H.out.step HFR.out⟩
theorem RFirst_neg {W w : World} {Ps : List Res} (h : Has W w Ps) {V : Int} {a : Option Addr} {c : Nat} {cs : List (List Int)} (hF : FormAt W a c cs) (hV : V < 0)  :
    Calls Try.prog 12 #[.agg #[.int .i64 V, .slice a cs.length c]] w fun e w' => e = .returned (.tuple #[.slice none 0 0, .bool false, .int .i64 2]) ∧ Has W w' Ps := by
  have HRT := Lib.hid (fun w' (hf : Fr [] w w') => R40Right_calls (V := V) (hF.fr (h.fr.trans0 hf)))
  have HR := Lib.hid (right_neg (cs := cs) hV)
  have H := Lib.hid h
  clear h hF hV
  go_enter Try.func12, Try.ntmps12
  go_wp2_with fail
  refine (HRT.out _ (by (repeat first | exact Fr.refl _ _ | assumption | apply Fr.n | apply Fr.d | apply Fr.a | refine Fr.s ?_ (.inl (by simp)) _))).mono ?_
  rintro e w1 ⟨rfl, hf1⟩
  rw [HR.out]
  have hfr : Fr [] w w1 := Fr.trans0 (by (repeat first | exact Fr.refl _ _ | assumption | apply Fr.n | apply Fr.d | apply Fr.a | refine Fr.s ?_ (.inl (by simp)) _)) hf1
  have HFR := Lib.hid hfr
  clear hf1 hfr HRT
  go_wp2
  go_ret3
  exact ⟨rfl, H.out.step HFR.out⟩
theorem All_neg {W w : World} {Ps : List Res} (h : Has W w Ps) {V : Int} {a : Option Addr} {c : Nat} {cs : List (List Int)} (hF : FormAt W a c cs) (hV : V < 0) {n most : Int} :
    Calls Try.prog 16 #[.agg #[.int .i64 V, .slice a cs.length c], .int .i64 n, .int .i64 most] w fun e w' => e = .returned (.tuple #[.slice none 0 0, .int .i64 2]) ∧ Has W w' Ps := by
  have HRT := Lib.hid (fun w' (hf : Fr [] w w') => FRight_calls (V := V) (hF.fr (h.fr.trans0 hf)))
  have HR := Lib.hid (right_neg (cs := cs) hV)
  have H := Lib.hid h
  clear h hF hV
  go_enter Try.func16, Try.ntmps16
  go_wp2_with fail
  refine (HRT.out _ (by (repeat first | exact Fr.refl _ _ | assumption | apply Fr.n | apply Fr.d | apply Fr.a | refine Fr.s ?_ (.inl (by simp)) _))).mono ?_
  rintro e w1 ⟨rfl, hf1⟩
  rw [HR.out]
  have hfr : Fr [] w w1 := Fr.trans0 (by (repeat first | exact Fr.refl _ _ | assumption | apply Fr.n | apply Fr.d | apply Fr.a | refine Fr.s ?_ (.inl (by simp)) _)) hf1
  have HFR := Lib.hid hfr
  clear hf1 hfr HRT
  go_wp2
  go_ret2
  exact ⟨rfl, H.out.step HFR.out⟩
theorem RAll_neg {W w : World} {Ps : List Res} (h : Has W w Ps) {V : Int} {a : Option Addr} {c : Nat} {cs : List (List Int)} (hF : FormAt W a c cs) (hV : V < 0) {n most : Int} :
    Calls Try.prog 17 #[.agg #[.int .i64 V, .slice a cs.length c], .int .i64 n, .int .i64 most] w fun e w' => e = .returned (.tuple #[.slice none 0 0, .int .i64 2]) ∧ Has W w' Ps := by
  have HRT := Lib.hid (fun w' (hf : Fr [] w w') => R40Right_calls (V := V) (hF.fr (h.fr.trans0 hf)))
  have HR := Lib.hid (right_neg (cs := cs) hV)
  have H := Lib.hid h
  clear h hF hV
  go_enter Try.func17, Try.ntmps17
  go_wp2_with fail
  refine (HRT.out _ (by (repeat first | exact Fr.refl _ _ | assumption | apply Fr.n | apply Fr.d | apply Fr.a | refine Fr.s ?_ (.inl (by simp)) _))).mono ?_
  rintro e w1 ⟨rfl, hf1⟩
  rw [HR.out]
  have hfr : Fr [] w w1 := Fr.trans0 (by (repeat first | exact Fr.refl _ _ | assumption | apply Fr.n | apply Fr.d | apply Fr.a | refine Fr.s ?_ (.inl (by simp)) _)) hf1
  have HFR := Lib.hid hfr
  clear hf1 hfr HRT
  go_wp2
  go_ret2
  exact ⟨rfl, H.out.step HFR.out⟩
theorem Next_neg {W w : World} {Ps : List Res} (h : Has W w Ps) {V : Int} {a : Option Addr} {c : Nat} {cs : List (List Int)} (hF : FormAt W a c cs) (hV : V < 0) {n : Int} {la : Option Addr} {ll lc : Nat} :
    Calls Try.prog 13 #[.agg #[.int .i64 V, .slice a cs.length c], .int .i64 n, .slice la ll lc] w fun e w' => e = .returned (.tuple #[.slice none 0 0, .bool false, .int .i64 2]) ∧ Has W w' Ps := by
  have HRT := Lib.hid (fun w' (hf : Fr [] w w') => FRight_calls (V := V) (hF.fr (h.fr.trans0 hf)))
  have HR := Lib.hid (right_neg (cs := cs) hV)
  have H := Lib.hid h
  clear h hF hV
  go_enter Try.func13, Try.ntmps13
  go_wp2_with fail
  refine (HRT.out _ (by (repeat first | exact Fr.refl _ _ | assumption | apply Fr.n | apply Fr.d | apply Fr.a | refine Fr.s ?_ (.inl (by simp)) _))).mono ?_
  rintro e w1 ⟨rfl, hf1⟩
  rw [HR.out]
  have hfr : Fr [] w w1 := Fr.trans0 (by (repeat first | exact Fr.refl _ _ | assumption | apply Fr.n | apply Fr.d | apply Fr.a | refine Fr.s ?_ (.inl (by simp)) _)) hf1
  have HFR := Lib.hid hfr
  clear hf1 hfr HRT
  go_wp2
  go_ret3
  exact ⟨rfl, H.out.step HFR.out⟩
theorem RNext_neg {W w : World} {Ps : List Res} (h : Has W w Ps) {V : Int} {a : Option Addr} {c : Nat} {cs : List (List Int)} (hF : FormAt W a c cs) (hV : V < 0) {n : Int} {la : Option Addr} {ll lc : Nat} :
    Calls Try.prog 14 #[.agg #[.int .i64 V, .slice a cs.length c], .int .i64 n, .slice la ll lc] w fun e w' => e = .returned (.tuple #[.slice none 0 0, .bool false, .int .i64 2]) ∧ Has W w' Ps := by
  have HRT := Lib.hid (fun w' (hf : Fr [] w w') => R40Right_calls (V := V) (hF.fr (h.fr.trans0 hf)))
  have HR := Lib.hid (right_neg (cs := cs) hV)
  have H := Lib.hid h
  clear h hF hV
  go_enter Try.func14, Try.ntmps14
  go_wp2_with fail
  refine (HRT.out _ (by (repeat first | exact Fr.refl _ _ | assumption | apply Fr.n | apply Fr.d | apply Fr.a | refine Fr.s ?_ (.inl (by simp)) _))).mono ?_
  rintro e w1 ⟨rfl, hf1⟩
  rw [HR.out]
  have hfr : Fr [] w w1 := Fr.trans0 (by (repeat first | exact Fr.refl _ _ | assumption | apply Fr.n | apply Fr.d | apply Fr.a | refine Fr.s ?_ (.inl (by simp)) _)) hf1
  have HFR := Lib.hid hfr
  clear hf1 hfr HRT
  go_wp2
  go_ret3
  exact ⟨rfl, H.out.step HFR.out⟩
theorem Count_neg {W w : World} {Ps : List Res} (h : Has W w Ps) {V : Int} {a : Option Addr} {c : Nat} {cs : List (List Int)} (hF : FormAt w a c cs) (hV : V < 0) :
    Calls Try.prog 20 #[.agg #[.int .i64 V, .slice a cs.length c]] w fun e w' => e = .returned (.tuple #[.agg #[.bool false, .slice none 0 0], .int .i64 2]) ∧ Has W w' Ps := by
  have HRT := Lib.hid (fun w' (hf : Fr [] w w') => FRight_calls (V := V) (hF.fr hf))
  have HR := Lib.hid (right_neg (cs := cs) hV)
  have h1 := h.newBlk (.cells #[.int .i64 V, .slice a cs.length c] 24 (0, 0))
  have h2 := h1.newBlk (.cells #[.bool false, .slice none 0 0] 41 (0, 0))
  rw [hp_alloc_size] at h2
  have H0 := Lib.hid h2
  clear h hF hV h1 h2
  go_enter Try.func20, Try.ntmps20
  go_wp2_with fail
  refine (HRT.out _ (by (repeat first | exact Fr.refl _ _ | assumption | apply Fr.n | apply Fr.d | apply Fr.a | refine Fr.s ?_ (.inl (by simp)) _))).mono ?_
  rintro e w1 ⟨rfl, hf1⟩
  rw [HR.out]
  have H1 := Lib.hid (H0.out.step hf1)
  obtain ⟨fb, hfb⟩ : ∃ b, w.heap.size = b := ⟨_, rfl⟩
  rw [hfb] at H1 ⊢
  obtain ⟨rb, hrb⟩ : ∃ b, fb + 1 = b := ⟨_, rfl⟩
  rw [hrb] at H1 ⊢
  clear hf1 H0 hfb hrb HRT
  have hb := H1.out.blk
  have r0 : _ = some _ := heap_eq_cell hb 0
  have r1 : _ = some _ := heap_eq_cell hb 1
  have rz0 := heap_eq_frozen hb 0
  have rz1 := heap_eq_frozen hb 1
  have rl := lt_of_block hb
  clear hb
  have H2 := Lib.hid ((H1.out.blkSet 0 (.bool false)).blkSet 1 (.slice none 0 0))
  clear H1
  go_wp2
  refine bodyPost_ret (big_result rfl (b := rb) (x := .bool false) (y := .slice none 0 0) (v := .int .i64 2) rfl ?_ rfl) rfl ?_
  · exact H2.out.blk
  · exact ⟨rfl, H2.out.drop.drop⟩
theorem RCount_neg {W w : World} {Ps : List Res} (h : Has W w Ps) {V : Int} {a : Option Addr} {c : Nat} {cs : List (List Int)} (hF : FormAt w a c cs) (hV : V < 0) :
    Calls Try.prog 21 #[.agg #[.int .i64 V, .slice a cs.length c]] w fun e w' => e = .returned (.tuple #[.agg #[.bool false, .slice none 0 0], .int .i64 2]) ∧ Has W w' Ps := by
  have HRT := Lib.hid (fun w' (hf : Fr [] w w') => R40Right_calls (V := V) (hF.fr hf))
  have HR := Lib.hid (right_neg (cs := cs) hV)
  have h1 := h.newBlk (.cells #[.int .i64 V, .slice a cs.length c] 24 (0, 0))
  have h2 := h1.newBlk (.cells #[.bool false, .slice none 0 0] 41 (0, 0))
  rw [hp_alloc_size] at h2
  have H0 := Lib.hid h2
  clear h hF hV h1 h2
  go_enter Try.func21, Try.ntmps21
  go_wp2_with fail
  refine (HRT.out _ (by (repeat first | exact Fr.refl _ _ | assumption | apply Fr.n | apply Fr.d | apply Fr.a | refine Fr.s ?_ (.inl (by simp)) _))).mono ?_
  rintro e w1 ⟨rfl, hf1⟩
  rw [HR.out]
  have H1 := Lib.hid (H0.out.step hf1)
  obtain ⟨fb, hfb⟩ : ∃ b, w.heap.size = b := ⟨_, rfl⟩
  rw [hfb] at H1 ⊢
  obtain ⟨rb, hrb⟩ : ∃ b, fb + 1 = b := ⟨_, rfl⟩
  rw [hrb] at H1 ⊢
  clear hf1 H0 hfb hrb HRT
  have hb := H1.out.blk
  have r0 : _ = some _ := heap_eq_cell hb 0
  have r1 : _ = some _ := heap_eq_cell hb 1
  have rz0 := heap_eq_frozen hb 0
  have rz1 := heap_eq_frozen hb 1
  have rl := lt_of_block hb
  clear hb
  have H2 := Lib.hid ((H1.out.blkSet 0 (.bool false)).blkSet 1 (.slice none 0 0))
  clear H1
  go_wp2
  refine bodyPost_ret (big_result rfl (b := rb) (x := .bool false) (y := .slice none 0 0) (v := .int .i64 2) rfl ?_ rfl) rfl ?_
  · exact H2.out.blk
  · exact ⟨rfl, H2.out.drop.drop⟩
end Go.Proofs.Ytjidldfnlejdhaa
end

section
/- Law 42: Small, tiny; the reference's Eval. -/
namespace Go.Proofs.Ytjidldfnlejdhaa
open Go Go.RowKit Go.Proofs.Rg Go.Proofs.Mp Go.Proofs.Hp Go.Proofs.Sv
set_option linter.unusedVariables false
set_option linter.unusedSimpArgs false
def smallC (R : Bool) (r : List Int) : Bool := decide (r.length ≤ 20) && (!R || r.all fun x => decide (x.natAbs ≤ 9))
def smallF (V : Int) (cs : List (List Int)) : Bool := decide (cs.length ≤ 60) && cs.all (smallC (rightF V cs))
def tinyF (V : Int) (cs : List (List Int)) : Bool := smallF V cs && (decide (V ≤ 9) || !rightF V cs)
set_option maxHeartbeats 8000000 in
theorem Small_calls {w : World} {V : Int} {a : Option Addr} {c : Nat} {cs : List (List Int)} (h : FormAt w a c cs) :
    Calls Try.prog 19 #[.agg #[.int .i64 V, .slice a cs.length c]] w fun e w' => e = .returned (.bool (smallF V cs)) ∧ Fr [] w w' := by
  have HI := Lib.hid h
  obtain ⟨B, hB⟩ : ∃ B, smallF V cs = B := ⟨_, rfl⟩
  have HB := Lib.hid hB
  rw [hB]
  by_cases h60 : cs.length ≤ 60
  case neg =>
    have b0 : decide ((cs.length : Int) > 60) = true := by simp; omega
    have b1 : decide (60 < cs.length) = true := by simp; omega
    have HF := Lib.hid (show B = false from by rw [← hB]; unfold smallF; simp [h60])
    clear h hB h60
    go_enter Try.func19, Try.ntmps19
    go_wp2
    go_ret
    exact ⟨by rw [HF.out]; rfl, by (repeat first | exact Fr.refl _ _ | assumption | apply Fr.n | apply Fr.d | apply Fr.a | refine Fr.s ?_ (.inr (by simp; try omega)) _)⟩
  obtain ⟨n, hn⟩ : ∃ n, cs.length = n := ⟨_, rfl⟩
  have HN := Lib.hid hn
  rw [hn] at h60 ⊢
  have b1 : decide (60 < n) = false := by simp; omega
  have b0 : decide ((n : Int) > 60) = false := by simp; omega
  have H0 := Lib.hid ((Has.nil (Fr.refl [] w)).newBlk (.cells #[.int .i64 V, .slice a n c] 24 (0, 0)))
  have HRT := Lib.hid (fun w' (hf : Fr [] w w') => R40Right_calls (V := V) (h.fr hf))
  rw [hn] at HRT
  clear h hB hn
  go_enter Try.func19, Try.ntmps19
  go_wp2_with fail
  refine (HRT.out _ (by (repeat first | exact Fr.refl _ _ | assumption | apply Fr.n | apply Fr.d | apply Fr.a | refine Fr.s ?_ (.inr (by simp; try omega)) _))).mono ?_
  rintro e w1 ⟨rfl, hf1⟩
  obtain ⟨R, hR⟩ : ∃ R, rightF V cs = R := ⟨_, rfl⟩
  rw [hR]
  have HR := Lib.hid hR
  have H1 := Lib.hid (H0.out.step (Fr.trans0 (by (repeat first | exact Fr.refl _ _ | assumption | apply Fr.n | apply Fr.d | apply Fr.a | refine Fr.s ?_ (.inr (by simp; try omega)) _)) hf1))
  obtain ⟨fb, hfb⟩ : ∃ b, w.heap.size = b := ⟨_, rfl⟩
  rw [hfb] at H1 ⊢
  have hb := H1.out.blk
  have c0 : _ = some _ := heap_eq_cell hb 0
  have c1 : _ = some _ := heap_eq_cell hb 1
  have cl := lt_of_block hb
  clear hf1 H0 hfb hR hb HRT
  go_wp2
  go_loopg [16] n (fun gg z wr => ∃ i : Nat, i ≤ n ∧ n - i ≤ gg ∧ z = .int .i64 (i : Int) ∧ wr = w1 ∧ Hid ((cs.take i).all (smallC R) = true))
  case atStart => exact ⟨0, Nat.zero_le _, by omega, rfl, rfl, Lib.hid rfl⟩
  case round =>
    obtain ⟨i, hi, hg, rfl, hwr, HA⟩ := hrel
    subst wr
    by_cases hin : i < n
    · obtain ⟨r, hr⟩ : ∃ r, cs[i]? = some r := ⟨_, List.getElem?_eq_getElem (by rw [HN.out]; exact hin)⟩
      obtain ⟨g, off, ra, rc, hae, hgl, hc, hri⟩ := (HI.out.fr H1.out.fr).1.row hr
      subst hae
      have htk : cs.take (i + 1) = cs.take i ++ [r] := by rw [List.take_add_one, hr]; rfl
      have HTK := Lib.hid htk
      have HRI := Lib.hid (And.intro hri hr)
      obtain ⟨m, hm⟩ : ∃ m, r.length = m := ⟨_, rfl⟩
      rw [hm] at hc
      have HM := Lib.hid hm
      clear htk hri hr hm
      by_cases h20 : m ≤ 20
      · have b2 : decide (20 < m) = false := by simp; omega
        have b3 : decide ((m : Int) > 20) = false := by simp; omega
        go_wp2
        go_loopg [32] m (fun gg z wr => ∃ k : Nat, k ≤ m ∧ m - k ≤ gg ∧ z = .int .i64 (k : Int) ∧ wr = w1 ∧ Hid (R = true → (r.take k).all (fun x => decide (x.natAbs ≤ 9)) = true))
        case atStart => exact ⟨0, Nat.zero_le _, by omega, rfl, rfl, Lib.hid fun _ => rfl⟩
        case round =>
          obtain ⟨k, hk, hgk, rfl, hwr, HK⟩ := hrel
          subst wr
          by_cases hkm : k < m
          · obtain ⟨x, hx⟩ : ∃ x, r[k]? = some x := ⟨_, List.getElem?_eq_getElem (by rw [HM.out]; exact hkm)⟩
            obtain ⟨g2, off2, rfl, hgl2, hc2⟩ := IntsAt.get HRI.out.1 hx
            have htk : r.take (k + 1) = r.take k ++ [x] := by rw [List.take_add_one, hx]; rfl
            have HTK2 := Lib.hid htk
            have HX := Lib.hid hx
            clear htk
            cases R with
            | false =>
              clear hx
              go_wp2
              go_roundg (m - (k + 1))
              case measure => omega
              case rel => exact ⟨k + 1, hkm, Nat.le_refl _, by simp, rfl, Lib.hid fun h => by cases h⟩
            | true =>
              obtain ⟨_, hV6, hlt⟩ : True ∧ V ≤ 65536 ∧ ∀ r ∈ cs, ∀ x ∈ r, x ≠ 0 ∧ -V ≤ x ∧ x ≤ V := by
                have h := HR.out
                unfold rightF at h
                simp only [Bool.and_eq_true, Bool.not_eq_true', Bool.or_eq_false_iff, decide_eq_false_iff_not, List.all_eq_true] at h
                refine ⟨trivial, by omega, fun r hr x hx => ?_⟩
                have := h.2 r hr x hx
                unfold okLit at this
                simp only [Bool.not_eq_true', Bool.or_eq_false_iff, beq_eq_false_iff_ne, decide_eq_false_iff_not] at this
                omega
              have hx1 := hlt r (List.mem_of_getElem? HRI.out.2) x (List.mem_of_getElem? hx)
              have hw1 : IntKind.i64.wrap (-x) = -x := IntWalk.i64_in _ (by omega)
              obtain ⟨y, hy⟩ : ∃ y, x.natAbs = y := ⟨_, rfl⟩
              have hmx : max x (-x) = ((y : Nat) : Int) := by omega
              have HY := Lib.hid hy
              clear hx hlt hx1 hy hV6
              by_cases h9 : y ≤ 9
              · have b4 : decide (9 < y) = false := by simp; omega
                have b5 : decide ((y : Int) > 9) = false := by simp; omega
                go_wp2
                go_roundg (m - (k + 1))
                case measure => omega
                case rel => exact ⟨k + 1, hkm, Nat.le_refl _, by simp, rfl, Lib.hid fun h => by rw [HTK2.out, List.all_append, HK.out h]; simp [HY.out, h9]⟩
              · have b4 : decide (9 < y) = true := by simp; omega
                have b5 : decide ((y : Int) > 9) = true := by simp; omega
                have HF := Lib.hid (show B = false from by
                  rw [← HB.out]
                  unfold smallF
                  rw [HR.out, Bool.and_eq_false_iff]
                  right
                  rw [List.all_eq_false]
                  refine ⟨r, List.mem_of_getElem? HRI.out.2, ?_⟩
                  unfold smallC
                  rw [Bool.not_eq_true, Bool.and_eq_false_iff]
                  right
                  rw [Bool.not_true, Bool.false_or, List.all_eq_false]
                  exact ⟨x, List.mem_of_getElem? HX.out, by rw [HY.out]; simpa using h9⟩)
                go_wp2
                go_ret
                exact ⟨by rw [HF.out]; rfl, H1.out.fr⟩
          · obtain rfl : k = m := by omega
            have HALL := Lib.hid (show smallC R r = true from by
              unfold smallC
              rw [HM.out]
              cases R with
              | false => simp [h20]
              | true =>
                have := HK.out rfl
                rw [List.take_of_length_le (by rw [HM.out]; exact Nat.le_refl _)] at this
                simp [h20]
                simpa using this)
            go_wp2
            go_roundg (n - (i + 1))
            case measure => omega
            case rel => exact ⟨i + 1, hin, Nat.le_refl _, by simp, rfl, Lib.hid (by rw [HTK.out, List.all_append, HA.out]; simp [HALL.out])⟩
      · have b2 : decide (20 < m) = true := by simp; omega
        have b3 : decide ((m : Int) > 20) = true := by simp; omega
        have HF := Lib.hid (show B = false from by
          rw [← HB.out]
          unfold smallF
          rw [Bool.and_eq_false_iff]
          right
          rw [List.all_eq_false]
          exact ⟨r, List.mem_of_getElem? HRI.out.2, by unfold smallC; rw [HM.out]; simp [h20]⟩)
        go_wp2
        go_ret
        exact ⟨by rw [HF.out]; rfl, H1.out.fr⟩
    · obtain rfl : i = n := by omega
      have hall := HA.out
      rw [List.take_of_length_le (by rw [HN.out]; exact Nat.le_refl _)] at hall
      have HALL := Lib.hid (show B = true from by rw [← HB.out]; unfold smallF; rw [HR.out, hall, HN.out]; simp [h60])
      clear hall HA
      go_wp2
      go_ret
      exact ⟨by rw [HALL.out]; rfl, H1.out.fr⟩
set_option maxHeartbeats 8000000 in
theorem tiny_calls {w : World} {V : Int} {a : Option Addr} {c : Nat} {cs : List (List Int)} (h : FormAt w a c cs) :
    Calls Try.prog 9 #[.agg #[.int .i64 V, .slice a cs.length c]] w fun e w' => e = .returned (.bool (tinyF V cs)) ∧ Fr [] w w' := by
  have HS := Lib.hid (fun w' (hf : Fr [] w w') => Small_calls (V := V) (h.fr hf))
  have HR := Lib.hid (fun w' (hf : Fr [] w w') => R40Right_calls (V := V) (h.fr hf))
  obtain ⟨S, hS⟩ : ∃ S, smallF V cs = S := ⟨_, rfl⟩
  obtain ⟨R, hR⟩ : ∃ S, rightF V cs = S := ⟨_, rfl⟩
  obtain ⟨n, hn⟩ : ∃ n, cs.length = n := ⟨_, rfl⟩
  unfold tinyF
  rw [hS, hn] at HS
  rw [hR, hn] at HR
  rw [hS, hR, hn]
  clear h hS hR hn
  cases S with
  | false =>
    go_enter Try.func9, Try.ntmps9
    go_wp2_with fail
    refine (HS.out _ (by (repeat first | exact Fr.refl _ _ | assumption | apply Fr.n | apply Fr.d | apply Fr.a | refine Fr.s ?_ (.inr (by simp; try omega)) _))).mono ?_
    rintro e w1 ⟨rfl, hf1⟩
    have HF1 := Lib.hid (Fr.trans0 (by (repeat first | exact Fr.refl _ _ | assumption | apply Fr.n | apply Fr.d | apply Fr.a | refine Fr.s ?_ (.inr (by simp; try omega)) _) : Fr [] w _) hf1)
    have hf_ := (hf1.block (w.heap.size) (by first | (simp; done) | (simp; omega)) (by simp)).trans (show _ = some (.cells #[.int .i64 V, .slice a n c] 24 (0, 0)) by (repeat first | rw [if_pos (by omega)] | rw [if_neg (by omega)] | rw [hp_drew] | rw [hp_drewN] | rw [hp_alloc_size] | rw [hp_setCell_size] | rw [hp_alloc] | rw [hp_setCell] | rw [oMS] | rw [upd_cells] | rw [lSZ] | rw [lSS] | rfl))
    have f0 := heap_eq_cell hf_ 0
    have f1 := heap_eq_cell hf_ 1
    have fl := lt_of_block hf_
    have Hf := Lib.hid hf_
    clear hf_
    clear hf1
    go_wp2
    go_ret
    exact ⟨rfl, HF1.out⟩
  | true =>
    by_cases h9 : V ≤ 9
    · have b1 : decide (V ≤ 9) = true := by simpa using h9
      rw [b1]
      go_enter Try.func9, Try.ntmps9
      go_wp2_with fail
      refine (HS.out _ (by (repeat first | exact Fr.refl _ _ | assumption | apply Fr.n | apply Fr.d | apply Fr.a | refine Fr.s ?_ (.inr (by simp; try omega)) _))).mono ?_
      rintro e w1 ⟨rfl, hf1⟩
      have HF1 := Lib.hid (Fr.trans0 (by (repeat first | exact Fr.refl _ _ | assumption | apply Fr.n | apply Fr.d | apply Fr.a | refine Fr.s ?_ (.inr (by simp; try omega)) _) : Fr [] w _) hf1)
      have hf_ := (hf1.block (w.heap.size) (by first | (simp; done) | (simp; omega)) (by simp)).trans (show _ = some (.cells #[.int .i64 V, .slice a n c] 24 (0, 0)) by (repeat first | rw [if_pos (by omega)] | rw [if_neg (by omega)] | rw [hp_drew] | rw [hp_drewN] | rw [hp_alloc_size] | rw [hp_setCell_size] | rw [hp_alloc] | rw [hp_setCell] | rw [oMS] | rw [upd_cells] | rw [lSZ] | rw [lSS] | rfl))
      have f0 := heap_eq_cell hf_ 0
      have f1 := heap_eq_cell hf_ 1
      have fl := lt_of_block hf_
      have Hf := Lib.hid hf_
      clear hf_
      clear hf1
      go_wp2
      go_ret
      exact ⟨rfl, HF1.out⟩
    · have b1 : decide (V ≤ 9) = false := by simpa using h9
      rw [b1]
      go_enter Try.func9, Try.ntmps9
      go_wp2_with fail
      refine (HS.out _ (by (repeat first | exact Fr.refl _ _ | assumption | apply Fr.n | apply Fr.d | apply Fr.a | refine Fr.s ?_ (.inr (by simp; try omega)) _))).mono ?_
      rintro e w1 ⟨rfl, hf1⟩
      have HF1 := Lib.hid (Fr.trans0 (by (repeat first | exact Fr.refl _ _ | assumption | apply Fr.n | apply Fr.d | apply Fr.a | refine Fr.s ?_ (.inr (by simp; try omega)) _) : Fr [] w _) hf1)
      have hf_ := (hf1.block (w.heap.size) (by first | (simp; done) | (simp; omega)) (by simp)).trans (show _ = some (.cells #[.int .i64 V, .slice a n c] 24 (0, 0)) by (repeat first | rw [if_pos (by omega)] | rw [if_neg (by omega)] | rw [hp_drew] | rw [hp_drewN] | rw [hp_alloc_size] | rw [hp_setCell_size] | rw [hp_alloc] | rw [hp_setCell] | rw [oMS] | rw [upd_cells] | rw [lSZ] | rw [lSS] | rfl))
      have f0 := heap_eq_cell hf_ 0
      have f1 := heap_eq_cell hf_ 1
      have fl := lt_of_block hf_
      have Hf := Lib.hid hf_
      clear hf_
      clear hf1
      go_wp2_with fail
      refine (HR.out _ (HF1.out.trans0 (by (repeat first | exact Fr.refl _ _ | assumption | apply Fr.n | apply Fr.d | apply Fr.a | refine Fr.s ?_ (.inr (by simp; try omega)) _)))).mono ?_
      rintro e w2 ⟨rfl, hf2⟩
      have HF2 := Lib.hid (HF1.out.trans0 (Fr.trans0 (by (repeat first | exact Fr.refl _ _ | assumption | apply Fr.n | apply Fr.d | apply Fr.a | refine Fr.s ?_ (.inr (by simp; try omega)) _)) hf2))
      clear hf2
      go_wp2
      go_ret
      exact ⟨rfl, HF2.out⟩
end Go.Proofs.Ytjidldfnlejdhaa
end

section
/- Law 42: values compared; lists of values compared. -/
namespace Go.Proofs.Ytjidldfnlejdhaa
open Go Go.RowKit Go.Proofs.Rg Go.Proofs.Mp Go.Proofs.Hp Go.Proofs.Sv
set_option linter.unusedVariables false
set_option linter.unusedSimpArgs false
theorem take_eq_of {α : Type} {l m : List α} {i : Nat} {x y : α} (hl : l[i]? = some x) (hm : m[i]? = some y) (h : l.take i = m.take i) : l.take (i + 1) = m.take (i + 1) ↔ x = y := by
  rw [List.take_add_one, List.take_add_one, hl, hm, h]
  simp
theorem not_eq_of {α : Type} {l m : List α} {i : Nat} {x y : α} (hl : l[i]? = some x) (hm : m[i]? = some y) (h : x ≠ y) : l ≠ m := by
  rintro rfl
  rw [hl] at hm
  exact h (Option.some.inj hm)
set_option maxHeartbeats 4000000 in
theorem bools_calls {w : World} {la ma : Option Addr} {lc mc : Nat} {l m : List Bool} (hl : BoolsAt w (.slice la l.length lc) l) (hm : BoolsAt w (.slice ma m.length mc) m) (hll : l.length ≤ 1000000) :
    Calls Try.prog 15 #[.slice la l.length lc, .slice ma m.length mc] w fun e w' => e = .returned (.bool (decide (l = m))) ∧ Fr [] w w' := by
  obtain ⟨B, hB⟩ : ∃ B, decide (l = m) = B := ⟨_, rfl⟩
  have HB := Lib.hid hB
  rw [hB]
  by_cases hlen : l.length = m.length
  · have HL := Lib.hid (And.intro hl hm)
    obtain ⟨n, hn⟩ : ∃ n, l.length = n := ⟨_, rfl⟩
    rw [← hlen, hn]
    rw [hn] at hll
    have HN := Lib.hid (And.intro hn (hlen.symm.trans hn))
    have hbn : ((n : Int) != (n : Int)) = false := by simp
    clear hl hm hn hB hlen
    go_enter Try.func15, Try.ntmps15
    go_wp2
    go_loopg [13] n (fun gg z wr => ∃ i : Nat, i ≤ n ∧ n - i ≤ gg ∧ z = .int .i64 (i : Int) ∧ Hid (Fr [] w wr) ∧ Hid (l.take i = m.take i))
    case atStart => exact ⟨0, Nat.zero_le _, by omega, rfl, Lib.hid (by (repeat first | exact Fr.refl _ _ | assumption | apply Fr.n | apply Fr.d | apply Fr.a | refine Fr.s ?_ (.inr (by simp; try omega)) _)), Lib.hid (by simp)⟩
    case round =>
      obtain ⟨i, hi, hg, rfl, HW, HE⟩ := hrel
      by_cases hin : i < n
      · obtain ⟨x, hx⟩ : ∃ x, l[i]? = some x := ⟨_, List.getElem?_eq_getElem (by rw [HN.out.1]; exact hin)⟩
        obtain ⟨y, hy⟩ : ∃ y, m[i]? = some y := ⟨_, List.getElem?_eq_getElem (by rw [HN.out.2]; exact hin)⟩
        obtain ⟨g, off, rfl, hgl, hc⟩ := BoolsAt.get (HL.out.1.fr HW.out) hx
        obtain ⟨g2, off2, rfl, hgl2, hc2⟩ := BoolsAt.get (HL.out.2.fr HW.out) hy
        have HT := Lib.hid (take_eq_of hx hy HE.out)
        have HNE := Lib.hid (not_eq_of hx hy)
        clear hx hy
        have key : (x = y ∧ x = y) ∨ (x ≠ y ∧ x ≠ y) := by by_cases h : x = y <;> simp [h]
        rcases x with _ | _ <;> rcases y with _ | _
        ·
          clear key
          go_wp2
          (refine wp_region_text (by kernel_rfl) (by kernel_rfl) ?_)
          go_wp2
          refine Strict.intro rfl ?_
          go_wp2
          go_roundg (n - (i + 1))
          case measure => omega
          case rel => exact ⟨i + 1, hin, Nat.le_refl _, by simp, Lib.hid (HW.out.trans0 (by (repeat first | exact Fr.refl _ _ | assumption | apply Fr.n | apply Fr.d | apply Fr.a | refine Fr.s ?_ (.inr (by simp; try omega)) _))), Lib.hid (HT.out.2 (by simp))⟩
        ·
          have HF := Lib.hid (show B = false from by rw [← HB.out]; simpa using HNE.out (by simp))
          clear key
          go_wp2
          (refine wp_region_text (by kernel_rfl) (by kernel_rfl) ?_)
          go_wp2
          refine Strict.intro rfl ?_
          go_wp2
          go_ret
          exact ⟨by rw [HF.out]; rfl, HW.out.trans0 (by (repeat first | exact Fr.refl _ _ | assumption | apply Fr.n | apply Fr.d | apply Fr.a | refine Fr.s ?_ (.inr (by simp; try omega)) _))⟩
        ·
          have HF := Lib.hid (show B = false from by rw [← HB.out]; simpa using HNE.out (by simp))
          clear key
          go_wp2
          (refine wp_region_text (by kernel_rfl) (by kernel_rfl) ?_)
          go_wp2
          refine Strict.intro rfl ?_
          go_wp2
          go_ret
          exact ⟨by rw [HF.out]; rfl, HW.out.trans0 (by (repeat first | exact Fr.refl _ _ | assumption | apply Fr.n | apply Fr.d | apply Fr.a | refine Fr.s ?_ (.inr (by simp; try omega)) _))⟩
        ·
          clear key
          go_wp2
          (refine wp_region_text (by kernel_rfl) (by kernel_rfl) ?_)
          go_wp2
          refine Strict.intro rfl ?_
          go_wp2
          go_roundg (n - (i + 1))
          case measure => omega
          case rel => exact ⟨i + 1, hin, Nat.le_refl _, by simp, Lib.hid (HW.out.trans0 (by (repeat first | exact Fr.refl _ _ | assumption | apply Fr.n | apply Fr.d | apply Fr.a | refine Fr.s ?_ (.inr (by simp; try omega)) _))), Lib.hid (HT.out.2 (by simp))⟩
      · obtain rfl : i = n := by omega
        have HF := Lib.hid (show B = true from by
          have h1 := HE.out
          rw [List.take_of_length_le (by rw [HN.out.1]; exact Nat.le_refl _), List.take_of_length_le (by rw [HN.out.2]; exact Nat.le_refl _)] at h1
          rw [← HB.out]; simpa using h1)
        go_wp2
        go_ret
        exact ⟨by rw [HF.out]; rfl, HW.out⟩
  · have b1 : ((l.length : Int) != (m.length : Int)) = true := by simp; omega
    have HF := Lib.hid (show B = false from by rw [← hB, decide_eq_false_iff_not]; rintro rfl; exact hlen rfl)
    clear hB hl hm hlen
    go_enter Try.func15, Try.ntmps15
    go_wp2
    go_ret
    exact ⟨by rw [HF.out]; rfl, by (repeat first | exact Fr.refl _ _ | assumption | apply Fr.n | apply Fr.d | apply Fr.a | refine Fr.s ?_ (.inr (by simp; try omega)) _)⟩
/-- lists of values that are read -/
def BRowsAt (w : World) (v : Value) (ls : List (List Bool)) : Prop := ∃ vs, Reads w v ls.length 1 vs ∧ ∀ (i : Nat) (r : List Bool), ls[i]? = some r → ∃ u, vs[i]? = some u ∧ BoolsAt w u r
theorem BRowsAt.fr {w w' : World} {v : Value} {ls : List (List Bool)} (h : BRowsAt w v ls) (hf : Fr [] w w') : BRowsAt w' v ls := by
  obtain ⟨vs, h1, h2⟩ := h
  refine ⟨vs, h1.fr hf, fun i r hi => ?_⟩
  obtain ⟨u, hu, hr⟩ := h2 i r hi
  exact ⟨u, hu, hr.fr hf⟩
theorem BRowsAt.row {w : World} {a : Option Addr} {c : Nat} {ls : List (List Bool)} (h : BRowsAt w (.slice a ls.length c) ls) {i : Nat} {r : List Bool} (hi : ls[i]? = some r) :
    ∃ g off ra rc, a = some ⟨g, off, none⟩ ∧ g < w.heap.size ∧ w.cell? ⟨g, off + i, none⟩ = some (.slice ra r.length rc) ∧ BoolsAt w (.slice ra r.length rc) r := by
  obtain ⟨vs, ⟨_, a', c', he, hp⟩, h2⟩ := h
  cases he
  obtain ⟨g, off, rfl, hg, hc⟩ := hp (by have := (List.getElem?_eq_some_iff.1 hi).1; omega)
  obtain ⟨u, hu, hb⟩ := h2 i r hi
  obtain ⟨_, ra, rc, rfl, _⟩ := id hb
  exact ⟨g, off, ra, rc, rfl, hg, hc i _ hu, hb⟩
set_option maxHeartbeats 4000000 in
theorem lists_calls {w : World} {la ma : Option Addr} {lc mc : Nat} {l m : List (List Bool)} (hl : BRowsAt w (.slice la l.length lc) l) (hm : BRowsAt w (.slice ma m.length mc) m) (hll : l.length ≤ 1000000) (hle : ∀ r ∈ l, r.length ≤ 1000000) :
    Calls Try.prog 18 #[.slice la l.length lc, .slice ma m.length mc] w fun e w' => e = .returned (.bool (decide (l = m))) ∧ Fr [] w w' := by
  obtain ⟨B, hB⟩ : ∃ B, decide (l = m) = B := ⟨_, rfl⟩
  have HB := Lib.hid hB
  rw [hB]
  by_cases hlen : l.length = m.length
  · have HL := Lib.hid (And.intro hl hm)
    have HLE := Lib.hid hle
    obtain ⟨n, hn⟩ : ∃ n, l.length = n := ⟨_, rfl⟩
    rw [← hlen, hn]
    rw [hn] at hll
    have HN := Lib.hid (And.intro hn (hlen.symm.trans hn))
    have hbn : ((n : Int) != (n : Int)) = false := by simp
    clear hl hm hn hB hlen hle
    go_enter Try.func18, Try.ntmps18
    go_wp2
    go_loopg [13] n (fun gg z wr => ∃ i : Nat, i ≤ n ∧ n - i ≤ gg ∧ z = .int .i64 (i : Int) ∧ Hid (Fr [] w wr) ∧ Hid (l.take i = m.take i))
    case atStart => exact ⟨0, Nat.zero_le _, by omega, rfl, Lib.hid (by (repeat first | exact Fr.refl _ _ | assumption | apply Fr.n | apply Fr.d | apply Fr.a | refine Fr.s ?_ (.inr (by simp; try omega)) _)), Lib.hid (by simp)⟩
    case round =>
      obtain ⟨i, hi, hg, rfl, HW, HE⟩ := hrel
      by_cases hin : i < n
      · obtain ⟨x, hx⟩ : ∃ x, l[i]? = some x := ⟨_, List.getElem?_eq_getElem (by rw [HN.out.1]; exact hin)⟩
        obtain ⟨y, hy⟩ : ∃ y, m[i]? = some y := ⟨_, List.getElem?_eq_getElem (by rw [HN.out.2]; exact hin)⟩
        obtain ⟨g, off, ra, rc, hae, hgl, hc, hbx⟩ := BRowsAt.row (by rw [HN.out.1]; have := HL.out.1.fr HW.out; rw [HN.out.1] at this; exact this) hx
        subst hae
        obtain ⟨g2, off2, ra2, rc2, hae, hgl2, hc2, hby⟩ := BRowsAt.row (by rw [HN.out.2]; have := HL.out.2.fr HW.out; rw [HN.out.2] at this; exact this) hy
        subst hae
        have HT := Lib.hid (take_eq_of hx hy HE.out)
        have HNE := Lib.hid (not_eq_of hx hy)
        have HBC := Lib.hid (fun w' (hf : Fr [] wr w') => bools_calls (hbx.fr hf) (hby.fr hf) (HLE.out x (List.mem_of_getElem? hx)))
        clear hx hy hbx hby
        obtain ⟨D, hD⟩ : ∃ D, decide (x = y) = D := ⟨_, rfl⟩
        rw [hD] at HBC
        have HD := Lib.hid hD
        clear hD
        go_wp2
        (refine wp_region_text (by kernel_rfl) (by kernel_rfl) ?_)
        go_wp2_with fail
        refine (HBC.out _ (by (repeat first | exact Fr.refl _ _ | assumption | apply Fr.n | apply Fr.d | apply Fr.a | refine Fr.s ?_ (.inr (by simp; try omega)) _))).mono ?_
        rintro e w5 ⟨rfl, hf5⟩
        have HF5 := Lib.hid (HW.out.trans0 (Fr.trans0 (by (repeat first | exact Fr.refl _ _ | assumption | apply Fr.n | apply Fr.d | apply Fr.a | refine Fr.s ?_ (.inr (by simp; try omega)) _)) hf5))
        clear hf5 HBC hc hc2 hgl hgl2
        cases D with
        | true =>
          go_wp2
          refine Strict.intro rfl ?_
          go_wp2
          go_roundg (n - (i + 1))
          case measure => omega
          case rel => exact ⟨i + 1, hin, Nat.le_refl _, by simp, Lib.hid (HF5.out.trans0 (by (repeat first | exact Fr.refl _ _ | assumption | apply Fr.n | apply Fr.d | apply Fr.a | refine Fr.s ?_ (.inr (by simp; try omega)) _))), Lib.hid (HT.out.2 (by simpa using HD.out))⟩
        | false =>
          have HF := Lib.hid (show B = false from by rw [← HB.out]; simpa using HNE.out (by simpa using HD.out))
          go_wp2
          refine Strict.intro rfl ?_
          go_wp2
          go_ret
          exact ⟨by rw [HF.out]; rfl, HF5.out.trans0 (by (repeat first | exact Fr.refl _ _ | assumption | apply Fr.n | apply Fr.d | apply Fr.a | refine Fr.s ?_ (.inr (by simp; try omega)) _))⟩
      · obtain rfl : i = n := by omega
        have HF := Lib.hid (show B = true from by
          have h1 := HE.out
          rw [List.take_of_length_le (by rw [HN.out.1]; exact Nat.le_refl _), List.take_of_length_le (by rw [HN.out.2]; exact Nat.le_refl _)] at h1
          rw [← HB.out]; simpa using h1)
        go_wp2
        go_ret
        exact ⟨by rw [HF.out]; rfl, HW.out⟩
  · have b1 : ((l.length : Int) != (m.length : Int)) = true := by simp; omega
    have HF := Lib.hid (show B = false from by rw [← hB, decide_eq_false_iff_not]; rintro rfl; exact hlen rfl)
    clear hB hl hm hlen hle
    go_enter Try.func18, Try.ntmps18
    go_wp2
    go_ret
    exact ⟨by rw [HF.out]; rfl, by (repeat first | exact Fr.refl _ _ | assumption | apply Fr.n | apply Fr.d | apply Fr.a | refine Fr.s ?_ (.inr (by simp; try omega)) _)⟩
/-- the list that All returns -/
theorem all_rows {W w : World} {Ps : List Res} {oa : Option Addr} {oc : Nat} {OV : List (Value × List Bool)} (h : Has W w (Hp.row 25 1 (.slice oa OV.length oc) OV.length (OV.map (·.1)) :: bun (OV.map rowB) :: Ps)) : BRowsAt w (.slice oa (OV.map (·.2)).length oc) (OV.map (·.2)) := by
  refine ⟨OV.map (·.1), by rw [List.length_map]; exact h.rowReads, fun i r hi => ?_⟩
  rw [List.getElem?_map] at hi
  obtain ⟨q, hq, rfl⟩ := Option.map_eq_some_iff.1 hi
  refine ⟨q.1, by rw [List.getElem?_map, hq]; rfl, ?_⟩
  have h2 := h.drop.unbun
  obtain ⟨q1, q2, h3⟩ := List.append_of_mem (List.mem_map_of_mem (f := rowB) (List.mem_of_getElem? hq))
  rw [h3, List.append_assoc, List.cons_append] at h2
  have h4 := h2.perm List.perm_middle
  exact h4.rowReads
end Go.Proofs.Ytjidldfnlejdhaa
end

section
/- All and its reference: the list and the error that both give. -/
namespace Go.Proofs.Ytjidldfnlejdhaa
open Go Go.RowKit Go.Proofs.Rg Go.Proofs.Mp Go.Proofs.Hp Go.Proofs.Sv
set_option linter.unusedVariables false
set_option linter.unusedSimpArgs false
theorem rows_memL {W w : World} {Ps : List Res} {oa : Option Addr} {oc : Nat} {OV : List (Value × List Bool)} {L : List (List Bool)} (hO : OV.map (·.2) = L) (h : Has W w Ps) (h1 : Hp.row 25 1 (.slice oa L.length oc) L.length (OV.map (·.1)) ∈ Ps) (h2 : bun (OV.map rowB) ∈ Ps) : BRowsAt w (.slice oa L.length oc) L := by
  refine ⟨OV.map (·.1), ?_, fun i r hi => ?_⟩
  · obtain ⟨q1, q2, e⟩ := List.append_of_mem h1
    rw [e] at h
    exact (h.perm List.perm_middle).rowReads
  · rw [← hO, List.getElem?_map] at hi
    obtain ⟨q, hq, rfl⟩ := Option.map_eq_some_iff.1 hi
    refine ⟨q.1, by rw [List.getElem?_map, hq]; rfl, ?_⟩
    obtain ⟨q1, q2, e⟩ := List.append_of_mem h2
    rw [e] at h
    have h3 := (h.perm List.perm_middle).unbun
    obtain ⟨q3, q4, e2⟩ := List.append_of_mem (List.mem_map_of_mem (f := rowB) (List.mem_of_getElem? hq))
    rw [e2, List.append_assoc, List.cons_append] at h3
    exact (h3.perm List.perm_middle).rowReads
theorem tiny_len {V : Int} {cs : List (List Int)} (h : smallF V cs = true) : cs.length ≤ 60 ∧ ∀ r ∈ cs, r.length ≤ 1000000 := by
  unfold smallF at h
  simp only [Bool.and_eq_true, decide_eq_true_eq, List.all_eq_true] at h
  refine ⟨h.1, fun r hr => ?_⟩
  have := h.2 r hr
  unfold smallC at this
  simp only [Bool.and_eq_true, decide_eq_true_eq] at this
  omega
/-- the error and the list of All -/
def EA (V : Int) (cs : List (List Int)) (n most : Int) : Int :=
  if V < 0 ∨ goodA V.toNat cs n most = false then 2 else if most.toNat < (firsts n.toNat (Sols V.toNat cs)).length then 14 else 0
def LA (V : Int) (cs : List (List Int)) (n most : Int) : List (List Bool) := if EA V cs n most = 0 then firsts n.toNat (Sols V.toNat cs) else []
theorem brows_nil {w : World} : BRowsAt w (.slice none 0 0) [] := ⟨[], ⟨rfl, none, 0, rfl, fun h => absurd h (by simp)⟩, fun i r hi => by simp at hi⟩
def AllU (w : World) (V : Int) (cs : List (List Int)) (n most : Int) (e : Ending) (w' : World) : Prop :=
  ∃ oa oc, e = .returned (.tuple #[.slice oa (LA V cs n most).length oc, .int .i64 (EA V cs n most)]) ∧ BRowsAt w' (.slice oa (LA V cs n most).length oc) (LA V cs n most) ∧ Fr [] w w'
theorem goodA_iff {V : Nat} {cs : List (List Int)} {n most : Int} : goodA V cs n most = true ↔ rightF V cs = true ∧ 0 ≤ n ∧ n ≤ V ∧ 0 ≤ most ∧ most ≤ 262144 := by
  unfold goodA
  simp only [Bool.and_eq_true, decide_eq_true_eq]
  constructor
  · rintro ⟨⟨⟨⟨h1, h2⟩, h3⟩, h4⟩, h5⟩
    exact ⟨h1, h2, h3, h4, h5⟩
  · rintro ⟨h1, h2, h3, h4, h5⟩
    exact ⟨⟨⟨⟨h1, h2⟩, h3⟩, h4⟩, h5⟩
theorem LA_len {V : Int} {cs : List (List Int)} {n most : Int} : (LA V cs n most).length ≤ 1000000 ∧ ∀ r ∈ LA V cs n most, r.length ≤ 1000000 := by
  unfold LA
  split
  case isFalse => exact ⟨by simp, by simp⟩
  case isTrue h =>
    unfold EA at h
    split at h
    · cases h
    case isFalse hg =>
      rw [not_or, Bool.not_eq_false] at hg
      obtain ⟨hr, h0, h1, h2, h3⟩ := goodA_iff.1 hg.2
      split at h
      · cases h
      case isFalse hm =>
        obtain ⟨_, hV, hl⟩ := rightF_len hr
        refine ⟨by omega, fun r hr => ?_⟩
        unfold Sols at hr
        rw [firsts_eq (V := V.toNat) hl (by omega)] at hr
        have := ext_length (List.mem_filter.1 hr).1
        simp only [List.length_nil] at this
        omega
section
variable {w : World} {V : Int} {a : Option Addr} {c : Nat} {cs : List (List Int)} {n most : Int} {e : Ending} {w' : World}
theorem AllU.err (hV : V < 0) (he : e = .returned (.tuple #[.slice none 0 0, .int .i64 2])) (h : Has w w' []) : AllU w V cs n most e w' := by
  have e1 : EA V cs n most = 2 := by unfold EA; rw [if_pos (.inl hV)]
  have e2 : LA V cs n most = [] := by unfold LA; rw [if_neg (by omega)]
  unfold AllU
  rw [e1, e2]
  exact ⟨none, 0, he, brows_nil, h.fr⟩
theorem AllU.of {N : Nat} (h : AllPost w [] N cs n most e w') : AllU w (N : Int) cs n most e w' := by
  unfold AllU
  rcases h with ⟨hg, rfl, h⟩ | ⟨hg, hm, rfl, h⟩ | ⟨hg, OV, vo, h1, h2, rfl, h⟩
  · have e1 : EA (N : Int) cs n most = 2 := by unfold EA; rw [if_pos (.inr hg)]
    have e2 : LA (N : Int) cs n most = [] := by unfold LA; rw [if_neg (by omega)]
    rw [e1, e2]
    exact ⟨none, 0, rfl, brows_nil, h.fr⟩
  · have e1 : EA (N : Int) cs n most = 14 := by
      unfold EA
      rw [if_neg (by rw [not_or]; exact ⟨by omega, by rw [Int.toNat_natCast, hg]; simp⟩), if_pos (by rw [Int.toNat_natCast]; exact hm)]
    have e2 : LA (N : Int) cs n most = [] := by unfold LA; rw [if_neg (by omega)]
    rw [e1, e2]
    exact ⟨none, 0, rfl, brows_nil, h.fr⟩
  · have h3 : (firsts n.toNat (Sols N cs)).length ≤ most.toNat := by rw [← h1, List.length_map]; exact h2
    have e1 : EA (N : Int) cs n most = 0 := by
      unfold EA
      rw [if_neg (by rw [not_or]; exact ⟨by omega, by rw [Int.toNat_natCast, hg]; simp⟩), if_neg (by rw [Int.toNat_natCast]; omega)]
    have e2 : LA (N : Int) cs n most = firsts n.toNat (Sols N cs) := by unfold LA; rw [if_pos e1, Int.toNat_natCast]
    rw [e1, e2]
    obtain ⟨oa, oc, rfl, _⟩ := owns_form2 h.row
    have e3 : OV.length = (firsts n.toNat (Sols N cs)).length := by rw [← h1, List.length_map]
    rw [e3] at h ⊢
    exact ⟨oa, oc, rfl, rows_memL h1 h (by simp) (by simp), h.fr⟩
theorem All_u (hF : FormAt w a c cs) (hs : smallF V cs = true) : Calls Try.prog 16 #[.agg #[.int .i64 V, .slice a cs.length c], .int .i64 n, .int .i64 most] w (AllU w V cs n most) := by
  have hz := Has.nil (Fr.refl [] w)
  by_cases hV : V < 0
  · exact (All_neg hz hF hV).mono fun e w' ⟨he, h⟩ => AllU.err hV he h
  · obtain ⟨N, rfl⟩ : ∃ N : Nat, V = N := ⟨V.toNat, by omega⟩
    exact (All_calls hz (FormSrc.base hF) (tiny_len hs).2).mono fun e w' h => AllU.of h
theorem RAll_u (hF : FormAt w a c cs) (hs : smallF V cs = true) : Calls Try.prog 17 #[.agg #[.int .i64 V, .slice a cs.length c], .int .i64 n, .int .i64 most] w (AllU w V cs n most) := by
  have hz := Has.nil (Fr.refl [] w)
  by_cases hV : V < 0
  · exact (RAll_neg hz hF hV).mono fun e w' ⟨he, h⟩ => AllU.err hV he h
  · obtain ⟨N, rfl⟩ : ∃ N : Nat, V = N := ⟨V.toNat, by omega⟩
    exact (RAll_calls hz (FormSrc.base hF) (tiny_len hs).2).mono fun e w' h => AllU.of h
end
end Go.Proofs.Ytjidldfnlejdhaa
end
