/- Own texts of this claim, part 20: no condition. -/
import Derived.Deep.MidRow
import Derived.Test.YtbpaadpocihahaaZM5
import Derived.Test.YtbpaadpocihahaaZM18
set_option linter.unusedVariables false
set_option linter.unusedSimpArgs false
section
/- A load of a whole struct or array looked at again, for regions walked in segments. -/
namespace Go.Proofs.Rg
set_option linter.unusedVariables false
set_option linter.unusedSimpArgs false
open Go
theorem again_row {P : Program} {ops : Array Oper} {k : Nat} {o : Oper} {a : Act} {w : World} {T : TypeId} {x : Operand} {b off : Nat} {cs : List Value} {d : TypeDesc} (hk : ops[k]? = some o) (ho : o.op = .load T x)
    (hx : a.eval x = .pointer (some ⟨b, off, none⟩)) (hT : P.underlying T = some d) (hd : d.isRow = true) (hi : (P.info? T).map (·.size) = some cs.length) (hc : w.rangeAt b off cs)
    (hv : (a.put o.dst (.agg cs.toArray)).tmps = a.tmps) : again P ops k a w := by
  intro o' ho' _
  obtain rfl : o = o' := Option.some.inj (hk.symm.trans ho')
  refine ⟨_, ?_, hv⟩
  unfold execOp
  simp only [ho, hx, Sem.run_bind, run_loadAt_mid w b off T cs d hc hT hd hi, Result.andThen_ok]
  rfl
end Go.Proofs.Rg
end

section
/- The reference of refute: Step; law RefuteChecks, walked. -/
namespace Go.Proofs.Ytbpaadpocihahaa
open Go Go.RowKit Go.Proofs.Rg Go.Proofs.Mp Go.Proofs.Hp Go.Proofs.Sv Go.Proofs.Rp
set_option linter.unusedVariables false
set_option linter.unusedSimpArgs false
def Wide (r : List Int) : Prop := ∀ x ∈ r, -9223372036854775808 ≤ x ∧ x ≤ 9223372036854775807
theorem okLit_neg {V x : Int} (hV : 0 ≤ V ∧ V ≤ 65536) (hx : -9223372036854775808 ≤ x ∧ x ≤ 9223372036854775807) : okLit V (wrap64 (-x)) = okLit V x := by
  unfold okLit wrap64
  rw [Bool.eq_iff_iff]
  simp only [Bool.not_eq_true', Bool.or_eq_false_iff, beq_eq_false_iff_ne, decide_eq_false_iff_not]
  omega
theorem units_valid {V : Int} {cs : List (List Int)} {r : List Int} (hr : Wide r) : unitsB V cs (negW r) = validB V cs [r] := by
  unfold unitsB validB
  cases hc : rightF V cs with
  | false => rfl
  | true =>
    obtain ⟨n, rfl, hn⟩ := rightF_nat hc
    simp only [Bool.true_and]
    have e : (negW r).all (okLit n) = r.all (okLit n) := by
      unfold negW
      rw [List.all_map]
      rw [Bool.eq_iff_iff, List.all_eq_true, List.all_eq_true]
      constructor
      · intro h x hx
        have := h x hx
        rwa [Function.comp, okLit_neg (by omega) (hr x hx)] at this
      · intro h x hx
        rw [Function.comp, okLit_neg (by omega) (hr x hx)]
        exact h x hx
    rw [e]
    unfold rightF
    have h0 : decide ((n : Int) < 0) = false := decide_eq_false (by omega)
    have h1 : decide ((n : Int) > 65536) = false := decide_eq_false (by omega)
    have h2 : decide ([r].length > 262144) = false := decide_eq_false (by simp)
    rw [h0, h1, h2]
    simp
theorem step_same {V : Int} {cs : List (List Int)} {r : List Int} (hr : Wide r) : ((if unitsB V cs (negW r) then (0 : Int) else 2) = stepE V cs r) ∧ (unitsB V cs (negW r) = true → (!(unitsB V cs (negW r) && !cnfB cs (negW r))) = stepB V cs r) ∧ (unitsB V cs (negW r) = false → stepB V cs r = false) := by
  rw [units_valid hr]
  refine ⟨rfl, fun h => ?_, fun h => ?_⟩
  · obtain ⟨h1, h2⟩ := validB_one h
    obtain ⟨n, rfl, hn⟩ := rightF_nat h1
    unfold stepB
    rw [h, negW_neg hn fun x hx => (rightF_len h2).2.2 r (List.mem_singleton.2 rfl) x hx]
    simp [folB]
  · unfold stepB
    rw [h]; rfl
def RStepPost (W : World) (Ps : List Res) (V : Int) (cs : List (List Int)) (r : List Int) (e : Ending) (w' : World) : Prop :=
  ∃ X, (∀ P ∈ Ps, P ∈ X) ∧ e = .returned (.tuple #[.bool (stepB V cs r), .int .i64 (stepE V cs r)]) ∧ Has W w' X
set_option maxHeartbeats 8000000 in
set_option maxRecDepth 100000 in
theorem RStep_calls {W w : World} {Ps : List Res} (h : Has W w Ps) {V : Int} {a : Option Addr} {c : Nat} {vs : List Value} {cs : List (List Int)} (hF : FormHs W Ps a c vs cs)
    {ca : Option Addr} {cc : Nat} {r : List Int} (hC : IntsSrc W Ps ca cc r) (hw : Wide r) (hrl : r.length ≤ 1000000) (hfl : cs.flatten.length ≤ 7000000) (hs : ∀ q ∈ cs, q.length ≤ 1000000) :
    Calls Try.prog 11 #[.agg #[.int .i64 V, .slice a cs.length c], .slice ca r.length cc] w (RStepPost W Ps V cs r) := by
  have H0 := Lib.hid (h.newBlk (.cells #[.int .i64 V, .slice a cs.length c] 24 (0, 0)))
  have HF := Lib.hid hF
  have HS := Lib.hid hs
  have HFL := Lib.hid hfl
  have HSA := Lib.hid (step_same (V := V) (cs := cs) hw)
  obtain ⟨n, hn⟩ : ∃ n, cs.length = n := ⟨_, rfl⟩
  obtain ⟨m, hm⟩ : ∃ n, r.length = n := ⟨_, rfl⟩
  have HNN := Lib.hid (And.intro hn hm)
  rw [hn] at H0 ⊢
  have HC := Lib.hid hC
  have HRL := Lib.hid hrl
  rw [hm]
  clear h hC hF hs hfl hn hm hw hrl
  go_enter Try.func11, Try.ntmps11
  go_wp2
  refine wp_region_segs [([0, 1, 2], [0]), ([3, 4, 5, 6, 7, 8, 9, 10], [])] (by kernel_rfl) (by kernel_rfl) ?_
  (simp only [wpSegs, pick, Array.getD_eq_getD_getElem?, List.getElem?_toArray, List.getElem?_cons_succ, List.getElem?_cons_zero, Option.getD_some])
  have HNG := Lib.hid (fun w' (hf : Fr [] (w.alloc (.cells #[.int .i64 V, .slice a n c] 24 (0, 0))) w') => (show Calls Try.prog 29 #[.slice ca m cc] w' (fun e w2 => ∃ va vc, e = .returned (.slice va m vc) ∧ Has W w2 (Hp.row 3 1 (.slice va m vc) m (iv (negW r)) :: Hp.blk w.heap.size (.cells #[.int .i64 V, .slice a n c] 24 (0, 0)) :: Ps)) from by
    have := negated_calls (H0.out.step hf) (HC.out.more fun P hP => List.mem_cons_of_mem _ hP) HRL.out
    rw [HNN.out.2] at this
    exact this))
  go_wp2_with fail
  refine (HNG.out _ (by (repeat first | exact Fr.refl _ _ | assumption | apply Fr.n | apply Fr.d | apply Fr.a | refine Fr.s ?_ (.inr (by simp; try omega)) _))).mono ?_
  rintro e w1 ⟨va, vc, rfl, h1⟩
  have hb := (h1.bring 1).blk
  have c0 : _ = some _ := heap_eq_cell hb 0
  have c1 : _ = some _ := heap_eq_cell hb 1
  have cl := lt_of_block hb
  have Hb := Lib.hid hb
  have H1 := Lib.hid h1
  clear h1 hb H0 HNG
  go_wp2
  refine Mid.intro ⟨⟨again_row (T := 24) (cs := [.int .i64 V, .slice a n c]) rfl rfl rfl Try.underlying24 rfl (by kernel_rfl) (fun j v hj => ?rng) rfl, trivial⟩, ?_⟩
  case rng =>
    rw [Nat.zero_add, heap_eq_cell Hb.out, ← hj]
    exact (Array.getElem?_toList (xs := #[Value.int .i64 V, .slice a n c])).symm
  clear Hb
  have hnl : (negW r).length = m := by unfold negW; rw [List.length_map, HNN.out.2]
  obtain ⟨va2, vc2, hve, hvz, _⟩ := owns_form2 H1.out.row
  obtain ⟨rfl, _, rfl⟩ := Value.slice.inj hve
  have hvc := owns_cap H1.out.row
  have hm1 : Hp.row 3 1 (.slice va (negW r).length vc) (negW r).length (iv (negW r)) ∈ (Hp.row 3 1 (.slice va m vc) m (iv (negW r)) :: Hp.blk w.heap.size (.cells #[.int .i64 V, .slice a n c] 24 (0, 0)) :: Ps) := by rw [hnl]; exact List.mem_cons_self ..
  have hUC := fun w' (hf : Fr [] w1 w') => Units_calls (V := V) (H1.out.step hf) (HF.out.more fun P hP => List.mem_cons_of_mem _ (List.mem_cons_of_mem _ hP)) (row_src hm1) (fun e => (hvz e).2) (by rw [hnl]; exact hvc) (by rw [hnl, ← HNN.out.2]; exact HRL.out) HFL.out HS.out
  rw [HNN.out.1, hnl] at hUC
  have HUC := Lib.hid hUC
  clear hUC hm1 hvc hvz hve hnl
  go_wp2_with fail
  refine (HUC.out _ (by (repeat first | exact Fr.refl _ _ | assumption | apply Fr.n | apply Fr.d | apply Fr.a | refine Fr.s ?_ (.inr (by simp; try omega)) _))).mono ?_
  rintro e w2 ⟨X, ua, uk, uc, hX, rfl, h2⟩
  have H2 := Lib.hid h2
  have HX := Lib.hid hX
  clear h2 hX HUC H1 c0 c1 cl
  obtain ⟨hs1, hs2, hs3⟩ := HSA.out
  rw [hs1]
  obtain ⟨b, hb⟩ : ∃ b, unitsB V cs (negW r) = b := ⟨_, rfl⟩
  rw [hb] at hs1 hs2 hs3
  rw [hb]
  cases b with
  | false =>
    have hE : stepE V cs r = 2 := hs1.symm
    have hB := hs3 rfl
    have HE := Lib.hid (And.intro hE hB)
    rw [hE]
    clear hs1 hs2 hs3 hb hE hB HSA
    simp only [Bool.false_and]
    go_wp2
    refine Mid.intro ⟨trivial, Strict.intro rfl ?_⟩
    go_wp2
    go_ret2
    exact ⟨X, fun P hP => HX.out P (by simp [hP]), by rw [HE.out.1, HE.out.2]; rfl, H2.out.step (by (repeat first | exact Fr.refl _ _ | assumption | apply Fr.n | apply Fr.d | apply Fr.a | refine Fr.s ?_ (.inr (by simp; try omega)) _))⟩
  | true =>
    have hE : stepE V cs r = 0 := hs1.symm
    have hB := hs2 rfl
    simp only [Bool.true_and, Bool.not_not] at hB
    have HE := Lib.hid (And.intro hE hB)
    rw [hE]
    clear hs1 hs2 hs3 hb hE hB HSA
    simp only [Bool.true_and]
    obtain ⟨q, hq⟩ : ∃ q, cnfB cs (negW r) = q := ⟨_, rfl⟩
    rw [hq] at HE ⊢
    clear hq
    cases q
    all_goals
      simp only [Bool.not_true, Bool.not_false]
      go_wp2
      refine Mid.intro ⟨trivial, Strict.intro rfl ?_⟩
      go_wp2
      go_ret2
      exact ⟨X, fun P hP => HX.out P (by simp [hP]), by rw [HE.out.1, ← HE.out.2]; rfl, H2.out.step (by (repeat first | exact Fr.refl _ _ | assumption | apply Fr.n | apply Fr.d | apply Fr.a | refine Fr.s ?_ (.inr (by simp; try omega)) _))⟩
end Go.Proofs.Ytbpaadpocihahaa
end

section
/- Law RefuteChecks, walked. -/
namespace Go.Proofs.Ytbpaadpocihahaa
open Go Go.RowKit Go.Proofs.Rg Go.Proofs.Mp Go.Proofs.Hp Go.Proofs.Sv Go.Proofs.Rp
set_option linter.unusedVariables false
set_option linter.unusedSimpArgs false
set_option maxHeartbeats 16000000 in
set_option maxRecDepth 100000 in
theorem RefuteChecks_calls (haw : AwakeOk) {w : World} {V : Int} {a : Option Addr} {c : Nat} {cs : List (List Int)} (h : FormAt w a c cs) (hac : a = none → c = 0) {ca : Option Addr} {cc : Nat} {r : List Int} (hr : IntsAt w (.slice ca r.length cc) r) (hw : Wide r)
    {pa : Option Addr} {pc : Nat} {p : List (List Int)} (hp : FormAt w pa pc p) (hpa : pa = none → pc = 0) (hpc : p.length ≤ pc) :
    Calls Try.prog 3 #[.agg #[.int .i64 V, .slice a cs.length c], .slice ca r.length cc, .slice pa p.length pc] w fun e w' => e = .returned (.bool true) ∧ Fr [] w w' := by
  have HAW := Lib.hid haw
  have HAA := Lib.hid (And.intro hac (And.intro hpa hpc))
  have HT := Lib.hid (fun w' (hf : Fr [] w w') => few_calls (V := V) (h.fr hf) (hp.fr hf))
  have HI := Lib.hid h
  have HP := Lib.hid hp
  have HRS := Lib.hid (show IntsSrc w [] ca cc r from fun w' Qs hw' _ => hr.fr hw'.fr)
  have HW := Lib.hid hw
  obtain ⟨n, hn⟩ : ∃ m, cs.length = m := ⟨_, rfl⟩
  obtain ⟨m, hm⟩ : ∃ m, p.length = m := ⟨_, rfl⟩
  obtain ⟨l, hl⟩ : ∃ m, r.length = m := ⟨_, rfl⟩
  have H0 := Lib.hid ((Has.nil (Fr.refl [] w)).newBlk (.cells #[.int .i64 V, .slice a n c] 24 (0, 0)))
  have HN := Lib.hid (And.intro hn (And.intro hm hl))
  rw [hn, hm] at HT
  rw [hn, hm, hl]
  clear h haw hp hn hm hl hac hpa hpc hr hw
  go_enter Try.func3, Try.ntmps3
  go_wp2_with fail
  refine (HT.out _ (by (repeat first | exact Fr.refl _ _ | assumption | apply Fr.n | apply Fr.d | apply Fr.a | refine Fr.s ?_ (.inr (by simp; try omega)) _))).mono ?_
  rintro e w1 ⟨rfl, hf1⟩
  have h1 := H0.out.step (Fr.trans0 (by (repeat first | exact Fr.refl _ _ | assumption | apply Fr.n | apply Fr.d | apply Fr.a | refine Fr.s ?_ (.inr (by simp; try omega)) _)) hf1)
  obtain ⟨fb, hfb⟩ : ∃ b, w.heap.size = b := ⟨_, rfl⟩
  rw [hfb] at h1 ⊢
  have H1 := Lib.hid h1
  have hb := blk_mem H1.out (b := fb) (o := .cells #[.int .i64 V, .slice a n c] 24 (0, 0)) (by simp)
  (try clear v0 v1 vl)
  have v0 : _ = some _ := heap_eq_cell hb 0
  have v1 : _ = some _ := heap_eq_cell hb 1
  have vl := lt_of_block hb
  clear hb
  obtain ⟨T, hT⟩ : ∃ T, fewF cs p = T := ⟨_, rfl⟩
  rw [hT]
  have HTT := Lib.hid hT
  clear hf1 h1 hfb hT HT H0
  cases T with
  | false =>
    go_wp2_with fail
    refine (HAW.out _).mono ?_
    rintro e w9 ⟨rfl, hf9⟩
    have HF9 := Lib.hid hf9
    clear hf9
    go_wp2
    go_ret
    exact ⟨rfl, H1.out.fr.trans0 HF9.out⟩
  | true =>
    by_cases hl20 : l ≤ 20
    case neg =>
      have b0 : decide ((l : Int) > 20) = true := decide_eq_true (by omega)
      go_wp2_with fail
      refine (HAW.out _).mono ?_
      rintro e w9 ⟨rfl, hf9⟩
      have HF9 := Lib.hid hf9
      clear hf9
      go_wp2
      go_ret
      exact ⟨rfl, H1.out.fr.trans0 HF9.out⟩
    have b0 : decide ((l : Int) > 20) = false := decide_eq_false (by omega)
    obtain ⟨hc40, hp12, hc20, hp20⟩ := fewF_iff.1 HTT.out
    obtain ⟨vs, hFH⟩ := FormHs.base (Ps := []) HI.out
    obtain ⟨pvs, hPH⟩ := FormHs.base (Ps := []) HP.out
    have HC20 := Lib.hid (And.intro (fun r hr => Nat.le_trans (hc20 r hr) (by omega) : ∀ r ∈ cs, r.length ≤ 1000000) (fun r hr => Nat.le_trans (hp20 r hr) (by omega) : ∀ r ∈ p, r.length ≤ 1000000))
    have HFH := Lib.hid hFH
    have HPH := Lib.hid hPH
    have HFEW := Lib.hid (And.intro hc40 (And.intro hp12 (And.intro hc20 hp20)))
    have HFL := Lib.hid (show cs.flatten.length ≤ 7000000 from by
      have h1 := flat_le hc20
      have h2 : cs.length * 20 ≤ 40 * 20 := Nat.mul_le_mul_right _ hc40
      omega)
    have hST := fun w' (hf : Fr [] w1 w') => Step_calls (V := V) (H1.out.step hf) (HFH.out.more fun P hP => by simp at hP) (HRS.out.more fun P hP => by simp at hP) HC20.out.1 (by rw [HN.out.2.2]; omega)
    rw [HN.out.1, HN.out.2.2] at hST
    have HST := Lib.hid hST
    clear hc20 hp20 hFH hPH hc40 hp12 hST
    go_wp2_with fail
    refine (HST.out _ (by (repeat first | exact Fr.refl _ _ | assumption | apply Fr.n | apply Fr.d | apply Fr.a | refine Fr.s ?_ (.inr (by simp; try omega)) _))).mono ?_
    rintro e w2 ⟨rfl, h2⟩
    have H2 := Lib.hid h2
    have hRS := fun w' (hf : Fr [] w2 w') => RStep_calls (V := V) (H2.out.step hf) (HFH.out.more fun P hP => by simp at hP) (HRS.out.more fun P hP => by simp at hP) HW.out (by rw [HN.out.2.2]; omega) HFL.out HC20.out.1
    rw [HN.out.1, HN.out.2.2] at hRS
    have HRP := Lib.hid hRS
    clear h2 HST hRS H1
    obtain ⟨B, hB⟩ : ∃ B, stepB V cs r = B := ⟨_, rfl⟩
    obtain ⟨E, hE⟩ : ∃ E, stepE V cs r = E := ⟨_, rfl⟩
    rw [hB, hE]
    have HBE := Lib.hid (And.intro hB hE)
    clear hB hE
    have hb := blk_mem H2.out (b := fb) (o := .cells #[.int .i64 V, .slice a n c] 24 (0, 0)) (by simp)
    (try clear v0 v1 vl)
    have v0 : _ = some _ := heap_eq_cell hb 0
    have v1 : _ = some _ := heap_eq_cell hb 1
    have vl := lt_of_block hb
    clear hb
    go_wp2_with fail
    refine (HRP.out _ (by (repeat first | exact Fr.refl _ _ | assumption | apply Fr.n | apply Fr.d | apply Fr.a | refine Fr.s ?_ (.inr (by simp; try omega)) _))).mono ?_
    rintro e w3 ⟨X, hX, rfl, h3⟩
    rw [HBE.out.1, HBE.out.2]
    have HX := Lib.hid hX
    have H3 := Lib.hid h3
    have hCK := fun w' (hf : Fr [] w3 w') => Check_calls (V := V) (H3.out.step hf) (HFH.out.more fun P hP => by simp at hP) (HPH.out.more fun P hP => by simp at hP) HC20.out.1 HC20.out.2
    rw [HN.out.1, HN.out.2.1] at hCK
    have HCK := Lib.hid hCK
    clear h3 hX HRP hCK H2
    have hb := blk_mem H3.out (b := fb) (o := .cells #[.int .i64 V, .slice a n c] 24 (0, 0)) (HX.out _ (by simp))
    (try clear v0 v1 vl)
    have v0 : _ = some _ := heap_eq_cell hb 0
    have v1 : _ = some _ := heap_eq_cell hb 1
    have vl := lt_of_block hb
    clear hb
    go_wp2_with fail
    refine (HCK.out _ (by (repeat first | exact Fr.refl _ _ | assumption | apply Fr.n | apply Fr.d | apply Fr.a | refine Fr.s ?_ (.inr (by simp; try omega)) _))).mono ?_
    rintro e w4 ⟨rfl, h4⟩
    have H4 := Lib.hid h4
    obtain ⟨N, hN⟩ : ∃ N : Int, (chkNV V cs p : Int) = N := ⟨_, rfl⟩
    obtain ⟨E2, hE2⟩ : ∃ E, chkEV V cs p = E := ⟨_, rfl⟩
    rw [hN, hE2]
    have HNE := Lib.hid (And.intro hN hE2)
    have hRC := fun w' (hf : Fr [] w4 w') => RCheck_calls (V := V) (H4.out.step hf) (HFH.out.more fun P hP => by simp at hP) HAA.out.1 (HPH.out.more fun P hP => by simp at hP) HAA.out.2.1 HAA.out.2.2 HC20.out.1 HC20.out.2 (flat_two (k := 20) (m := 40) (n := 12) HFEW.out.2.2.1 HFEW.out.2.2.2 HFEW.out.1 HFEW.out.2.1 (by omega))
    rw [HN.out.1, HN.out.2.1] at hRC
    have HRC := Lib.hid hRC
    clear h4 hN hE2 HCK hRC H3
    have hb := blk_mem H4.out (b := fb) (o := .cells #[.int .i64 V, .slice a n c] 24 (0, 0)) (HX.out _ (by simp))
    (try clear v0 v1 vl)
    have v0 : _ = some _ := heap_eq_cell hb 0
    have v1 : _ = some _ := heap_eq_cell hb 1
    have vl := lt_of_block hb
    clear hb
    go_wp2_with fail
    refine (HRC.out _ (by (repeat first | exact Fr.refl _ _ | assumption | apply Fr.n | apply Fr.d | apply Fr.a | refine Fr.s ?_ (.inr (by simp; try omega)) _))).mono ?_
    rintro e w5 ⟨rfl, h5⟩
    rw [HNE.out.1, HNE.out.2]
    have H5 := Lib.hid h5
    clear h5 HRC H4 v0 v1 vl
    have b1 : (B == B) = true := by simp
    have b2 : (E == E) = true := by simp
    have b3 : (N == N) = true := by simp
    have b4 : (E2 == E2) = true := by simp
    go_wp2_with fail
    refine (HAW.out _).mono ?_
    rintro e w9 ⟨rfl, hf9⟩
    have HF9 := Lib.hid hf9
    clear hf9
    go_wp2
    go_ret
    exact ⟨rfl, H5.out.fr.trans0 HF9.out⟩
end Go.Proofs.Ytbpaadpocihahaa
end
