/- Own texts of this claim, part 16: no condition. -/
import Derived.WalkMore
import Derived.Deep.LoopGhost
import Derived.ScopeJumps
import Derived.Test.YtjidldfnlejdhaaZM14
import Derived.Test.YtjidldfnlejdhaaZM11
set_option linter.unusedVariables false
set_option linter.unusedSimpArgs false
section
/- solve: the search for the next assignment. -/
namespace Go.Proofs.Ytjidldfnlejdhaa
open Go Go.RowKit Go.Proofs.Rg Go.Proofs.Mp Go.Proofs.Hp Go.Proofs.Sv
set_option linter.unusedVariables false
set_option linter.unusedSimpArgs false
section
variable {V : Nat} {M : List Bool → Prop} {U : List Int} {cl0 cl : List (List Int)} {wt : Int → List Nat}
theorem SInv.len_le : ∀ {D : List Dec} {tr : List Int}, SInv V M U D tr → D.length ≤ tr.length
  | [], _, _ => Nat.zero_le _
  | d :: D, tr, h => by
    have h1 := SInv.len_le h.1
    have h2 := (List.getElem?_eq_some_iff.1 h.2.1).1
    simp at h1 ⊢; omega
theorem dok_of : ∀ {D : List Dec} {tr : List Int}, SInv V M U D tr → TrOk V tr → DOk V D tr
  | [], _, _, _ => trivial
  | d :: D, tr, h, ht => by
    have h1 := SInv.len_le h.1
    obtain ⟨h2, hde⟩ := List.getElem?_eq_some_iff.1 h.2.1
    have h3 := tr_len ht
    have inj : ∀ y : Int, y ∈ tr.take d.t → y.natAbs ≠ d.v := by
      intro y hy e
      obtain ⟨i, hi, rfl⟩ := List.getElem_of_mem hy
      simp at hi
      rw [List.getElem_take] at e
      have a1 : (tr.map Int.natAbs)[i]'(by simp; omega) = (tr.map Int.natAbs)[d.t]'(by simpa using h2) := by
        simp only [List.getElem_map, hde, dlit, e]
        cases d.tn <;> simp
      have := (List.getElem_inj ht.2).1 a1
      omega
    refine ⟨h2, h.2.2.1, ⟨fun e => inj _ e (by simp), fun e => inj _ e (by simp)⟩, ?_, dok_of h.1 (ht.take _)⟩
    simp at h1; omega
theorem BI.turnE {n : Nat} : ∀ {D : List Dec} {tr : List Int} (m : Nat), BI V M U cl0 D cl wt tr → ∀ {D' : List Dec}, turnF n D = some D' → EI V M U cl0 D' cl wt (turnT n D tr) (turnN n D m) ∧ turnN n D m ≤ (turnT n D tr).length
  | [], _, _, _, _, h => by simp [turnF] at h
  | d :: D, tr, m, h, D', hD => by
    by_cases hc : d.tn = false ∧ d.v ≤ n
    · obtain ⟨d', D0, e1, e2, e3⟩ := h.turn hD
      have e0 : D' = ⟨d.v, d.t, true⟩ :: D := by unfold turnF at hD; rw [if_pos hc] at hD; exact (Option.some.inj hD).symm
      rw [e0] at e1
      simp only [List.cons.injEq, Dec.mk.injEq, and_true] at e1
      obtain ⟨⟨ev, et⟩, ed⟩ := e1
      rw [← ev, ← et] at e3
      have h2 := (List.getElem?_eq_some_iff.1 h.s.2.1).1
      unfold turnT turnN
      rw [if_pos hc, if_pos hc]
      exact ⟨e3, by simp; omega⟩
    · unfold turnF at hD
      rw [if_neg hc] at hD
      unfold turnT turnN
      rw [if_neg hc, if_neg hc]
      exact BI.turnE d.t h.back.b hD
end
/-- the state of the search at its label -/
structure SS where
  CV : List (Value × List Int)
  L : List (Int × (Value × List Nat))
  tr : List Int
  dn : Nat
  D : List Dec
def SR (W : World) (Ps : List Res) (V : Nat) (U : List Int) (CS cl0 : List (List Int)) (p : Nat) (D : List Dec) (s : SS) (w : World) : Prop :=
  Has W w (engR p V s.CV s.L s.tr s.dn s.D false :: Ps) ∧ EI V (fun A => A.length = V ∧ sat CS A = true) U cl0 s.D (s.CV.map (·.2)) (wl s.L) s.tr s.dn ∧ s.dn ≤ s.tr.length ∧ ((ext V []).filter (sat CS)).filter (left s.D) = ((ext V []).filter (sat CS)).filter (left D)
def SMu (V : Nat) (s : SS) : Nat := cnt V s.D * (V + 1) + (V - s.tr.length)
/-- what holds at each jump to the label -/
def SJ (W : World) (Ps : List Res) (V : Nat) (U : List Int) (CS cl0 : List (List Int)) (p : Nat) (D : List Dec) (a : Act) (w : World) : Prop :=
  ∃ (u1 u2 u4 u5 u6 u7 u8 u9 u10 u11 u12 u13 u14 u15 u16 u17 u18 u19 u20 u21 u22 u23 u24 u25 u26 u27 u28 u29 u30 u31 u32 u33 u34 u35 u36 u37 u38 : Value), a = { tmps := #[.pointer (some ⟨p, 0, none⟩), u1, u2, .int .i64 (V : Int), u4, u5, u6, u7, u8, u9, u10, u11, u12, u13, u14, u15, u16, u17, u18, u19, u20, u21, u22, u23, u24, u25, u26, u27, u28, u29, u30, u31, u32, u33, u34, u35, u36, u37, u38], defers := [] } ∧ ∃ s, SR W Ps V U CS cl0 p D s w
theorem skip_seq {P : Program} {c : Code} {Q : Exit → Act → World → Prop} {a : Act} {w : World} (h : c.wp P Q a w) : (Code.skip.seq c).wp P Q a w := wp_seq (wp_skip h)
def SearchPost (W : World) (Ps : List Res) (V : Nat) (U : List Int) (CS cl0 : List (List Int)) (p : Nat) (D : List Dec) (e : Ending) (w' : World) : Prop :=
  ∃ b CV' L' tr' dn' D', e = .returned (.bool b) ∧ Has W w' (engR p V CV' L' tr' dn' D' false :: Ps) ∧ (b = false → ((ext V []).filter (sat CS)).filter (left D) = []) ∧
    (b = true → EI V (fun A => A.length = V ∧ sat CS A = true) U cl0 D' (CV'.map (·.2)) (wl L') tr' tr'.length ∧ dn' = tr'.length ∧ (∀ v : Nat, 1 ≤ v → v ≤ V → (v : Int) ∈ tr' ∨ -(v : Int) ∈ tr') ∧ ((ext V []).filter (sat CS)).filter (left D') = ((ext V []).filter (sat CS)).filter (left D))
set_option maxHeartbeats 8000000 in
set_option maxRecDepth 100000 in
theorem search_calls {W w : World} {Ps : List Res} {p V : Nat} {CV : List (Value × List Int)} {L : List (Int × (Value × List Nat))} {tr : List Int} {dn : Nat} {D : List Dec} (h : Has W w (engR p V CV L tr dn D false :: Ps)) (hV : V ≤ 65536)
    {U : List Int} {CS cl0 : List (List Int)} (hE : EI V (fun A => A.length = V ∧ sat CS A = true) U cl0 D (CV.map (·.2)) (wl L) tr dn) (hdn : dn ≤ tr.length) (hU : ∀ A, A.length = V → (sat CS A = true ↔ sat cl0 A = true ∧ ∀ x ∈ U, litT A x = true)) (hC0 : ClOk V cl0) (hS : cl0.length ≤ 300000 ∧ ∀ c ∈ cl0, c.length ≤ 1000000) :
    Calls Try.prog 29 #[.pointer (some ⟨p, 0, none⟩)] w (SearchPost W Ps V U CS cl0 p D) := by
  have H := Lib.hid h
  obtain ⟨mb, cv, vv, tv, dv, h⟩ := eng_open h
  simp only [engL, List.cons_append, List.nil_append] at h
  have hb := h.blk
  obtain ⟨va, vc, rfl, hv0, hv1⟩ := owns_form2 (h.bring 5).row
  have c2 : _ = some _ := heap_eq_cell hb 2
  have c6 : _ = some _ := heap_eq_cell hb 6
  have cl := lt_of_block hb
  have HE := Lib.hid (And.intro hE hdn)
  have HU := Lib.hid hU
  have HC0 := Lib.hid hC0
  have HS := Lib.hid hS
  clear h hb hE hU hC0 hS hdn hv0 hv1
  go_enter Try.func29, Try.ntmps29
  obtain ⟨mu, hmu⟩ := rank_exists (SR W Ps V U CS cl0 p D) (SMu V)
  have HMU := Lib.hid hmu
  clear hmu
  go_wp2
  refine (fun (pass : ∀ a w, SJ W Ps V U CS cl0 p D a w → Code.wp Try.prog _ (Exit.jump 0 (fun a' w' => SJ W Ps V U CS cl0 p D a' w' ∧ mu w' < mu w) _) a w) => wp_scope_jumps 0 (SJ W Ps V U CS cl0 p D) (fun _ w => mu w) rfl ?first (fun a w h => skip_seq (pass a w h))) ?pass
  case first =>
    go_wp2
    go_step3
    rename_i K hK
    refine hK _ _ (Code.wp_mono ?hm (pass _ _ ?hj))
    case hj => exact ⟨_, _, _, _, _, _, _, _, _, _, _, _, _, _, _, _, _, _, _, _, _, _, _, _, _, _, _, _, _, _, _, _, _, _, _, _, _, rfl, ⟨CV, L, tr, dn, D⟩, H.out.step (by (repeat first | exact Fr.refl _ _ | assumption | apply Fr.n | apply Fr.d | apply Fr.a | refine Fr.s ?_ (.inr (by simp; try omega)) _)), HE.out.1, HE.out.2, rfl⟩
    case hm =>
      intro e a w h
      cases e <;> first | exact h | exact ⟨h.1, h.2.1⟩
  case pass =>
    clear H HE c2 c6 cl
    rintro a w ⟨u1, u2, u4, u5, u6, u7, u8, u9, u10, u11, u12, u13, u14, u15, u16, u17, u18, u19, u20, u21, u22, u23, u24, u25, u26, u27, u28, u29, u30, u31, u32, u33, u34, u35, u36, u37, u38, rfl, s0, hs0⟩
    obtain ⟨⟨s, hs, hmus⟩, hmin⟩ := HMU.out w ⟨s0, hs0⟩
    clear hs0
    obtain ⟨CV1, L1, tr1, dn1, D1⟩ := s
    obtain ⟨h1, hE1, hd1, hl1⟩ := hs
    simp only at h1 hE1 hd1 hl1
    have HE := Lib.hid hE1
    have HD := Lib.hid (And.intro hd1 hl1)
    have HMS := Lib.hid hmus
    have H1 := Lib.hid h1
    clear h1 hE1 hd1 hl1 hmus hmin
    go_wp2_with fail
    refine (propagate_calls (G := Gr (fun A => A.length = V ∧ sat CS A = true) D1) (cl0 := cl0) (Cs := chk D1 tr1) H1.out hV HE.out.core HD.out.1 (unit_Gr HC0.out (fun A hA => ((HU.out A hA.1).1 hA.2).1) D1) HS.out).mono ?_
    rintro e w2 ⟨ok, CV2, L2, tr2, dn2, rfl, h2, hp2, hok, hno⟩
    have H2 := Lib.hid h2
    have HP := Lib.hid hp2
    have HK := Lib.hid hok
    have HN := Lib.hid hno
    clear h2 hp2 hok hno H1
    cases ok with
    | false =>
      have hcf := HN.out rfl
      have hbi := hcf.bi HE.out.b.s HP.out
      have HT := Lib.hid hbi
      have HCF := Lib.hid hcf
      clear hcf hbi HN HK
      go_wp2_with fail
      refine (turn_calls (n := V) H2.out HT.out.htr hV (dok_of HT.out.s HT.out.htr) (by omega)).mono ?_
      rintro e w3 ⟨rfl, h3⟩
      have H3 := Lib.hid h3
      clear h3 H2
      cases ht : turnF V D1 with
      | none =>
        have hend : ((ext V []).filter (sat CS)).filter (left D) = [] := by
          rw [← HD.out.2, left_conf HU.out HCF.out, List.filter_eq_nil_iff]
          intro A _
          rw [(turn_all HT.out.s).2 ht A]
          simp
        have HF := Lib.hid hend
        have h4 := H3.out
        rw [ht] at h4
        have H4 := Lib.hid h4
        clear hend h4 H3 ht
        go_wp2
        simp only [Exit.jump]
        go_ret
        exact ⟨false, CV2, L2, _, _, _, rfl, H4.out, fun _ => HF.out, (fun e => by cases e)⟩
      | some D' =>
        have hbe := BI.turnE dn2 HT.out ht
        have hal := (turn_all HT.out.s).1 ht
        have hcn := cnt_turn HT.out.s HT.out.htr ht
        have h4 := H3.out
        rw [ht] at h4
        have hR : SR W Ps V U CS cl0 p D ⟨CV2, L2, turnT V D1 tr2, turnN V D1 dn2, D'⟩ w3 := ⟨h4, hbe.1, hbe.2, by
          show ((ext V []).filter (sat CS)).filter (left D') = _
          rw [← HD.out.2, left_conf HU.out HCF.out]
          exact List.filter_congr fun A _ => hal A⟩
        have hmm := (HMU.out w3 ⟨_, hR⟩).2 _ hR
        have HRR := Lib.hid hR
        have hlt : SMu V ⟨CV2, L2, turnT V D1 tr2, turnN V D1 dn2, D'⟩ < SMu V ⟨CV1, L1, tr1, dn1, D1⟩ := by
          unfold SMu
          simp only
          have h5 : (cnt V D' + 1) * (V + 1) ≤ cnt V D1 * (V + 1) := Nat.mul_le_mul_right _ hcn
          rw [Nat.add_mul] at h5
          omega
        have HLT := Lib.hid (show mu w3 < mu w from by have := HMS.out; omega)
        clear hbe hal hcn h4 hR hmm hlt H3 ht
        go_wp2
        go_step3
        exact ⟨rfl, ⟨_, _, _, _, _, _, _, _, _, _, _, _, _, _, _, _, _, _, _, _, _, _, _, _, _, _, _, _, _, _, _, _, _, _, _, _, _, rfl, _, HRR.out⟩, HLT.out⟩
    | true =>
      obtain ⟨hco, hdn2⟩ := HK.out rfl
      subst hdn2
      have hei := Core.ei HE.out.b.s HP.out hco
      obtain ⟨_, g, cap, gl, k2, kv⟩ := ofAt H2.out
      have pl := (ofAt H2.out).1
      have HEI := Lib.hid hei
      have HKV := Lib.hid kv
      have hple := HP.out.length_le
      clear hco hei kv HK HN
      go_wp2
      go_loopg [4] (V + 1) (fun gg z wr => ∃ v : Nat, (1 ≤ v ∧ v ≤ V + 1) ∧ V + 1 - v ≤ gg ∧ z = .int .i64 (v : Int) ∧ wr = w2 ∧ Hid (∀ u : Nat, 1 ≤ u → u < v → (u : Int) ∈ tr2 ∨ -(u : Int) ∈ tr2))
      case atStart => exact ⟨1, ⟨Nat.le_refl _, by omega⟩, by omega, rfl, rfl, Lib.hid (fun u h1 h2 => by omega)⟩
      case round =>
        obtain ⟨v, hv, hg, rfl, rfl, HA⟩ := hrel
        by_cases hvV : v ≤ V
        · have hcv := HKV.out v hvV
          obtain ⟨z, hz⟩ : ∃ z, vof tr2 v = z := ⟨_, rfl⟩
          rw [hz] at hcv
          have HZ := Lib.hid hz
          clear hz
          by_cases hz0 : z = 0
          · subst hz0
            have hnv : (v : Int) ∉ tr2 ∧ -(v : Int) ∉ tr2 := by
              have := HZ.out
              unfold vof at this
              by_cases h1 : (v : Int) ∈ tr2
              · rw [if_pos h1] at this; omega
              · rw [if_neg h1] at this
                by_cases h2 : -(v : Int) ∈ tr2
                · rw [if_pos h2] at this; omega
                · exact ⟨h1, h2⟩
            have HNV := Lib.hid hnv
            have hw1 : IntKind.i64.wrap (-(v : Int)) = -(v : Int) := IntWalk.i64_in _ (by omega)
            clear hnv
            go_wp2_with fail
            refine (decide_calls H2.out HEI.out.b.htr hV (by have := SInv.len_le HEI.out.b.s; have := tr_len HEI.out.b.htr; omega) (x := -(v : Int)) (by omega) (by simp; omega) ⟨HNV.out.2, by rw [Int.neg_neg]; exact HNV.out.1⟩ false).mono ?_
            rintro e w3 ⟨rfl, h3⟩
            have hna : (-(v : Int)).natAbs = v := by simp
            rw [hna] at h3
            have hed := HEI.out.decide (v := v) (tn := false) ⟨hv.1, hvV⟩ HNV.out HA.out
            have hR : SR W Ps V U CS cl0 p D ⟨CV2, L2, tr2 ++ [-(v : Int)], tr2.length, ⟨v, tr2.length, false⟩ :: D1⟩ w3 := ⟨h3, hed, by simp, by
              show ((ext V []).filter (sat CS)).filter (left (⟨v, tr2.length, false⟩ :: D1)) = _
              rw [← HD.out.2]
              exact List.filter_congr fun A _ => left_decide _ _ _ A⟩
            have hmm := (HMU.out w3 ⟨_, hR⟩).2 _ hR
            have hlen := tr_len hed.b.htr
            have HRR := Lib.hid hR
            have hlt : SMu V ⟨CV2, L2, tr2 ++ [-(v : Int)], tr2.length, ⟨v, tr2.length, false⟩ :: D1⟩ < SMu V ⟨CV1, L1, tr1, dn1, D1⟩ := by
              unfold SMu
              simp only
              have h5 : cnt V (⟨v, tr2.length, false⟩ :: D1) = cnt V D1 := by
                unfold cnt
                congr 1
                funext A
                exact left_decide _ _ _ A
              rw [h5]
              rw [List.length_append] at hlen ⊢
              simp only [List.length_cons, List.length_nil] at hlen ⊢
              omega
            have HLT := Lib.hid (show mu w3 < mu w from by have := HMS.out; omega)
            clear h3 hed hR hmm hlen hlt hna
            go_wp2
            go_step3
            exact ⟨rfl, ⟨_, _, _, _, _, _, _, _, _, _, _, _, _, _, _, _, _, _, _, _, _, _, _, _, _, _, _, _, _, _, _, _, _, _, _, _, _, rfl, _, HRR.out⟩, HLT.out⟩
          · have hz1 : (z == 0) = false := by simpa using hz0
            have hnv : (v : Int) ∈ tr2 ∨ -(v : Int) ∈ tr2 := by
              have := HZ.out
              unfold vof at this
              by_cases h1 : (v : Int) ∈ tr2
              · exact .inl h1
              · rw [if_neg h1] at this
                by_cases h2 : -(v : Int) ∈ tr2
                · exact .inr h2
                · rw [if_neg h2] at this; exact absurd this.symm hz0
            have HNV := Lib.hid hnv
            clear hnv hz0
            go_wp2
            go_roundg (V + 1 - (v + 1))
            case measure => omega
            case rel =>
              refine ⟨v + 1, ⟨by omega, by omega⟩, Nat.le_refl _, rfl, rfl, Lib.hid (fun u h1 h2 => ?_)⟩
              rcases Nat.lt_or_ge u v with h3 | h3
              · exact HA.out u h1 h3
              · obtain rfl : u = v := by omega
                exact HNV.out
        · go_wp2
          simp only [Exit.jump]
          go_ret
          refine ⟨true, CV2, L2, tr2, tr2.length, D1, rfl, H2.out, (fun e => by cases e), fun _ => ⟨HEI.out, rfl, fun u h1 h2 => HA.out u h1 (by omega), HD.out.2⟩⟩
end Go.Proofs.Ytjidldfnlejdhaa
end

section
/- solve: a search that is lost from the start; the values that were found. -/
namespace Go.Proofs.Ytjidldfnlejdhaa
open Go Go.RowKit Go.Proofs.Rg Go.Proofs.Mp Go.Proofs.Hp Go.Proofs.Sv
set_option linter.unusedVariables false
set_option linter.unusedSimpArgs false
def bv (l : List Bool) : List Value := l.map Value.bool
theorem bv_length (l : List Bool) : (bv l).length = l.length := by simp [bv]
set_option maxHeartbeats 4000000 in
theorem search_bad {W w : World} {Ps : List Res} {p V : Nat} {CV : List (Value × List Int)} {L : List (Int × (Value × List Nat))} {tr : List Int} {dn : Nat} {D : List Dec} (h : Has W w (engR p V CV L tr dn D true :: Ps)) :
    Calls Try.prog 29 #[.pointer (some ⟨p, 0, none⟩)] w fun e w' => e = .returned (.bool false) ∧ Has W w' (engR p V CV L tr dn D true :: Ps) := by
  have H := Lib.hid h
  obtain ⟨mb, cv, vv, tv, dv, h⟩ := eng_open h
  simp only [engL, List.cons_append, List.nil_append] at h
  have hb := h.blk
  have c6 : _ = some _ := heap_eq_cell hb 6
  have cl := lt_of_block hb
  clear h hb
  go_enter Try.func29, Try.ntmps29
  go_wp2
  go_step3
  go_wp2
  rw [Exit.noGoto_ret]
  go_ret
  exact ⟨rfl, H.out⟩
theorem vof_one {tr : List Int} {v : Nat} : (vof tr v == 1) = decide ((v : Int) ∈ tr) := by
  unfold vof
  by_cases h : (v : Int) ∈ tr
  · rw [if_pos h]; simp [h]
  · rw [if_neg h]; split <;> simp [h]
set_option maxHeartbeats 4000000 in
theorem first_calls {W w : World} {Ps : List Res} {p V : Nat} {CV : List (Value × List Int)} {L : List (Int × (Value × List Nat))} {tr : List Int} {dn : Nat} {D : List Dec} {bad : Bool} (h : Has W w (engR p V CV L tr dn D bad :: Ps)) (hV : V ≤ 65536) {n : Nat} (hn : n ≤ V) :
    Calls Try.prog 30 #[.pointer (some ⟨p, 0, none⟩), .int .i64 (n : Int)] w fun e w' => ∃ v, e = .returned v ∧ Has W w' (Hp.row 4 1 v n (bv ((asg V tr).take n)) :: engR p V CV L tr dn D bad :: Ps) := by
  have H := Lib.hid h
  have hmaxl : (65537 : Nat) ≤ maxLen := by decide
  have hlm : n ≤ maxLen := by omega
  clear h hmaxl
  go_enter Try.func30, Try.ntmps30
  go_wp2_with (refine wpList_make1 (n := n) (z := .bool false) (bytes := 1) (e := 4) rfl rfl rfl rfl Try.underlying25 (by kernel_rfl) rfl (by omega) hlm ?_)
  intro w1 hrow1 hf1 hs1
  have h1 := (H.out.step hf1)
  have h2 : Has W w1 (Hp.row 4 1 (.slice (some ⟨w.heap.size, 0, none⟩) n n) n (List.replicate n (.bool false)) :: engR p V CV L tr dn D bad :: Ps) := H.out.newRow hf1 hrow1
  obtain ⟨rb, hrb⟩ : ∃ b, w.heap.size = b := ⟨_, rfl⟩
  rw [hrb] at h2 ⊢
  have H2 := Lib.hid h2
  clear h1 h2 hrow1 hf1 hs1 hrb H
  go_wp2
  go_loopg [11] n (fun gg z wr => ∃ i : Nat, i ≤ n ∧ n - i ≤ gg ∧ z = .int .i64 (i : Int) ∧ Hid (Has W wr (Hp.row 4 1 (.slice (some ⟨rb, 0, none⟩) n n) n (bv ((asg V tr).take i) ++ List.replicate (n - i) (.bool false)) :: engR p V CV L tr dn D bad :: Ps)))
  case atStart => exact ⟨0, Nat.zero_le _, by omega, rfl, Lib.hid (by simpa [bv] using H2.out)⟩
  case round =>
    obtain ⟨i, hi, hg, rfl, H1⟩ := hrel
    clear H2
    by_cases hin : i < n
    · obtain ⟨hp0, g, cap, gl, k2, kv⟩ := ofAt H1.out.drop
      have hcv := kv (i + 1) (by omega)
      have hr := H1.out.row
      have hlen : (bv ((asg V tr).take i) ++ List.replicate (n - i) (Value.bool false)).length = n := by
        rw [List.length_append, bv_length, List.length_take, asg_length, List.length_replicate]; omega
      obtain ⟨y, hy⟩ : ∃ y, (bv ((asg V tr).take i) ++ List.replicate (n - i) (Value.bool false))[i]? = some y := ⟨_, List.getElem?_eq_getElem (by omega)⟩
      have r0 := owns_cell hr rfl hy
      have rz := owns_frozen hr rfl i
      have rl := owns_lt hr rfl
      have hvo := vof_one (tr := tr) (v := i + 1)
      obtain ⟨z, hz⟩ : ∃ z, vof tr (i + 1) = z := ⟨_, rfl⟩
      rw [hz] at hcv hvo
      have hset := Has.rowSet (j := i) H1.out (by omega) (.bool (z == 1))
      have hsl : (bv ((asg V tr).take i) ++ List.replicate (n - i) (Value.bool false)).set i (.bool (z == 1)) = bv ((asg V tr).take (i + 1)) ++ List.replicate (n - (i + 1)) (Value.bool false) := by
        have hli : (bv ((asg V tr).take i)).length = i := by rw [bv_length, List.length_take, asg_length]; omega
        have e0 : (asg V tr)[i]? = some (z == 1) := by
          rw [hvo]
          unfold asg
          rw [List.getElem?_map, List.getElem?_range (by omega)]
          rfl
        rw [List.set_append_right _ _ (by omega), hli, Nat.sub_self, show n - i = (n - (i + 1)) + 1 by omega, List.replicate_succ, List.set_cons_zero, List.take_add_one, e0]
        simp [bv]
      rw [hsl] at hset
      have HS := Lib.hid hset
      have hn6 : n ≤ 65536 := by omega
      clear hr hlen hy hvo hz hset hsl kv H1
      go_wp2
      go_roundg (n - (i + 1))
      case measure => omega
      case rel => exact ⟨i + 1, hin, Nat.le_refl _, by simp, HS⟩
    · obtain rfl : i = n := by omega
      have h3 := H1.out
      rw [Nat.sub_self, List.replicate_zero, List.append_nil] at h3
      have H3 := Lib.hid h3
      clear h3 H1
      go_wp2
      go_ret
      exact ⟨_, rfl, H3.out⟩
end Go.Proofs.Ytjidldfnlejdhaa
end

section
/- formula: valid formulas. -/
namespace Go.Proofs.Ytjidldfnlejdhaa
open Go Go.RowKit Go.Proofs.Rg Go.Proofs.Mp Go.Proofs.Hp Go.Proofs.Sv
set_option linter.unusedVariables false
set_option linter.unusedSimpArgs false
def okLit (V : Int) (x : Int) : Bool := !(x == 0 || decide (x > V) || decide (x < -V))
/-- a formula is valid -/
def rightF (V : Int) (cs : List (List Int)) : Bool := !(decide (V < 0) || decide (V > 65536) || decide (cs.length > 262144)) && cs.all fun c => c.all (okLit V)
theorem IntsAt.get {w : World} {a : Option Addr} {c : Nat} {l : List Int} (h : IntsAt w (.slice a l.length c) l) {i : Nat} {x : Int} (hx : l[i]? = some x) : ∃ g off, a = some ⟨g, off, none⟩ ∧ g < w.heap.size ∧ w.cell? ⟨g, off + i, none⟩ = some (.int .i64 x) := by
  obtain ⟨_, a', c', he, hp⟩ := h
  cases he
  obtain ⟨g, off, ha, hg, hc⟩ := hp (by have := (List.getElem?_eq_some_iff.1 hx).1; omega)
  exact ⟨g, off, ha, hg, hc i _ (iv_get hx)⟩
set_option maxHeartbeats 4000000 in
theorem proper_calls {w : World} {V : Int} (hV : 0 ≤ V ∧ V ≤ 65536) {a : Option Addr} {c : Nat} {l : List Int} (h : IntsAt w (.slice a l.length c) l) (hl : l.length ≤ 9223372036854775807) :
    Calls Try.prog 50 #[.int .i64 V, .slice a l.length c] w fun e w' => e = .returned (.bool (l.all (okLit V))) ∧ w' = w := by
  have HI := Lib.hid h
  have hw1 : IntKind.i64.wrap (-V) = -V := IntWalk.i64_in _ (by omega)
  obtain ⟨n, hn⟩ : ∃ n, l.length = n := ⟨_, rfl⟩
  rw [hn] at hl ⊢
  have HN := Lib.hid hn
  clear h hn
  go_enter Try.func50, Try.ntmps50
  go_wp2
  go_loopg [9] n (fun gg z wr => ∃ i : Nat, i ≤ n ∧ n - i ≤ gg ∧ z = .int .i64 (i : Int) ∧ wr = w ∧ Hid ((l.take i).all (okLit V) = true))
  case atStart => exact ⟨0, Nat.zero_le _, by omega, rfl, rfl, Lib.hid rfl⟩
  case round =>
    obtain ⟨i, hi, hg, rfl, rfl, HA⟩ := hrel
    by_cases hin : i < n
    · obtain ⟨x, hx⟩ : ∃ x, l[i]? = some x := ⟨_, List.getElem?_eq_getElem (by rw [HN.out]; exact hin)⟩
      have hI := HI.out
      rw [HN.out] at hI
      obtain ⟨g, off, rfl, hgl, hc⟩ := IntsAt.get (by rw [HN.out]; exact hI) hx
      have htk : l.take (i + 1) = l.take i ++ [x] := by rw [List.take_add_one, hx]; rfl
      have HTK := Lib.hid htk
      have HX := Lib.hid hx
      clear hI hx htk
      by_cases hok : okLit V x = true
      · have h0 : x ≠ 0 ∧ x ≤ V ∧ -V ≤ x := by
          unfold okLit at hok
          simp only [Bool.not_eq_true', Bool.or_eq_false_iff, beq_eq_false_iff_ne, decide_eq_false_iff_not] at hok
          omega
        obtain ⟨h01, h02, h03⟩ := h0
        have b0 : (x == 0) = false := by simpa using h01
        have b1 : decide (x > V) = false := by simp; omega
        have b2 : decide (x < -V) = false := by simp; omega
        have HOK := Lib.hid hok
        clear hok
        go_wp2
        go_roundg (n - (i + 1))
        case measure => omega
        case rel => exact ⟨i + 1, hin, Nat.le_refl _, by simp, rfl, Lib.hid (by rw [HTK.out, List.all_append, HA.out]; simp [HOK.out])⟩
      · have hres : l.all (okLit V) = false := by
          rw [List.all_eq_false]
          exact ⟨x, List.mem_of_getElem? HX.out, hok⟩
        have HRES := Lib.hid hres
        have h0 : x = 0 ∨ (x ≠ 0 ∧ x > V) ∨ (x ≠ 0 ∧ ¬ x > V ∧ x < -V) := by
          unfold okLit at hok
          simp only [Bool.not_eq_true', Bool.or_eq_false_iff, beq_eq_false_iff_ne, decide_eq_false_iff_not] at hok
          omega
        clear hres hok
        rcases h0 with rfl | ⟨h1, h2⟩ | ⟨h1, h2, h3⟩
        · go_wp2
          go_ret
          exact ⟨by rw [HRES.out]; rfl, rfl⟩
        · have b0 : (x == 0) = false := by simpa using h1
          have b1 : decide (x > V) = true := by simp; omega
          go_wp2
          go_ret
          exact ⟨by rw [HRES.out]; rfl, rfl⟩
        · have b0 : (x == 0) = false := by simpa using h1
          have b1 : decide (x > V) = false := by simp; omega
          have b2 : decide (x < -V) = true := by simp; omega
          go_wp2
          go_ret
          exact ⟨by rw [HRES.out]; rfl, rfl⟩
    · obtain rfl : i = n := by omega
      have hall := HA.out
      rw [List.take_of_length_le (by rw [HN.out]; exact Nat.le_refl _)] at hall
      have HALL := Lib.hid hall
      clear hall HA
      go_wp2
      go_ret
      exact ⟨by rw [HALL.out]; rfl, rfl⟩
/-- a formula that is read -/
def FormAt (w : World) (a : Option Addr) (c : Nat) (cs : List (List Int)) : Prop := RowsAt w (.slice a cs.length c) cs ∧ cs.length ≤ 9223372036854775807 ∧ ∀ r ∈ cs, r.length ≤ 9223372036854775807
theorem FormAt.fr {w w' : World} {a : Option Addr} {c : Nat} {cs : List (List Int)} (h : FormAt w a c cs) (hf : Fr [] w w') : FormAt w' a c cs := ⟨h.1.fr hf, h.2⟩
set_option maxHeartbeats 4000000 in
theorem FRight_calls {w : World} {V : Int} {a : Option Addr} {c : Nat} {cs : List (List Int)} (h : FormAt w a c cs) :
    Calls Try.prog 27 #[.agg #[.int .i64 V, .slice a cs.length c]] w fun e w' => e = .returned (.bool (rightF V cs)) ∧ Fr [] w w' := by
  have HI := Lib.hid h
  obtain ⟨n, hn⟩ : ∃ n, cs.length = n := ⟨_, rfl⟩
  have hl := h.2.1
  unfold rightF
  rw [hn] at hl ⊢
  have HN := Lib.hid hn
  clear h hn
  by_cases h0 : V < 0
  · have b0 : decide (V < 0) = true := by simpa using h0
    go_enter Try.func27, Try.ntmps27
    go_wp2
    go_ret
    exact ⟨by simp [h0], by (repeat first | exact Fr.refl _ _ | assumption | apply Fr.n | apply Fr.d | apply Fr.a | refine Fr.s ?_ (.inr (by simp; try omega)) _)⟩
  by_cases h1 : V > 65536
  · have b0 : decide (V < 0) = false := by simpa using h0
    have b1 : decide (V > 65536) = true := by simpa using h1
    go_enter Try.func27, Try.ntmps27
    go_wp2
    go_ret
    exact ⟨by simp [h1], by (repeat first | exact Fr.refl _ _ | assumption | apply Fr.n | apply Fr.d | apply Fr.a | refine Fr.s ?_ (.inr (by simp; try omega)) _)⟩
  have b0 : decide (V < 0) = false := by simpa using h0
  have b1 : decide (V > 65536) = false := by simpa using h1
  by_cases h2 : n > 262144
  · have b2 : decide ((n : Int) > 262144) = true := by simp; omega
    have hb3 : decide (n > 262144) = true := by simpa using h2
    rw [b0, b1, hb3]
    clear hb3
    go_enter Try.func27, Try.ntmps27
    go_wp2
    go_ret
    exact ⟨by simp, by (repeat first | exact Fr.refl _ _ | assumption | apply Fr.n | apply Fr.d | apply Fr.a | refine Fr.s ?_ (.inr (by simp; try omega)) _)⟩
  have b2 : decide ((n : Int) > 262144) = false := by simp; omega
  have hb3 : decide (n > 262144) = false := by simpa using h2
  have HV := Lib.hid (show 0 ≤ V ∧ V ≤ 65536 by omega)
  obtain ⟨R, hR⟩ : ∃ R, cs.all (fun c => c.all (okLit V)) = R := ⟨_, rfl⟩
  rw [b0, b1, hb3, hR]
  have HR := Lib.hid hR
  have hn6 : n ≤ 262144 := by omega
  clear hb3 hR h0 h1 h2
  go_enter Try.func27, Try.ntmps27
  go_wp2
  obtain ⟨bb, hbb⟩ : ∃ b, w.heap.size = b := ⟨_, rfl⟩
  refine abs_world (fun w' => w'.cell? ⟨bb, 0, none⟩ = some (.int .i64 V) ∧ bb < w'.heap.size ∧ Fr [] w w') ⟨?_, ?_, ?_⟩ ?_
  · rw [← hbb]; simp
  · rw [← hbb]; simp
  · (repeat first | exact Fr.refl _ _ | assumption | apply Fr.n | apply Fr.d | apply Fr.a | refine Fr.s ?_ (.inr (by simp; try omega)) _)
  rintro w1 ⟨v0, vl, hf1⟩
  rw [hbb]
  have HF1 := Lib.hid hf1
  clear hbb hf1
  go_loopg [22] n (fun gg z wr => ∃ i : Nat, i ≤ n ∧ n - i ≤ gg ∧ z = .int .i64 (i : Int) ∧ wr = w1 ∧ Hid ((cs.take i).all (fun c => c.all (okLit V)) = true))
  case atStart => exact ⟨0, Nat.zero_le _, by omega, rfl, rfl, Lib.hid rfl⟩
  case round =>
    obtain ⟨i, hi, hg, rfl, rfl, HA⟩ := hrel
    by_cases hin : i < n
    · obtain ⟨r, hr⟩ : ∃ r, cs[i]? = some r := ⟨_, List.getElem?_eq_getElem (by rw [HN.out]; exact hin)⟩
      obtain ⟨g, off, ra, rc, hae, hgl, hc, hri⟩ := (HI.out.fr HF1.out).1.row hr
      subst hae
      have hrl := HI.out.2.2 r (List.mem_of_getElem? hr)
      have htk : cs.take (i + 1) = cs.take i ++ [r] := by rw [List.take_add_one, hr]; rfl
      have HTK := Lib.hid htk
      have HRI := Lib.hid (And.intro hri hr)
      obtain ⟨b, hb⟩ : ∃ b, r.all (okLit V) = b := ⟨_, rfl⟩
      have HB := Lib.hid hb
      clear htk hri hr hb
      go_wp2_with fail
      refine (proper_calls HV.out HRI.out.1 hrl).mono ?_
      rw [HB.out]
      rintro e w2 ⟨rfl, rfl⟩
      cases b with
      | true =>
        go_wp2
        go_roundg (n - (i + 1))
        case measure => omega
        case rel => exact ⟨i + 1, hin, Nat.le_refl _, by simp, rfl, Lib.hid (by rw [HTK.out, List.all_append, HA.out]; simp [HB.out])⟩
      | false =>
        have hres : R = false := by
          rw [← HR.out, List.all_eq_false]
          exact ⟨r, List.mem_of_getElem? HRI.out.2, by rw [HB.out]; simp⟩
        have HRES := Lib.hid hres
        clear hres
        go_wp2
        go_ret
        exact ⟨by rw [HRES.out]; rfl, HF1.out⟩
    · obtain rfl : i = n := by omega
      have hall := HA.out
      rw [List.take_of_length_le (by rw [HN.out]; exact Nat.le_refl _), HR.out] at hall
      have HALL := Lib.hid hall
      clear hall HA
      go_wp2
      go_ret
      exact ⟨by rw [HALL.out]; rfl, HF1.out⟩
end Go.Proofs.Ytjidldfnlejdhaa
end

section
/- Copies of slices that are read; a clause in order, each literal once. -/
namespace Go.Proofs.Ytjidldfnlejdhaa
open Go Go.RowKit Go.Proofs.Rg Go.Proofs.Mp Go.Proofs.Hp Go.Proofs.Sv
set_option linter.unusedVariables false
set_option linter.unusedSimpArgs false
set_option maxHeartbeats 4000000 in
set_option maxRecDepth 100000 in
theorem Clone_h {W w : World} {Ps : List Res} (h : Has W w Ps) {a : Option Addr} {n c : Nat} {xs : List Value} (hr : Reads w (.slice a n c) n 1 xs) (h1 : ∀ u ∈ xs, u.oneCell' = true) (hn : n ≤ 1000000) :
    Calls Try.prog 33 #[.slice a n c] w fun e w' => ∃ v, e = .returned v ∧ Has W w' (Hp.row 3 1 v n xs :: Ps) := by
  have q22 : ∀ (w : World) (a : Option Addr) (n c n' c' : Nat), (binOp .eql 51 (.slice a n c) (.slice none n' c')).run Try.prog w = .ok (.bool a.isNone) w := fun w a n c n' c' => Lib.run_eql_slice_nil w _ _ a n c n' c' Try.underlying51
  cases a with
  | none =>
    have h0 : n = 0 ∧ xs = [] := by
      obtain ⟨h1, a', c', he, hp⟩ := hr
      cases he
      rcases Nat.eq_zero_or_pos n with h | h
      · exact ⟨h, List.eq_nil_of_length_eq_zero (by rw [h1, h])⟩
      · obtain ⟨g, off, hh, _⟩ := hp h; cases hh
    obtain ⟨rfl, rfl⟩ := h0
    have H := Lib.hid h
    clear h hr h1 hn
    go_enter Try.func33, Try.ntmps33
    go_wp2
    go_ret
    exact ⟨_, rfl, H.out.nilRow _ _⟩
  | some ad =>
    have H := Lib.hid h
    have HR := Lib.hid hr
    have H1 := Lib.hid h1
    have hbl : n * 8 ≤ 140737488355328 := by omega
    have hml : (1000001 : Nat) ≤ maxLen := by decide
    have hmn : n ≤ maxLen := by omega
    have HB := Lib.hid (And.intro hbl hmn)
    clear h hr h1 hml hbl hmn hn
    go_enter Try.func33, Try.ntmps33
    go_wp2_with (at_builtin; refine append_reads (base := 0) (e := 3) (z := .int .i64 0) (size := 1) (bytes := 8) (n := 0) (xs := []) (m := n) (news := xs) rfl rfl Try.underlying51 (by kernel_rfl) rfl (by decide) rfl (World.ownsRow_made w #[] 0 (Nat.zero_le _) (Nat.zero_le _) rfl) rfl (HR.out.fr (by (repeat first | exact Fr.refl _ _ | assumption | apply Fr.n | apply Fr.d | apply Fr.a | refine Fr.s ?_ (.inr (by simp; try omega)) _))) (fun e => by cases e) H1.out (by have := HB.out; omega) (by have := HB.out; omega) (Nat.zero_le _) ?_)
    intro v' w9 h9 hf9 hb9
    have hnew : Has W w9 (Hp.row 3 1 v' n xs :: Ps) := by
      have h2 := (H.out.newBlk (.cells #[] 3 (0, 0))).drop
      refine (H.out.newBlk (.cells #[] 3 (0, 0))).turn fun F ⟨_, hF⟩ => ?_
      refine ⟨v'.ownBlock.toList, ⟨by simpa using h9, rfl⟩, ?_, fun x hx => ?_⟩
      · rw [hF]; exact hf9
      · rcases hb9 with h3 | h3
        · left; rw [hF]; rw [h3] at hx; simpa [Value.ownBlock] using hx
        · right
          rw [h3] at hx
          simp at hx
          subst hx
          simp
    have HN := Lib.hid hnew
    clear hnew h9 hf9 hb9
    go_wp2
    go_ret
    exact ⟨_, rfl, HN.out⟩
set_option maxHeartbeats 4000000 in
set_option maxRecDepth 100000 in
theorem Clones_h {W w : World} {Ps : List Res} (h : Has W w Ps) {a : Option Addr} {n c : Nat} {xs : List Value} (hr : Reads w (.slice a n c) n 1 xs) (h1 : ∀ u ∈ xs, u.oneCell' = true) (hn : n ≤ 1000000) :
    Calls Try.prog 58 #[.slice a n c] w fun e w' => ∃ v, e = .returned v ∧ Has W w' (Hp.row 51 1 v n xs :: Ps) := by
  have q22 : ∀ (w : World) (a : Option Addr) (n c n' c' : Nat), (binOp .eql 22 (.slice a n c) (.slice none n' c')).run Try.prog w = .ok (.bool a.isNone) w := fun w a n c n' c' => Lib.run_eql_slice_nil w _ _ a n c n' c' Try.underlying22
  cases a with
  | none =>
    have h0 : n = 0 ∧ xs = [] := by
      obtain ⟨h1, a', c', he, hp⟩ := hr
      cases he
      rcases Nat.eq_zero_or_pos n with h | h
      · exact ⟨h, List.eq_nil_of_length_eq_zero (by rw [h1, h])⟩
      · obtain ⟨g, off, hh, _⟩ := hp h; cases hh
    obtain ⟨rfl, rfl⟩ := h0
    have H := Lib.hid h
    clear h hr h1 hn
    go_enter Try.func58, Try.ntmps58
    go_wp2
    go_ret
    exact ⟨_, rfl, H.out.nilRow _ _⟩
  | some ad =>
    have H := Lib.hid h
    have HR := Lib.hid hr
    have H1 := Lib.hid h1
    have hbl : n * 24 ≤ 140737488355328 := by omega
    have hml : (1000001 : Nat) ≤ maxLen := by decide
    have hmn : n ≤ maxLen := by omega
    have HB := Lib.hid (And.intro hbl hmn)
    clear h hr h1 hml hbl hmn hn
    go_enter Try.func58, Try.ntmps58
    go_wp2_with (at_builtin; refine append_reads (base := 0) (e := 51) (z := .slice none 0 0) (size := 1) (bytes := 24) (n := 0) (xs := []) (m := n) (news := xs) rfl rfl Try.underlying22 (by kernel_rfl) rfl (by decide) rfl (World.ownsRow_made w #[] 0 (Nat.zero_le _) (Nat.zero_le _) rfl) rfl (HR.out.fr (by (repeat first | exact Fr.refl _ _ | assumption | apply Fr.n | apply Fr.d | apply Fr.a | refine Fr.s ?_ (.inr (by simp; try omega)) _))) (fun e => by cases e) H1.out (by have := HB.out; omega) (by have := HB.out; omega) (Nat.zero_le _) ?_)
    intro v' w9 h9 hf9 hb9
    have hnew : Has W w9 (Hp.row 51 1 v' n xs :: Ps) := by
      have h2 := (H.out.newBlk (.cells #[] 51 (0, 0))).drop
      refine (H.out.newBlk (.cells #[] 51 (0, 0))).turn fun F ⟨_, hF⟩ => ?_
      refine ⟨v'.ownBlock.toList, ⟨by simpa using h9, rfl⟩, ?_, fun x hx => ?_⟩
      · rw [hF]; exact hf9
      · rcases hb9 with h3 | h3
        · left; rw [hF]; rw [h3] at hx; simpa [Value.ownBlock] using hx
        · right
          rw [h3] at hx
          simp at hx
          subst hx
          simp
    have HN := Lib.hid hnew
    clear hnew h9 hf9 hb9
    go_wp2
    go_ret
    exact ⟨_, rfl, HN.out⟩
end Go.Proofs.Ytjidldfnlejdhaa
end

section
/- An engine is made: what holds when some clauses are in. Nothing of a program. -/
namespace Go.Proofs.Sv
set_option linter.unusedVariables false
set_option linter.unusedSimpArgs false
structure NI (V : Nat) (done cl : List (List Int)) (wt : Int → List Nat) (tr : List Int) (bad : Bool) : Prop where
  hcl : ClOk V cl
  htr : TrOk V tr
  hwt : WtOk cl wt
  hln : cl.length ≤ done.length
  hmx : ∀ m, (∀ c ∈ done, c.length ≤ m) → ∀ c ∈ cl, c.length ≤ m
  hb : bad = true → ∀ A, sat done A = false
  hg : bad = false → ∀ A, sat done A = true ↔ sat cl A = true ∧ ∀ x ∈ tr, litT A x = true
theorem sat_snoc (done : List (List Int)) (c : List Int) (A : List Bool) : sat (done ++ [c]) A = (sat done A && c.any (litT A)) := by simp [sat]
section
variable {V : Nat} {done cl : List (List Int)} {wt : Int → List Nat} {tr : List Int} {bad : Bool} {c l : List Int}
theorem NI.nil : NI V [] [] (fun _ => []) [] false :=
  ⟨by simp [ClOk], ⟨by simp, by simp⟩, fun x => ⟨by simp, by simp⟩, by simp, by simp, by simp, fun _ A => by simp [sat]⟩
theorem any_mem {A : List Bool} {c l : List Int} (h : ∀ x, x ∈ l ↔ x ∈ c) : l.any (litT A) = c.any (litT A) := by
  rw [Bool.eq_iff_iff, List.any_eq_true, List.any_eq_true]
  constructor
  · rintro ⟨x, hx, h2⟩; exact ⟨x, (h x).1 hx, h2⟩
  · rintro ⟨x, hx, h2⟩; exact ⟨x, (h x).2 hx, h2⟩
theorem mx_snoc (h : NI V done cl wt tr bad) (c : List Int) : ∀ m, (∀ d ∈ done ++ [c], d.length ≤ m) → ∀ d ∈ cl, d.length ≤ m := fun m hm => h.hmx m fun d hd => hm d (by simp [hd])
theorem NI.fail (h : NI V done cl wt tr bad) (hf : bad = false → ∀ A, sat done A = true → c.any (litT A) = false) : NI V (done ++ [c]) cl wt tr true := by
  refine ⟨h.hcl, h.htr, h.hwt, by have := h.hln; simp; omega, mx_snoc h c, fun _ A => ?_, fun e => by cases e⟩
  rw [sat_snoc]
  cases hb : bad with
  | true => rw [h.hb hb A]; rfl
  | false =>
    cases hs : sat done A with
    | false => rfl
    | true => rw [hf hb A hs]; rfl
theorem NI.empty (h : NI V done cl wt tr bad) : NI V (done ++ [[]]) cl wt tr true := h.fail fun _ A _ => rfl
theorem NI.against (h : NI V done cl wt tr bad) {x : Int} (hm : ∀ y, y ∈ [x] ↔ y ∈ c) (hx : -x ∈ tr) : NI V (done ++ [c]) cl wt tr true :=
  h.fail fun hb A hs => by
    have h1 := ((h.hg hb A).1 hs).2 _ hx
    have h0 := (h.htr.1 _ hx).1
    rw [litT_neg (by omega)] at h1
    rw [← any_mem hm]
    simpa using h1
theorem NI.there (h : NI V done cl wt tr bad) {x : Int} (hm : ∀ y, y ∈ [x] ↔ y ∈ c) (hx : x ∈ tr) : NI V (done ++ [c]) cl wt tr bad := by
  refine ⟨h.hcl, h.htr, h.hwt, by have := h.hln; simp; omega, mx_snoc h c, fun hb A => by rw [sat_snoc, h.hb hb A]; rfl, fun hb A => ?_⟩
  rw [sat_snoc, ← any_mem hm, Bool.and_eq_true, h.hg hb A]
  constructor
  · exact fun h1 => h1.1
  · exact fun h1 => ⟨h1, by simp [h1.2 x hx]⟩
theorem NI.unit (h : NI V done cl wt tr bad) {x : Int} (hm : ∀ y, y ∈ [x] ↔ y ∈ c) (hx : x ∉ tr ∧ -x ∉ tr) (hV : x ≠ 0 ∧ x.natAbs ≤ V) : NI V (done ++ [c]) cl wt (tr ++ [x]) bad := by
  refine ⟨h.hcl, ⟨fun y hy => ?_, ?_⟩, h.hwt, by have := h.hln; simp; omega, mx_snoc h c, fun hb A => by rw [sat_snoc, h.hb hb A]; rfl, fun hb A => ?_⟩
  · rcases List.mem_append.1 hy with hy | hy
    · exact h.htr.1 y hy
    · simp at hy; subst hy; exact hV
  · rw [List.map_append, List.nodup_append]
    refine ⟨h.htr.2, by simp, fun p hp q hq e => ?_⟩
    simp at hq
    subst hq; subst e
    obtain ⟨z, hz, hza⟩ := List.mem_map.1 hp
    rcases Int.natAbs_eq_natAbs_iff.1 hza with e | e
    · subst e; exact hx.1 hz
    · subst e; exact hx.2 hz
  · rw [sat_snoc, ← any_mem hm, Bool.and_eq_true, h.hg hb A]
    constructor
    · rintro ⟨⟨h1, h2⟩, h3⟩
      refine ⟨h1, fun y hy => ?_⟩
      rcases List.mem_append.1 hy with hy | hy
      · exact h2 y hy
      · simp at hy; subst hy; simpa using h3
    · rintro ⟨h1, h2⟩
      exact ⟨⟨h1, fun y hy => h2 y (by simp [hy])⟩, by simp [h2 x (by simp)]⟩
theorem NI.clause (h : NI V done cl wt tr bad) (hm : ∀ y, y ∈ l ↔ y ∈ c) (hn : l.Nodup) (h2 : 2 ≤ l.length) (hle : l.length ≤ c.length) (hV : ∀ x ∈ l, x ≠ 0 ∧ x.natAbs ≤ V) {a b : Int} (ha : l[0]? = some a) (hb : l[1]? = some b) :
    NI V (done ++ [c]) (cl ++ [l]) (upd (upd wt a (wt a ++ [cl.length])) b (wt b ++ [cl.length])) tr bad := by
  have hab : a ≠ b := by
    rintro rfl
    obtain ⟨l1, e1⟩ := List.getElem?_eq_some_iff.1 ha
    obtain ⟨l2, e2⟩ := List.getElem?_eq_some_iff.1 hb
    have := (List.getElem_inj hn).1 (e1.trans e2.symm)
    omega
  have hlast : ∀ x, cl.length ∉ wt x := fun x hx => by
    obtain ⟨d, hd, _⟩ := ((h.hwt x).2 cl.length).1 hx
    have := (List.getElem?_eq_some_iff.1 hd).1
    omega
  have hnew : ∀ x, (wt x ++ [cl.length]).Nodup := fun x => by
    rw [List.nodup_append]
    refine ⟨(h.hwt x).1, by simp, fun p hp q hq e => ?_⟩
    simp at hq
    subst hq; subst e
    exact hlast x hp
  have key : ∀ x k, (∃ d, (cl ++ [l])[k]? = some d ∧ (d[0]? = some x ∨ d[1]? = some x)) ↔ (k ∈ wt x ∨ (k = cl.length ∧ (x = a ∨ x = b))) := by
    intro x k
    rw [(h.hwt x).2 k]
    rcases Nat.lt_trichotomy k cl.length with hk | hk | hk
    · rw [List.getElem?_append_left hk]
      constructor
      · exact .inl
      · rintro (h1 | h1)
        · exact h1
        · omega
    · subst hk
      rw [List.getElem?_append_right (Nat.le_refl _), List.getElem?_eq_none (Nat.le_refl _)]
      simp [ha, hb, eq_comm]
    · rw [List.getElem?_eq_none (by simp; omega), List.getElem?_eq_none (by omega)]
      simp; omega
  refine ⟨?_, h.htr, fun x => ?_, by have := h.hln; simp; omega, fun m hmm d hd => ?_, fun hb A => by rw [sat_snoc, h.hb hb A]; rfl, fun hb A => ?_⟩
  · intro d hd
    rcases List.mem_append.1 hd with hd | hd
    · exact h.hcl d hd
    · simp at hd; subst hd; exact ⟨h2, hn, hV⟩
  · by_cases hxb : x = b
    · subst hxb
      simp only [upd, if_true]
      refine ⟨hnew x, fun k => ?_⟩
      rw [key]; simp
    · by_cases hxa : x = a
      · subst hxa
        simp only [upd, if_neg hxb, if_true]
        refine ⟨hnew x, fun k => ?_⟩
        rw [key]; simp
      · simp only [upd, if_neg hxb, if_neg hxa]
        refine ⟨(h.hwt x).1, fun k => ?_⟩
        rw [key]; simp [hxa, hxb]
  · rcases List.mem_append.1 hd with hd | hd
    · exact h.hmx m (fun e he => hmm e (by simp [he])) d hd
    · simp at hd; subst hd
      have := hmm c (by simp); omega
  · rw [sat_snoc, ← any_mem hm, Bool.and_eq_true, h.hg hb A]
    have hs : sat (cl ++ [l]) A = (sat cl A && l.any (litT A)) := sat_snoc cl l A
    rw [hs, Bool.and_eq_true]
    constructor
    · rintro ⟨⟨h1, h2⟩, h3⟩; exact ⟨⟨h1, h3⟩, h2⟩
    · rintro ⟨⟨h1, h3⟩, h2⟩; exact ⟨⟨h1, h2⟩, h3⟩
/-- the engine at its start -/
theorem NI.start {cs : List (List Int)} (h : NI V cs cl wt tr false) : EI V (fun A => A.length = V ∧ sat cs A = true) tr cl [] cl wt tr 0 :=
  ⟨⟨h.hcl, h.htr, h.hwt, by simp [chk], Perms.refl _, ⟨List.prefix_refl _, fun A hA => ((h.hg rfl A).1 hA.2).2⟩⟩, fun c _ a b _ _ => ⟨by simp, by simp⟩⟩
end
end Go.Proofs.Sv
end
