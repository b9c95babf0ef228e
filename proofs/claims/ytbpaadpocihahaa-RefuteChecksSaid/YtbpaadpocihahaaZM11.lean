/- Own texts of this claim, part 12: no condition. -/
import Derived.Test.YtbpaadpocihahaaZM10
import Derived.Test.YtbpaadpocihahaaZM9
set_option linter.unusedVariables false
set_option linter.unusedSimpArgs false
section
/- The reference of refute: Valid, Check. -/
namespace Go.Proofs.Ytbpaadpocihahaa
open Go Go.RowKit Go.Proofs.Rg Go.Proofs.Mp Go.Proofs.Hp Go.Proofs.Sv Go.Proofs.Rp
set_option linter.unusedVariables false
set_option linter.unusedSimpArgs false
theorem rightF_big {V : Int} {p : List (List Int)} (h : ¬ p.length ≤ 262144) : rightF V p = false := by
  unfold rightF
  have : decide (p.length > 262144) = true := by simp; omega
  rw [this]; simp
set_option maxHeartbeats 4000000 in
theorem RValid_calls {w : World} {V : Int} {a : Option Addr} {c : Nat} {cs : List (List Int)} (h : FormAt w a c cs) {pa : Option Addr} {pc : Nat} {p : List (List Int)} (hp : FormAt w pa pc p) :
    Calls Try.prog 31 #[.agg #[.int .i64 V, .slice a cs.length c], .slice pa p.length pc] w fun e w' => e = .returned (.bool (validB V cs p)) ∧ Fr [] w w' := by
  have HF := Lib.hid h
  have HP := Lib.hid hp
  have HB := Lib.hid (((Has.nil (Fr.refl [] w)).newBlk (.cells #[.int .i64 V, .slice a cs.length c] 24 (0, 0))))
  have hVB : validB V cs p = (rightF V cs && rightF V p) := rfl
  have HVB := Lib.hid hVB
  obtain ⟨b1, hb1⟩ : ∃ b, rightF V cs = b := ⟨_, rfl⟩
  obtain ⟨b2, hb2⟩ : ∃ b, rightF V p = b := ⟨_, rfl⟩
  rw [hb1, hb2] at HVB
  have HB1 := Lib.hid hb1
  have HB2 := Lib.hid hb2
  have hpl2 := hp.2.1
  obtain ⟨n, hn⟩ : ∃ n, p.length = n := ⟨_, rfl⟩
  have HN := Lib.hid hn
  rw [hn] at hpl2 ⊢
  clear h hp hVB hb1 hb2 hn
  go_enter Try.func31, Try.ntmps31
  go_wp2_with fail
  refine (R40Right_calls (HF.out.fr (by (repeat first | exact Fr.refl _ _ | assumption | apply Fr.n | apply Fr.d | apply Fr.a | refine Fr.s ?_ (.inr (by simp; try omega)) _)))).mono ?_
  rw [HB1.out]
  rintro e w1 ⟨rfl, hf1⟩
  have h1 := HB.out.step hf1
  have hb := h1.blk
  have c0 : _ = some _ := heap_eq_cell hb 0
  have cl := lt_of_block hb
  have H1 := Lib.hid h1
  have HF1 := Lib.hid (show Fr [] w w1 from Fr.trans0 (by (repeat first | exact Fr.refl _ _ | assumption | apply Fr.n | apply Fr.d | apply Fr.a | refine Fr.s ?_ (.inr (by simp; try omega)) _)) hf1)
  clear h1 hb hf1 HB
  cases b1 with
  | false =>
    go_wp2
    go_ret
    exact ⟨by rw [HVB.out]; rfl, HF1.out.trans0 (by (repeat first | exact Fr.refl _ _ | assumption | apply Fr.n | apply Fr.d | apply Fr.a | refine Fr.s ?_ (.inr (by simp; try omega)) _))⟩
  | true =>
    by_cases hnl : n ≤ 262144
    · have hd : decide ((n : Int) ≤ 262144) = true := by simp; omega
      have HR := Lib.hid (fun w' (hf : Fr [] w w') => R40Right_calls (V := V) (HP.out.fr hf))
      rw [HN.out, HB2.out] at HR
      go_wp2_with fail
      refine (HR.out _ (HF1.out.trans0 (by (repeat first | exact Fr.refl _ _ | assumption | apply Fr.n | apply Fr.d | apply Fr.a | refine Fr.s ?_ (.inr (by simp; try omega)) _)))).mono ?_
      rintro e w2 ⟨rfl, hf2⟩
      have HF2 := Lib.hid (show Fr [] w w2 from HF1.out.trans0 (Fr.trans0 (by (repeat first | exact Fr.refl _ _ | assumption | apply Fr.n | apply Fr.d | apply Fr.a | refine Fr.s ?_ (.inr (by simp; try omega)) _)) hf2))
      clear hf2 c0 cl HR
      go_wp2
      go_ret
      exact ⟨by rw [HVB.out]; rfl, HF2.out.trans0 (by (repeat first | exact Fr.refl _ _ | assumption | apply Fr.n | apply Fr.d | apply Fr.a | refine Fr.s ?_ (.inr (by simp; try omega)) _))⟩
    · have hd : decide ((n : Int) ≤ 262144) = false := by simp; omega
      have HBF := Lib.hid (show b2 = false from by rw [← HB2.out]; exact rightF_big (by rw [HN.out]; exact hnl))
      go_wp2
      go_ret
      exact ⟨by rw [HVB.out, HBF.out]; rfl, HF1.out.trans0 (by (repeat first | exact Fr.refl _ _ | assumption | apply Fr.n | apply Fr.d | apply Fr.a | refine Fr.s ?_ (.inr (by simp; try omega)) _))⟩
theorem FormHs.take {W : World} {Ps : List Res} {a : Option Addr} {c : Nat} {vs : List Value} {cs : List (List Int)} (h : FormHs W Ps a c vs cs) (i : Nat) (hi : i ≤ cs.length) : FormHs W Ps a c (vs.take i) (cs.take i) := by
  refine ⟨fun w Qs hw hP => ?_, by rw [List.length_take]; have := h.2.1; omega, fun r hr => h.2.2 r (List.mem_of_mem_take hr)⟩
  obtain ⟨⟨hl, a', c', he, hp⟩, h2⟩ := h.1 w Qs hw hP
  cases he
  rw [List.length_take, Nat.min_eq_left hi]
  refine ⟨⟨by rw [List.length_take, hl]; omega, a, c, rfl, fun h0 => ?_⟩, fun j r hj => ?_⟩
  · obtain ⟨g, off, ha, hg, hc⟩ := hp (by omega)
    refine ⟨g, off, ha, hg, fun j u hu => hc j u ?_⟩
    rw [List.getElem?_take] at hu
    split at hu
    · exact hu
    · cases hu
  · rw [List.getElem?_take] at hj
    split at hj
    · rename_i hji
      obtain ⟨u, hu, hr⟩ := h2 j r hj
      exact ⟨u, by rw [List.getElem?_take, if_pos hji]; exact hu, hr⟩
    · cases hj
theorem flat_take (cs p : List (List Int)) (i : Nat) : (cs ++ p.take i).flatten.length ≤ (cs ++ p).flatten.length := by
  rw [List.flatten_append, List.flatten_append, List.length_append, List.length_append]
  have : (p.take i).flatten.length ≤ p.flatten.length := by
    conv => rhs; rw [← List.take_append_drop i p]
    rw [List.flatten_append, List.length_append]
    omega
  omega
set_option maxHeartbeats 8000000 in
set_option maxRecDepth 100000 in
theorem RCheck_calls {W w : World} {Ps : List Res} (h : Has W w Ps) {V : Int} {a : Option Addr} {c : Nat} {vs : List Value} {cs : List (List Int)} (hF : FormHs W Ps a c vs cs) (ha : a = none → c = 0) {pa : Option Addr} {pc : Nat} {pvs : List Value} {p : List (List Int)} (hP : FormHs W Ps pa pc pvs p) (hpa : pa = none → pc = 0) (hpc : p.length ≤ pc)
    (hs : ∀ r ∈ cs, r.length ≤ 1000000) (hsp : ∀ r ∈ p, r.length ≤ 1000000) (hfl : (cs ++ p).flatten.length ≤ 7000000) :
    Calls Try.prog 13 #[.agg #[.int .i64 V, .slice a cs.length c], .slice pa p.length pc] w (CheckVPost W Ps V cs p) := by
  have HA := Lib.hid (hF.src _ _ h fun P hP => hP)
  have HB := Lib.hid (hP.src _ _ h fun P hP => hP)
  have HH := Lib.hid (h.newBlk (.cells #[.int .i64 V, .slice a cs.length c] 24 (0, 0)))
  have HF := Lib.hid hF
  have HP := Lib.hid hP
  have HS := Lib.hid hs
  have HSP := Lib.hid hsp
  have HAA := Lib.hid (And.intro ha hpa)
  have HFL := Lib.hid hfl
  obtain ⟨b, hb⟩ : ∃ b, validB V cs p = b := ⟨_, rfl⟩
  have HVB := Lib.hid hb
  obtain ⟨n, hn⟩ : ∃ n, p.length = n := ⟨_, rfl⟩
  have HN := Lib.hid hn
  have HVC := Lib.hid (fun w' (hf : Fr [] w w') => RValid_calls (V := V) (HA.out.fr hf) (HB.out.fr hf))
  rw [hn] at hpc HVC ⊢
  clear h hF hP hs hsp hb ha hpa hfl hn
  go_enter Try.func13, Try.ntmps13
  go_wp2_with fail
  refine (HVC.out _ (by (repeat first | exact Fr.refl _ _ | assumption | apply Fr.n | apply Fr.d | apply Fr.a | refine Fr.s ?_ (.inr (by simp; try omega)) _))).mono ?_
  rw [HVB.out]
  rintro e w1 ⟨rfl, hf1⟩
  obtain ⟨fb, hfb⟩ : ∃ b, w.heap.size = b := ⟨_, rfl⟩
  have h1 := HH.out.step hf1
  rw [hfb] at h1 ⊢
  have H1 := Lib.hid h1
  clear h1 hf1 HH HVC hfb
  cases b with
  | false =>
    go_wp2
    go_ret2
    exact ⟨by unfold chkNV chkEV; rw [HVB.out]; rfl, H1.out.drop.step (by (repeat first | exact Fr.refl _ _ | assumption | apply Fr.n | apply Fr.d | apply Fr.a | refine Fr.s ?_ (.inr (by simp; try omega)) _))⟩
  | true =>
    obtain ⟨hr, hrp⟩ := validB_one HVB.out
    obtain ⟨V', rfl, hV⟩ := rightF_nat hr
    obtain ⟨hcl, _, hlit⟩ := rightF_len hr
    obtain ⟨hpl, _, hlitp⟩ := rightF_len hrp
    rw [HN.out] at hpl
    have HL := Lib.hid (show Lits V' (cs ++ p) from fun C hC => by
      rcases List.mem_append.1 hC with hC | hC
      · exact hlit C hC
      · exact hlitp C hC)
    have HCL := Lib.hid hcl
    have HE := Lib.hid (show chkNV V' cs p = chkN cs p ∧ chkEV V' cs p = chkE cs p from by unfold chkNV chkEV; rw [HVB.out]; exact ⟨rfl, rfl⟩)
    clear hr hrp hlit hlitp hcl
    go_wp2
    go_loopg [6] n (fun gg z wr => ∃ i : Nat, i ≤ n ∧ n - i ≤ gg ∧ z = .int .i64 (i : Int) ∧ Hid (allF cs (p.take i) = true) ∧ Hid (Has W wr (Hp.blk fb (.cells #[.int .i64 (V' : Int), .slice a cs.length c] 24 (0, 0)) :: Ps)))
    case atStart => exact ⟨0, Nat.zero_le _, by omega, rfl, Lib.hid rfl, Lib.hid (H1.out.step (by (repeat first | exact Fr.refl _ _ | assumption | apply Fr.n | apply Fr.d | apply Fr.a | refine Fr.s ?_ (.inr (by simp; try omega)) _)))⟩
    case round =>
      obtain ⟨i, hi, hg, rfl, HAL, HI⟩ := hrel
      clear H1
      have hb := HI.out.blk
      have c0 : _ = some _ := heap_eq_cell hb 0
      have c1 : _ = some _ := heap_eq_cell hb 1
      have cl := lt_of_block hb
      clear hb
      by_cases hin : i < n
      · obtain ⟨r, hr⟩ : ∃ r, p[i]? = some r := ⟨_, List.getElem?_eq_getElem (by rw [HN.out]; exact hin)⟩
        obtain ⟨ra, rc, pg, off, rfl, hgl, hc, hsrc⟩ := HP.out.row HI.out (fun P hP => by simp [hP]) hr
        have hrm := List.mem_of_getElem? hr
        have htl : (p.take i).length = i := by rw [List.length_take, HN.out]; omega
        have HX := Lib.hid hr
        have HFO := Lib.hid (fun w' (hf : Fr [] wr w') => Rfollows_calls (HI.out.step hf) hV (HF.out.more fun P hP => List.mem_cons_of_mem _ hP) HAA.out.1 ((HP.out.take i (by rw [HN.out]; exact hi)).more fun P hP => List.mem_cons_of_mem _ hP) HAA.out.2 (hsrc.more fun P hP => List.mem_cons_of_mem _ hP) (by have := HCL.out; omega) (by rw [htl]; omega) (HSP.out r hrm) (Nat.le_trans (flat_take cs p i) HFL.out) (fun q hq => by
          rcases List.mem_append.1 hq with hq | hq
          · exact HS.out q hq
          · exact HSP.out q (List.mem_of_mem_take hq)) (fun C hC => HL.out C (by
          rcases List.mem_append.1 hC with hC | hC
          · simp [hC]
          · have := List.mem_of_mem_take hC; simp [this])) (HL.out r (by simp [hrm])))
        rw [htl] at HFO
        clear hr hrm htl hsrc
        obtain ⟨b, hb⟩ : ∃ b, folB (cs ++ p.take i) r = b := ⟨_, rfl⟩
        rw [hb] at HFO
        have HFB := Lib.hid hb
        clear hb
        go_wp2
        (refine wp_region_text (by kernel_rfl) (by kernel_rfl) ?_)
        go_wp2_with fail
        refine (HFO.out _ (by (repeat first | exact Fr.refl _ _ | assumption | apply Fr.n | apply Fr.d | apply Fr.a | refine Fr.s ?_ (.inr (by simp; try omega)) _))).mono ?_
        rintro e w2 ⟨rfl, h2⟩
        have H2 := Lib.hid h2
        clear h2 HFO c0 c1 cl hgl hc
        cases b with
        | false =>
          have HB0 := Lib.hid (badAt_some HAL.out HX.out HFB.out)
          have HE0 := Lib.hid (show chkE cs p = 16 from by unfold chkE; rw [HB0.out]; rfl)
          have HN0 := Lib.hid (show chkN cs p = i from by unfold chkN; rw [HB0.out]; rfl)
          go_wp2
          refine Strict.intro rfl ?_
          go_wp2
          go_ret2
          exact ⟨by rw [HE.out.1, HE.out.2, HE0.out, HN0.out]; rfl, H2.out.drop.step (by (repeat first | exact Fr.refl _ _ | assumption | apply Fr.n | apply Fr.d | apply Fr.a | refine Fr.s ?_ (.inr (by simp; try omega)) _))⟩
        | true =>
          have HA2 := Lib.hid (allF_next HAL.out HX.out HFB.out)
          go_wp2
          refine Strict.intro rfl ?_
          go_wp2
          go_roundg (n - (i + 1))
          case measure => omega
          case rel => exact ⟨i + 1, hin, Nat.le_refl _, by simp, HA2, Lib.hid (H2.out.step (by (repeat first | exact Fr.refl _ _ | assumption | apply Fr.n | apply Fr.d | apply Fr.a | refine Fr.s ?_ (.inr (by simp; try omega)) _)))⟩
      · obtain rfl : i = n := by omega
        have hall := HAL.out
        rw [List.take_of_length_le (by rw [HN.out]; exact Nat.le_refl _)] at hall
        have hnb : badAt cs p = none := by
          have := badAt_none (p := p) (F := cs)
          rw [hall] at this
          exact Option.isNone_iff_eq_none.1 this
        have HN0 := Lib.hid (show chkN cs p = i from by unfold chkN; rw [hnb]; exact HN.out)
        have hE0 : chkE cs p = if endsB p then 0 else 16 := by unfold chkE; rw [hnb]; cases endsB p <;> simp
        have HEE := Lib.hid hE0
        clear hall hnb hE0 HAL
        by_cases h0 : i = 0
        · subst h0
          obtain rfl : p = [] := List.eq_nil_of_length_eq_zero HN.out
          go_wp2
          go_ret2
          exact ⟨by rw [HE.out.1, HE.out.2, HEE.out, HN0.out]; rfl, HI.out.drop.step (by (repeat first | exact Fr.refl _ _ | assumption | apply Fr.n | apply Fr.d | apply Fr.a | refine Fr.s ?_ (.inr (by simp; try omega)) _))⟩
        · obtain ⟨m, rfl⟩ : ∃ m, i = m + 1 := ⟨i - 1, by omega⟩
          obtain ⟨r, hr⟩ : ∃ r, p[m]? = some r := ⟨_, List.getElem?_eq_getElem (by rw [HN.out]; omega)⟩
          obtain ⟨ra, rc, pg, off, rfl, hgl, hc, hsrc⟩ := HP.out.row HI.out (fun P hP => by simp [hP]) hr
          have hEQ := endsB_eq HN.out hr
          have HEQ := Lib.hid hEQ
          obtain ⟨q, hq⟩ : ∃ q, r.length = q := ⟨_, rfl⟩
          rw [hq] at hc HEQ
          clear hr hsrc hEQ hq
          have hi1 : (((m + 1 : Nat) : Int) == 0) = false := by simp; omega
          by_cases hq0 : q = 0
          · subst hq0
            go_wp2
            go_ret2
            exact ⟨by rw [HE.out.1, HE.out.2, HEE.out, HEQ.out, HN0.out]; rfl, HI.out.drop.step (by (repeat first | exact Fr.refl _ _ | assumption | apply Fr.n | apply Fr.d | apply Fr.a | refine Fr.s ?_ (.inr (by simp; try omega)) _))⟩
          · have hqp : decide ((q : Int) > 0) = true := by simp; omega
            go_wp2
            go_ret2
            exact ⟨by rw [HE.out.1, HE.out.2, HEE.out, HEQ.out, HN0.out]; simp [hq0], HI.out.drop.step (by (repeat first | exact Fr.refl _ _ | assumption | apply Fr.n | apply Fr.d | apply Fr.a | refine Fr.s ?_ (.inr (by simp; try omega)) _))⟩
end Go.Proofs.Ytbpaadpocihahaa
end

section
/- What the library's slices functions do to rows of clauses. -/
namespace Go.Proofs.Ytbpaadpocihahaa
open Go Go.RowKit Go.Proofs.Rg Go.Proofs.Mp Go.Proofs.Hp Go.Proofs.Sv Go.Proofs.Rp Go.Sort Go.Lib
set_option linter.unusedVariables false
set_option linter.unusedSimpArgs false
/-- a value of one cell -/
abbrev Cell1 : Type := { v : Value // v.oneCell' = true }
instance : Inhabited Cell1 := ⟨⟨.slice none 0 0, rfl⟩⟩
def encC (x : Cell1) : Value := x.1
theorem cell1_list (us : List Value) (h : ∀ u ∈ us, u.oneCell' = true) : ∃ zs : List Cell1, zs.map encC = us := by
  induction us with
  | nil => exact ⟨[], rfl⟩
  | cons x l ih =>
    obtain ⟨zs, hz⟩ := ih fun y hy => h y (by simp [hy])
    exact ⟨⟨x, h x (by simp)⟩ :: zs, by rw [List.map_cons, hz]; rfl⟩
theorem encC1 : OneCell encC := fun x => x.2
theorem DeleteC_h {W w : World} {Ps : List Res} {us : List Value} {n g cap i : Nat} (h : Has W w (Hp.row 25 1 (.slice (some ⟨g, 0, none⟩) n cap) n us :: Ps)) (h1 : ∀ u ∈ us, u.oneCell' = true) (hn : us.length = n) (hl : n ≤ 1000000) (hi : i < n) :
    Calls Try.prog 34 #[.slice (some ⟨g, 0, none⟩) n cap, .int .i64 (i : Int), .int .i64 ((i + 1 : Nat) : Int)] w fun e w' => e = .returned (.slice (some ⟨g, 0, none⟩) (n - 1) cap) ∧ Has W w' (Hp.row 25 1 (.slice (some ⟨g, 0, none⟩) (n - 1) cap) (n - 1) (us.eraseIdx i) :: Ps) := by
  obtain ⟨zs, rfl⟩ := cell1_list us h1
  rw [List.length_map] at hn
  have hcap := owns_cap h.row
  have hcm : cap ≤ 9223372036854775807 := by
    obtain ⟨_, h4⟩ := h.row
    rcases h4 with ⟨h4, _⟩ | ⟨g', cap', cur, hv, _, _, _, hc, _⟩
    · cases h4
    · cases hv
      have : maxLen ≤ 9223372036854775807 := by decide
      omega
  obtain ⟨i0, hi0, _, hz1, _⟩ := info_parts (show (Try.prog.info? 25).map (fun i => (i.zero, i.size, i.bytes)) = some (some (.slice none 0 0), 1, 24) from by kernel_rfl)
  have hcon := AnyE.slices_Delete Try.shDeletes encC encC1 ⟨.slice none 0 0, rfl⟩ Try.zeroValue25 i0 hi0 hz1 g 0 cap i (i + 1) zs.toArray w (row_holds (enc := encC) h.row) (by simp [hn]; exact hcap) hcm (by omega) (by simp [hn]; omega)
  change Calls Try.prog 34 _ _ _ at hcon
  have e1 : zs.toArray.size = n := by simp [hn]
  rw [e1, show n - (i + 1 - i) = n - 1 by omega] at hcon
  refine hcon.mono ?_
  rintro e w' ⟨rfl, k, rfl⟩
  have h2 := row_put h (l := zs.take i ++ zs.drop (i + 1) ++ List.replicate (i + 1 - i) ⟨.slice none 0 0, rfl⟩) (enc := encC) (by simp; omega) k #[]
  rw [grow_empty] at h2
  have h3 := h2.rowCut (m := n - 1) (by omega)
  have e3 : ((zs.take i ++ zs.drop (i + 1) ++ List.replicate (i + 1 - i) (⟨.slice none 0 0, rfl⟩ : Cell1)).map encC).take ((n - 1) * 1) = (zs.map encC).eraseIdx i := by
    rw [Nat.mul_one, List.map_append, List.take_left' (by simp; omega), List.eraseIdx_eq_take_drop_succ, List.map_append, List.map_take, List.map_drop]
  rw [e3] at h3
  exact ⟨rfl, h3⟩
theorem Reverse_h {W w : World} {Ps : List Res} {l : List Int} {n g cap : Nat} (h : Has W w (Hp.row 3 1 (.slice (some ⟨g, 0, none⟩) n cap) n (iv l) :: Ps)) (hn : l.length = n) (hl : n ≤ 1000000) :
    Calls Try.prog 35 #[.slice (some ⟨g, 0, none⟩) n cap] w fun e w' => e = .returned (.tuple #[]) ∧ Has W w' (Hp.row 3 1 (.slice (some ⟨g, 0, none⟩) n cap) n (iv l.reverse) :: Ps) := by
  have hcon := AnyE.slices_Reverse Try.shReverse (Value.int .i64) int1 g 0 cap l w (row_holds (enc := Value.int .i64) h.row) (by omega)
  change Calls Try.prog 35 _ _ _ at hcon
  rw [hn] at hcon
  refine hcon.mono ?_
  rintro e w' ⟨rfl, k, rfl⟩
  have h2 := row_put h (l := l.reverse) (enc := Value.int .i64) (by simp [hn]) k #[]
  rw [grow_empty] at h2
  exact ⟨rfl, h2⟩
theorem Reverse_n {W w : World} {Ps : List Res} {l : List Int} {va : Option Addr} {vc : Nat} (h : Has W w (Hp.row 3 1 (.slice va l.length vc) l.length (iv l) :: Ps)) (hl : l.length ≤ 1000000) :
    Calls Try.prog 35 #[.slice va l.length vc] w fun e w' => e = .returned (.tuple #[]) ∧ Has W w' (Hp.row 3 1 (.slice va l.length vc) l.length (iv l.reverse) :: Ps) := by
  obtain ⟨va', vc', e, h0, h1⟩ := owns_form2 h.row
  cases e
  cases va with
  | none =>
    obtain ⟨hl0, rfl⟩ := h0 rfl
    obtain rfl : l = [] := List.eq_nil_of_length_eq_zero hl0
    have hcon := AnyE.slices_Reverse_empty Try.shReverse none 0 w
    change Calls Try.prog 35 _ _ _ at hcon
    refine hcon.mono ?_
    rintro e w' ⟨rfl, rfl⟩
    exact ⟨rfl, h⟩
  | some ad =>
    obtain ⟨g, rfl⟩ := h1 ad rfl
    exact Reverse_h h rfl hl
end Go.Proofs.Ytbpaadpocihahaa
end

section
/- refute: Trim. -/
namespace Go.Proofs.Ytbpaadpocihahaa
open Go Go.RowKit Go.Proofs.Rg Go.Proofs.Mp Go.Proofs.Hp Go.Proofs.Sv Go.Proofs.Rp
set_option linter.unusedVariables false
set_option linter.unusedSimpArgs false
/-- clauses with their heads -/
def ClOks (W : World) (Ps : List Res) (PV : List (Value × List Int)) : Prop := ∀ q ∈ PV, ∃ ra rc, q.1 = .slice ra q.2.length rc ∧ IntsSrc W Ps ra rc q.2
theorem ClOks.more {W : World} {Ps Rs : List Res} {PV : List (Value × List Int)} (h : ClOks W Ps PV) (hs : ∀ P ∈ Ps, P ∈ Rs) : ClOks W Rs PV := fun q hq => by
  obtain ⟨ra, rc, e, hi⟩ := h q hq
  exact ⟨ra, rc, e, hi.more hs⟩
theorem ClOks.one {W : World} {Ps : List Res} {PV : List (Value × List Int)} (h : ClOks W Ps PV) : ∀ u ∈ PV.map (·.1), u.oneCell' = true := fun u hu => by
  obtain ⟨q, hq, rfl⟩ := List.mem_map.1 hu
  obtain ⟨ra, rc, e, _⟩ := h q hq
  rw [e]; rfl
theorem ClOks.erase {W : World} {Ps : List Res} {PV : List (Value × List Int)} (h : ClOks W Ps PV) (i : Nat) : ClOks W Ps (PV.eraseIdx i) := fun q hq => h q (List.mem_of_mem_eraseIdx hq)
theorem ClOks.form {W : World} {Ps : List Res} {PV : List (Value × List Int)} (h : ClOks W Ps PV) {va : Option Addr} {vc n : Nat} (hn : PV.length = n) (hl : n ≤ 1000000) (hr : ∀ q ∈ PV, q.2.length ≤ 1000000) {Rs : List Res} (hm : Hp.row 25 1 (.slice va n vc) n (PV.map (·.1)) ∈ Rs) (hs : ∀ P ∈ Ps, P ∈ Rs) :
    FormHs W Rs va vc (PV.map (·.1)) (PV.map (·.2)) := by
  have hlen : (PV.map (·.2)).length = n := by rw [List.length_map, hn]
  refine ⟨fun w Qs hw hP => ?_, by rw [hlen]; omega, fun r hr2 => ?_⟩
  · rw [hlen]
    obtain ⟨Q1, h1⟩ := has_mem hw (hP _ hm)
    refine ⟨h1.rowReads, fun i r hi => ?_⟩
    rw [List.getElem?_map] at hi
    obtain ⟨q, hq, rfl⟩ := Option.map_eq_some_iff.1 hi
    obtain ⟨ra, rc, e, hi2⟩ := h q (List.mem_of_getElem? hq)
    refine ⟨q.1, by rw [List.getElem?_map, hq]; rfl, ?_⟩
    rw [e]
    exact hi2 w Qs hw fun P hp => hP P (hs P hp)
  · obtain ⟨q, hq, rfl⟩ := List.mem_map.1 hr2
    have := hr q hq
    omega
/-- the heads of a formula's clauses -/
theorem FormHs.pairs {W : World} {Ps : List Res} {a : Option Addr} {c : Nat} {vs : List Value} {cs : List (List Int)} (h : FormHs W Ps a c vs cs) {w : World} (hw : Has W w Ps) : ∃ PV : List (Value × List Int), PV.map (·.1) = vs ∧ PV.map (·.2) = cs ∧ ClOks W Ps PV := by
  have hl := h.vlen hw
  refine ⟨vs.zip cs, List.map_fst_zip (by omega), List.map_snd_zip (by omega), fun q hq => ?_⟩
  obtain ⟨i, hi, rfl⟩ := List.getElem_of_mem hq
  have hi1 : i < vs.length := by rw [List.length_zip] at hi; omega
  have hi2 : i < cs.length := by omega
  rw [List.getElem_zip]
  obtain ⟨u, hu, hr⟩ := (h.1 w Ps hw fun P hP => hP).2 i cs[i] (List.getElem?_eq_getElem hi2)
  rw [List.getElem?_eq_getElem hi1] at hu
  obtain rfl := Option.some.inj hu
  obtain ⟨ra, rc, e⟩ := hr.form
  refine ⟨ra, rc, e, fun w' Qs hw' hP => ?_⟩
  obtain ⟨u2, hu2, hr2⟩ := (h.1 w' Qs hw' hP).2 i cs[i] (List.getElem?_eq_getElem hi2)
  rw [List.getElem?_eq_getElem hi1] at hu2
  obtain rfl := Option.some.inj hu2
  rw [e] at hr2
  exact hr2
theorem rightF_sub {V : Int} {cs cs' : List (List Int)} (h : rightF V cs = true) (hl : cs'.length ≤ cs.length) (hs : ∀ c ∈ cs', c ∈ cs) : rightF V cs' = true := by
  unfold rightF at h ⊢
  simp only [Bool.and_eq_true, Bool.not_eq_true', Bool.or_eq_false_iff, decide_eq_false_iff_not, List.all_eq_true] at h ⊢
  exact ⟨⟨h.1.1, by omega⟩, fun c hc => h.2 c (hs c hc)⟩
theorem erase_len {α : Type} (l : List α) (i : Nat) : (l.eraseIdx i).length ≤ l.length := by rw [List.length_eraseIdx]; split <;> omega
theorem map_erase {α β : Type} (f : α → β) (l : List α) (i : Nat) : (l.eraseIdx i).map f = (l.map f).eraseIdx i := by
  rw [List.eraseIdx_eq_take_drop_succ, List.eraseIdx_eq_take_drop_succ, List.map_append, List.map_take, List.map_drop]
def trimEV (V : Int) (cs p : List (List Int)) : Int := if validB V cs p then (if p.length > 300 then 14 else chkE cs p) else 2
def trimLV (V : Int) (cs p : List (List Int)) : List (List Int) := if trimEV V cs p = 0 then trimF cs p else []
def TrimPost (W : World) (Ps : List Res) (E : Int) (L : List (List Int)) (e : Ending) (w' : World) : Prop :=
  ∃ PV va vc, PV.map (·.2) = L ∧ ClOks W Ps PV ∧ e = .returned (.tuple #[.slice va PV.length vc, .int .i64 E]) ∧ Has W w' (Hp.row 25 1 (.slice va PV.length vc) PV.length (PV.map (·.1)) :: Ps)
theorem TrimPost.none {W w : World} {Ps : List Res} {E : Int} {e : Ending} (he : e = .returned (.tuple #[.slice Option.none 0 0, .int .i64 E])) (h : Has W w Ps) : TrimPost W Ps E [] e w := ⟨[], Option.none, 0, rfl, (fun q hq => (by cases hq)), he, h.nilRow _ _⟩
theorem trim_next (cs out : List (List Int)) (k : Nat) : (List.range (k + 1)).reverse.foldl (trimStep cs) out = (List.range k).reverse.foldl (trimStep cs) (trimStep cs out k) := by
  rw [List.range_succ, List.reverse_append]; rfl
set_option maxHeartbeats 8000000 in
set_option maxRecDepth 100000 in
theorem Trim_calls {W w : World} {Ps : List Res} (h : Has W w Ps) {V : Int} {a : Option Addr} {c : Nat} {vs : List Value} {cs : List (List Int)} (hF : FormHs W Ps a c vs cs) {pa : Option Addr} {pc : Nat} {pvs : List Value} {p : List (List Int)} (hP : FormHs W Ps pa pc pvs p)
    (hs : ∀ r ∈ cs, r.length ≤ 1000000) (hsp : ∀ r ∈ p, r.length ≤ 1000000) :
    Calls Try.prog 14 #[.agg #[.int .i64 V, .slice a cs.length c], .slice pa p.length pc] w (TrimPost W Ps (trimEV V cs p) (trimLV V cs p)) := by
  have HA := Lib.hid (hF.src _ _ h fun P hP => hP)
  have HB := Lib.hid (hP.src _ _ h fun P hP => hP)
  have HH := Lib.hid (h.newBlk (.cells #[.int .i64 V, .slice a cs.length c] 24 (0, 0)))
  have HF := Lib.hid hF
  have HP := Lib.hid hP
  have HS := Lib.hid hs
  have HSP := Lib.hid hsp
  obtain ⟨b, hb⟩ : ∃ b, validB V cs p = b := ⟨_, rfl⟩
  have HVB := Lib.hid hb
  have HVC := Lib.hid (fun w' (hf : Fr [] w w') => valid_calls (V := V) (HA.out.fr hf) (HB.out.fr hf))
  have HPO := Lib.hid (hP.vone h)
  obtain ⟨n, hn⟩ : ∃ n, p.length = n := ⟨_, rfl⟩
  have HN := Lib.hid hn
  obtain ⟨PV0, hp1, hp2, hp3⟩ := hP.pairs h
  have HPV := Lib.hid (And.intro hp1 (And.intro hp2 hp3))
  rw [hn] at HVC ⊢
  clear h hF hP hs hsp hb hp1 hp2 hp3 hn
  go_enter Try.func14, Try.ntmps14
  go_wp2_with fail
  refine (HVC.out _ (by (repeat first | exact Fr.refl _ _ | assumption | apply Fr.n | apply Fr.d | apply Fr.a | refine Fr.s ?_ (.inr (by simp; try omega)) _))).mono ?_
  rw [HVB.out]
  rintro e w1 ⟨rfl, hf1⟩
  obtain ⟨fb, hfb⟩ : ∃ b, w.heap.size = b := ⟨_, rfl⟩
  have h1 := HH.out.step hf1
  rw [hfb] at h1 ⊢
  have hb := h1.blk
  have c0 : _ = some _ := heap_eq_cell hb 0
  have c1 : _ = some _ := heap_eq_cell hb 1
  have cl := lt_of_block hb
  have H1 := Lib.hid h1
  clear h1 hb hf1 HH HVC hfb
  cases b with
  | false =>
    have HE := Lib.hid (show trimEV V cs p = 2 from by unfold trimEV; rw [HVB.out]; rfl)
    have HL := Lib.hid (show trimLV V cs p = [] from by unfold trimLV; rw [HE.out]; rfl)
    go_wp2
    go_ret2
    rw [HE.out, HL.out]
    exact TrimPost.none rfl (H1.out.drop.step (by (repeat first | exact Fr.refl _ _ | assumption | apply Fr.n | apply Fr.d | apply Fr.a | refine Fr.s ?_ (.inr (by simp; try omega)) _)))
  | true =>
    by_cases hn3 : n > 300
    · have hd : decide ((n : Int) > 300) = true := by simp; omega
      have HE := Lib.hid (show trimEV V cs p = 14 from by unfold trimEV; rw [HVB.out, HN.out, if_pos rfl, if_pos hn3])
      have HL := Lib.hid (show trimLV V cs p = [] from by unfold trimLV; rw [HE.out]; rfl)
      go_wp2
      go_ret2
      rw [HE.out, HL.out]
      exact TrimPost.none rfl (H1.out.drop.step (by (repeat first | exact Fr.refl _ _ | assumption | apply Fr.n | apply Fr.d | apply Fr.a | refine Fr.s ?_ (.inr (by simp; try omega)) _)))
    · have hd : decide ((n : Int) > 300) = false := by simp; omega
      obtain ⟨hr, hrp⟩ := validB_one HVB.out
      obtain ⟨V', rfl, hV⟩ := rightF_nat hr
      have HRR := Lib.hid (And.intro hr hrp)
      have HE := Lib.hid (show trimEV V' cs p = chkE cs p from by unfold trimEV; rw [HVB.out, HN.out, if_pos rfl, if_neg hn3])
      have HCK := Lib.hid (fun w' (hf : Fr [] w1 w') => check_calls (H1.out.step hf) (HF.out.more fun P hP => List.mem_cons_of_mem _ hP) (HP.out.more fun P hP => List.mem_cons_of_mem _ hP) HVB.out HS.out HSP.out)
      rw [HN.out] at HCK
      clear hr hrp
      go_wp2_with fail
      refine (HCK.out _ (by (repeat first | exact Fr.refl _ _ | assumption | apply Fr.n | apply Fr.d | apply Fr.a | refine Fr.s ?_ (.inr (by simp; try omega)) _))).mono ?_
      rintro e w2 ⟨rfl, h2⟩
      obtain ⟨N, hN⟩ : ∃ N : Int, (chkN cs p : Int) = N := ⟨_, rfl⟩
      obtain ⟨E, hE⟩ : ∃ E, chkE cs p = E := ⟨_, rfl⟩
      rw [hN, hE]
      have HEE := Lib.hid hE
      have H2 := Lib.hid h2
      clear h2 HCK hN hE H1 c0 c1 cl
      by_cases hE0 : E = 0
      · subst hE0
        have hacc : accB cs p = true := by
          have := HEE.out
          rw [chkE_acc] at this
          cases ha : accB cs p with
          | true => rfl
          | false => rw [ha] at this; simp at this
        have hpos := acc_pos hacc
        rw [HN.out] at hpos
        have HL := Lib.hid (show trimLV V' cs p = trimF cs p from by unfold trimLV; rw [HE.out, HEE.out]; rfl)
        have HEZ := Lib.hid (show trimEV V' cs p = 0 from by rw [HE.out, HEE.out])
        have hrd := (HP.out.1 w2 _ H2.out (fun P hP => List.mem_cons_of_mem _ hP)).1
        have HRD := Lib.hid hrd
        rw [HN.out] at HRD
        clear hacc hrd
        go_wp2_with fail
        refine (Clones_h (H2.out.step (by (repeat first | exact Fr.refl _ _ | assumption | apply Fr.n | apply Fr.d | apply Fr.a | refine Fr.s ?_ (.inr (by simp; try omega)) _))) (Reads.fr HRD.out (by (repeat first | exact Fr.refl _ _ | assumption | apply Fr.n | apply Fr.d | apply Fr.a | refine Fr.s ?_ (.inr (by simp; try omega)) _))) HPO.out (by omega)).mono ?_
        rintro e w3 ⟨v3, rfl, h3⟩
        obtain ⟨va, vc, rfl, _, _⟩ := owns_form2 h3.row
        have H3 := Lib.hid h3
        obtain ⟨k, rfl⟩ : ∃ k, n = k + 1 := ⟨n - 1, by omega⟩
        clear h3 HRD H2
        have hpvl : PV0.length = k + 1 := by rw [← HN.out, ← HPV.out.2.1, List.length_map]
        have HPL := Lib.hid hpvl
        clear hpvl
        go_wp2
        go_loopg [8, 9] k (fun gg z8 z9 wr => ∃ (j m : Nat) (zi : Int) (PV : List (Value × List Int)) (va : Option Addr) (vc : Nat), j ≤ gg ∧ j + 1 ≤ m ∧ m ≤ k + 1 ∧ z8 = .slice va m vc ∧ z9 = .int .i64 zi ∧ Hid (zi = (j : Int) - 1) ∧ Hid (PV.length = m ∧ (List.range j).reverse.foldl (trimStep cs) (PV.map (·.2)) = trimF cs p ∧ ClOks W Ps PV ∧ ∀ q ∈ PV, q.2 ∈ p) ∧ Hid (Has W wr (Hp.row 25 1 (.slice va m vc) m (PV.map (·.1)) :: Hp.blk fb (.cells #[.int .i64 (V' : Int), .slice a cs.length c] 24 (0, 0)) :: Ps)))
        case atStart =>
          refine ⟨k, k + 1, _, PV0, va, vc, Nat.le_refl _, Nat.le_refl _, by omega, rfl, rfl, Lib.hid (by omega), Lib.hid ⟨HPL.out, ?_, HPV.out.2.2, fun q hq => by rw [← HPV.out.2.1]; exact List.mem_map_of_mem hq⟩, Lib.hid (by rw [HPV.out.1]; exact H3.out.step (by (repeat first | exact Fr.refl _ _ | assumption | apply Fr.n | apply Fr.d | apply Fr.a | refine Fr.s ?_ (.inr (by simp; try omega)) _)))⟩
          rw [HPV.out.2.1]
          unfold trimF
          rw [HN.out]
          rfl
        case round =>
          obtain ⟨j, m, zi, PV, va, vc, hjg, hjm, hm3, rfl, rfl, HZ, HI, HH⟩ := hrel
          clear H3
          by_cases hj0 : j = 0
          · subst hj0
            have hzn : decide (zi ≥ 0) = false := by have := HZ.out; simp; omega
            go_wp2
            go_ret2
            rw [HEZ.out, HL.out]
            refine ⟨PV, va, vc, HI.out.2.1, HI.out.2.2.1, by rw [HI.out.1]; rfl, ?_⟩
            rw [HI.out.1]
            exact (HH.out.ord 2 [0]).step (by (repeat first | exact Fr.refl _ _ | assumption | apply Fr.n | apply Fr.d | apply Fr.a | refine Fr.s ?_ (.inr (by simp; try omega)) _))
          · obtain ⟨i, rfl⟩ : ∃ i, j = i + 1 := ⟨j - 1, by omega⟩
            obtain rfl : zi = (i : Int) := by have := HZ.out; omega
            have hone := HI.out.2.2.1.one
            have HONE := Lib.hid hone
            have hb := (HH.out.bring 1).blk
            have c0 : _ = some _ := heap_eq_cell hb 0
            have c1 : _ = some _ := heap_eq_cell hb 1
            have cl := lt_of_block hb
            clear hb hone
            go_wp2_with fail
            refine (Clones_h (HH.out.step (by (repeat first | exact Fr.refl _ _ | assumption | apply Fr.n | apply Fr.d | apply Fr.a | refine Fr.s ?_ (.inr (by simp; try omega)) _))) (Reads.fr HH.out.rowReads (by (repeat first | exact Fr.refl _ _ | assumption | apply Fr.n | apply Fr.d | apply Fr.a | refine Fr.s ?_ (.inr (by simp; try omega)) _))) HONE.out (by omega)).mono ?_
            rintro e w5 ⟨v5, rfl, h5⟩
            obtain ⟨la, lc, rfl, hl0, hl1⟩ := owns_form2 h5.row
            obtain ⟨lg, rfl⟩ : ∃ lg, la = some ⟨lg, 0, none⟩ := by
              cases la with
              | none => have := (hl0 rfl).1; omega
              | some ad => obtain ⟨q, rfl⟩ := hl1 ad rfl; exact ⟨q, rfl⟩
            have H5 := Lib.hid h5
            have HML := Lib.hid (show (PV.map (·.1)).length = m from by rw [List.length_map, HI.out.1])
            clear h5 hl0 hl1 c0 c1 cl
            go_wp2_with fail
            refine (DeleteC_h (i := i) H5.out HONE.out HML.out (by omega) (by omega)).mono ?_
            rintro e w6 ⟨rfl, h6⟩
            rw [← map_erase] at h6
            have hel : (PV.eraseIdx i).length = m - 1 := by rw [List.length_eraseIdx, HI.out.1, if_pos (by omega)]
            have hsub : ∀ q ∈ PV.eraseIdx i, q.2 ∈ p := fun q hq => HI.out.2.2.2 q (List.mem_of_mem_eraseIdx hq)
            have hfm := (HI.out.2.2.1.erase i).form (va := some ⟨lg, 0, none⟩) (vc := lc) hel (by omega) (fun q hq => HSP.out _ (hsub q hq)) (Rs := Hp.row 25 1 (.slice (some ⟨lg, 0, none⟩) (m - 1) lc) (m - 1) ((PV.eraseIdx i).map (·.1)) :: Hp.row 25 1 (.slice va m vc) m (PV.map (·.1)) :: Hp.blk fb (.cells #[.int .i64 (V' : Int), .slice a cs.length c] 24 (0, 0)) :: Ps) (by simp) (fun P hP => by simp [hP])
            have hvl : validB V' cs ((PV.eraseIdx i).map (·.2)) = true := by
              unfold validB
              rw [HRR.out.1, Bool.true_and]
              refine rightF_sub HRR.out.2 (by rw [List.length_map, hel, HN.out]; have := hm3; omega) fun c hc => ?_
              obtain ⟨q, hq, rfl⟩ := List.mem_map.1 hc
              exact hsub q hq
            have HCK := Lib.hid (fun w' (hf : Fr [] w6 w') => check_calls (h6.step hf) (HF.out.more fun P hP => by simp [hP]) hfm hvl HS.out (fun r hr => by
              obtain ⟨q, hq, rfl⟩ := List.mem_map.1 hr
              exact HSP.out _ (hsub q hq)))
            have hel2 : ((PV.eraseIdx i).map (·.2)).length = m - 1 := by rw [List.length_map, hel]
            rw [hel2] at HCK
            have hb := (h6.bring 2).blk
            have c0 : _ = some _ := heap_eq_cell hb 0
            have c1 : _ = some _ := heap_eq_cell hb 1
            have cl := lt_of_block hb
            have HEL := Lib.hid hel
            have HSUB := Lib.hid hsub
            clear h6 H5 hb hfm hvl hel hel2 hsub HML
            go_wp2_with fail
            refine (HCK.out _ (by (repeat first | exact Fr.refl _ _ | assumption | apply Fr.n | apply Fr.d | apply Fr.a | refine Fr.s ?_ (.inr (by simp; try omega)) _))).mono ?_
            rintro e w7 ⟨rfl, h7⟩
            have htn := trim_next cs (PV.map (·.2)) i
            rw [HI.out.2.1] at htn
            obtain ⟨N2, hN2⟩ : ∃ N : Int, (chkN cs ((PV.eraseIdx i).map (·.2)) : Int) = N := ⟨_, rfl⟩
            obtain ⟨E2, hE2⟩ : ∃ E, chkE cs ((PV.eraseIdx i).map (·.2)) = E := ⟨_, rfl⟩
            rw [hN2, hE2]
            have hE3 := hE2
            rw [chkE_acc] at hE3
            have HTN := Lib.hid htn
            have HE3 := Lib.hid hE3
            have H7 := Lib.hid h7
            clear h7 HCK htn hN2 hE2 hE3 c0 c1 cl
            by_cases hE20 : E2 = 0
            · subst hE20
              have hts : trimStep cs (PV.map (·.2)) i = (PV.eraseIdx i).map (·.2) := by
                unfold trimStep
                rw [← map_erase]
                have := HE3.out
                cases ha : accB cs ((PV.eraseIdx i).map (·.2)) with
                | true => rfl
                | false => rw [ha] at this; simp at this
              have HTS := Lib.hid hts
              clear hts
              go_wp2
              go_roundg i
              case measure => omega
              case rel => exact ⟨i, m - 1, _, PV.eraseIdx i, some ⟨lg, 0, none⟩, lc, Nat.le_refl _, by omega, by omega, rfl, rfl, Lib.hid rfl, Lib.hid ⟨HEL.out, by rw [← HTS.out]; exact HTN.out.symm, HI.out.2.2.1.erase i, HSUB.out⟩, Lib.hid ((H7.out.ord 3 [0, 2]).step (by (repeat first | exact Fr.refl _ _ | assumption | apply Fr.n | apply Fr.d | apply Fr.a | refine Fr.s ?_ (.inr (by simp; try omega)) _)))⟩
            · have hb2 : (E2 == 0) = false := by simpa using hE20
              have hts : trimStep cs (PV.map (·.2)) i = PV.map (·.2) := by
                unfold trimStep
                rw [← map_erase]
                have := HE3.out
                cases ha : accB cs ((PV.eraseIdx i).map (·.2)) with
                | true => rw [ha] at this; exact absurd this.symm hE20
                | false => rfl
              have HTS := Lib.hid hts
              clear hts
              go_wp2
              go_roundg i
              case measure => omega
              case rel => exact ⟨i, m, _, PV, va, vc, Nat.le_refl _, by omega, hm3, rfl, rfl, Lib.hid rfl, Lib.hid ⟨HI.out.1, by have := HTN.out.symm; rwa [HTS.out] at this, HI.out.2.2⟩, Lib.hid ((H7.out.ord 3 [1, 2]).step (by (repeat first | exact Fr.refl _ _ | assumption | apply Fr.n | apply Fr.d | apply Fr.a | refine Fr.s ?_ (.inr (by simp; try omega)) _)))⟩
      · have HL := Lib.hid (show trimLV V' cs p = [] from by unfold trimLV; rw [HE.out, HEE.out, if_neg hE0])
        have hb0 : (E != 0) = true := by simpa using hE0
        go_wp2
        go_ret2
        rw [HE.out, HEE.out, HL.out]
        exact TrimPost.none rfl (H2.out.drop.step (by (repeat first | exact Fr.refl _ _ | assumption | apply Fr.n | apply Fr.d | apply Fr.a | refine Fr.s ?_ (.inr (by simp; try omega)) _)))
end Go.Proofs.Ytbpaadpocihahaa
end

section
/- Law RefuteSound, walked. -/
namespace Go.Proofs.Ytbpaadpocihahaa
open Go Go.RowKit Go.Proofs.Rg Go.Proofs.Mp Go.Proofs.Hp Go.Proofs.Sv Go.Proofs.Rp
set_option linter.unusedVariables false
set_option linter.unusedSimpArgs false
def AwakeOk : Prop := ∀ w : World, Calls Try.prog 9 #[] w fun e w' => e = .returned (.bool true) ∧ Fr [] w w'
theorem more_valid {V : Int} {cs p : List (List Int)} (h : validB V cs p = true) (hc : cs.length ≤ 40) (hp : p.length ≤ 12) : validB V (cs.reverse ++ p) p = true := by
  obtain ⟨h1, h2⟩ := validB_one h
  unfold validB
  rw [h2, Bool.and_true]
  unfold rightF at h1 h2 ⊢
  simp only [Bool.and_eq_true, Bool.not_eq_true', Bool.or_eq_false_iff, decide_eq_false_iff_not, List.all_eq_true] at h1 h2 ⊢
  refine ⟨⟨h1.1.1, ?_⟩, fun c hc => ?_⟩
  · rw [List.length_append, List.length_reverse]; omega
  · rcases List.mem_append.1 hc with hc | hc
    · exact h1.2 c (List.mem_reverse.1 hc)
    · exact h2.2 c hc
theorem more_acc {cs p : List (List Int)} (h : accB cs p = true) : accB (cs.reverse ++ p) p = true := accB_mono (Sub.of_mem fun C hC => List.mem_append_left _ (List.mem_reverse.2 hC)) h
theorem chk_cases (V : Int) (cs p : List (List Int)) : (chkEV V cs p = 2 ∧ chkNV V cs p = 0) ∨ (chkEV V cs p = 16 ∧ chkNV V cs p ≤ p.length) ∨ (validB V cs p = true ∧ accB cs p = true ∧ chkEV V cs p = 0 ∧ chkNV V cs p = p.length) := by
  unfold chkEV chkNV
  cases hv : validB V cs p with
  | false => exact .inl ⟨rfl, rfl⟩
  | true =>
    cases ha : accB cs p with
    | false => exact .inr (.inl ⟨accB_no ha, chkN_le cs p⟩)
    | true => exact .inr (.inr ⟨rfl, rfl, (accB_num ha).2, (accB_num ha).1⟩)
theorem right_noz {V : Int} {cs : List (List Int)} (h : rightF V cs = true) : NoZ cs := by
  obtain ⟨n, rfl, _⟩ := rightF_nat h
  exact fun C hC x hx => ((rightF_len h).2.2 C hC x hx).1
/-- the clauses turned, the proof behind them, in a row -/
theorem FormHs.turned {W : World} {Ps : List Res} {a : Option Addr} {c : Nat} {vs : List Value} {cs : List (List Int)} (h : FormHs W Ps a c vs cs) {pa : Option Addr} {pc : Nat} {pvs : List Value} {p : List (List Int)} (hp : FormHs W Ps pa pc pvs p) (hvl : vs.length = cs.length)
    {va : Option Addr} {vc n : Nat} (hn : n = cs.length + p.length) (hn6 : n ≤ 9223372036854775807) :
    FormHs W (Hp.row 25 1 (.slice va n vc) n (vs.reverse ++ pvs) :: Ps) va vc (vs.reverse ++ pvs) (cs.reverse ++ p) := by
  have hlen : (cs.reverse ++ p).length = n := by rw [List.length_append, List.length_reverse, hn]
  refine ⟨fun w Qs hw hP => ?_, by rw [hlen]; exact hn6, fun r hr => ?_⟩
  · rw [hlen]
    obtain ⟨Q1, h1⟩ := has_mem hw (hP (Hp.row 25 1 (.slice va n vc) n (vs.reverse ++ pvs)) (by simp))
    have h3 := (h.1 w Qs hw fun P hp => hP P (by simp [hp])).2
    have h4 := (hp.1 w Qs hw fun P hp => hP P (by simp [hp])).2
    refine ⟨h1.rowReads, fun i r hi => ?_⟩
    by_cases hic : i < cs.length
    · rw [List.getElem?_append_left (by simpa using hic), List.getElem?_reverse hic] at hi
      obtain ⟨u, hu, hr⟩ := h3 _ r hi
      exact ⟨u, by rw [List.getElem?_append_left (by simpa [hvl] using hic), List.getElem?_reverse (by omega), hvl]; exact hu, hr⟩
    · rw [List.getElem?_append_right (by simpa using hic)] at hi
      obtain ⟨u, hu, hr⟩ := h4 _ r hi
      exact ⟨u, by rw [List.getElem?_append_right (by simpa [hvl] using hic)]; simpa [hvl] using hu, hr⟩
  · rcases List.mem_append.1 hr with hr | hr
    · exact h.2.2 r (List.mem_reverse.1 hr)
    · exact hp.2.2 r hr
theorem rev_next {vs : List Value} {i n : Nat} {u : Value} (hn : vs.length = n) (hi : i < n) (h : vs[n - 1 - i]? = some u) : vs.reverse.take (i + 1) = vs.reverse.take i ++ [u] := by
  rw [List.take_add_one, List.getElem?_reverse (by omega), hn, h]
  rfl
/-- one clause of a formula that can be read, and its place in the row -/
theorem FormHs.rowV {W : World} {Ps : List Res} {a : Option Addr} {c : Nat} {vs : List Value} {cs : List (List Int)} (h : FormHs W Ps a c vs cs) {w : World} {Qs : List Res} (hw : Has W w Qs) (hP : ∀ P ∈ Ps, P ∈ Qs) {i : Nat} (hi : i < cs.length) :
    ∃ ra rn rc g off, a = some ⟨g, off, none⟩ ∧ g < w.heap.size ∧ w.cell? ⟨g, off + i, none⟩ = some (.slice ra rn rc) ∧ vs[i]? = some (.slice ra rn rc) := by
  obtain ⟨⟨hl, a', c', he, hp⟩, h2⟩ := h.1 w Qs hw hP
  cases he
  obtain ⟨u, hu, hr2⟩ := h2 i _ (List.getElem?_eq_getElem hi)
  obtain ⟨ra, rc, rfl⟩ := hr2.form
  obtain ⟨g, off, ha, hg, hc⟩ := hp (by omega)
  exact ⟨ra, _, rc, g, off, ha, hg, hc i _ hu, hu⟩
set_option maxHeartbeats 16000000 in
set_option maxRecDepth 100000 in
theorem RefuteSound_calls (haw : AwakeOk) {w : World} {V : Int} {a : Option Addr} {c : Nat} {cs : List (List Int)} (h : FormAt w a c cs) {pa : Option Addr} {pc : Nat} {p : List (List Int)} (hp : FormAt w pa pc p) {la : Option Addr} {lc : Nat} {l : List Bool} (hl : BoolsAt w (.slice la l.length lc) l) :
    Calls Try.prog 7 #[.agg #[.int .i64 V, .slice a cs.length c], .slice pa p.length pc, .slice la l.length lc] w fun e w' => e = .returned (.bool true) ∧ Fr [] w w' := by
  have HAW := Lib.hid haw
  have HT := Lib.hid (fun w' (hf : Fr [] w w') => few_calls (V := V) (h.fr hf) (hp.fr hf))
  have HI := Lib.hid h
  have HP := Lib.hid hp
  have HL := Lib.hid hl
  obtain ⟨n, hn⟩ : ∃ m, cs.length = m := ⟨_, rfl⟩
  obtain ⟨m, hm⟩ : ∃ m, p.length = m := ⟨_, rfl⟩
  obtain ⟨ln, hln⟩ : ∃ m, l.length = m := ⟨_, rfl⟩
  have H0 := Lib.hid ((Has.nil (Fr.refl [] w)).newBlk (.cells #[.int .i64 V, .slice a n c] 24 (0, 0)))
  have HN := Lib.hid (And.intro hn (And.intro hm hln))
  rw [hn, hm] at HT
  rw [hn, hm, hln]
  clear h haw hp hl hn hm hln
  go_enter Try.func7, Try.ntmps7
  go_wp2_with fail
  refine (HT.out _ (by (repeat first | exact Fr.refl _ _ | assumption | apply Fr.n | apply Fr.d | apply Fr.a | refine Fr.s ?_ (.inr (by simp; try omega)) _))).mono ?_
  rintro e w1 ⟨rfl, hf1⟩
  obtain ⟨fb, hfb⟩ : ∃ b, w.heap.size = b := ⟨_, rfl⟩
  have h1 := H0.out.step (Fr.trans0 (by (repeat first | exact Fr.refl _ _ | assumption | apply Fr.n | apply Fr.d | apply Fr.a | refine Fr.s ?_ (.inr (by simp; try omega)) _)) hf1)
  rw [hfb] at h1 ⊢
  have hb := h1.blk
  have v0 : _ = some _ := heap_eq_cell hb 0
  have v1 : _ = some _ := heap_eq_cell hb 1
  have vl := lt_of_block hb
  have H1 := Lib.hid h1
  obtain ⟨T, hT⟩ : ∃ T, fewF cs p = T := ⟨_, rfl⟩
  rw [hT]
  have HTT := Lib.hid hT
  clear hf1 h1 hb hfb hT HT H0
  cases T with
  | false =>
    go_wp2_with fail
    refine (HAW.out _).mono ?_
    rintro e w9 ⟨rfl, hf9⟩
    have HF9 := Lib.hid hf9
    clear hf9
    go_wp2
    go_ret
    exact ⟨rfl, H1.out.fr.trans0 HF9.out⟩
  | true =>
    by_cases h5 : ln ≤ 5000
    case neg =>
      have b0 : decide ((ln : Int) > 5000) = true := by simp; omega
      go_wp2_with fail
      refine (HAW.out _).mono ?_
      rintro e w9 ⟨rfl, hf9⟩
      have HF9 := Lib.hid hf9
      clear hf9
      go_wp2
      go_ret
      exact ⟨rfl, H1.out.fr.trans0 HF9.out⟩
    have b0 : decide ((ln : Int) > 5000) = false := by simp; omega
    obtain ⟨hc40, hp12, hc20, hp20⟩ := fewF_iff.1 HTT.out
    obtain ⟨vs, hFH⟩ := FormHs.base (Ps := []) HI.out
    obtain ⟨pvs, hPH⟩ := FormHs.base (Ps := []) HP.out
    have hvl := hFH.vlen (Has.nil (Fr.refl [] w))
    have hpvl := hPH.vlen (Has.nil (Fr.refl [] w))
    have HC20 := Lib.hid (And.intro (fun r hr => Nat.le_trans (hc20 r hr) (by omega) : ∀ r ∈ cs, r.length ≤ 1000000) (fun r hr => Nat.le_trans (hp20 r hr) (by omega) : ∀ r ∈ p, r.length ≤ 1000000))
    have HVL := Lib.hid (And.intro hvl hpvl)
    have HFH := Lib.hid hFH
    have HPH := Lib.hid hPH
    have HLE := Lib.hid (And.intro hc40 hp12)
    have HCK := Lib.hid (fun w' (hf : Fr [] w1 w') => Check_calls (V := V) (H1.out.step hf) (HFH.out.more fun P hP => by simp at hP) (HPH.out.more fun P hP => by simp at hP) HC20.out.1 HC20.out.2)
    rw [HN.out.1, HN.out.2.1] at HCK
    rw [HN.out.1] at hc40
    rw [HN.out.2.1] at hp12
    clear hc20 hp20 hvl hpvl hFH hPH
    go_wp2_with fail
    refine (HCK.out _ (Fr.refl [] _)).mono ?_
    rintro e w2 ⟨rfl, h2⟩
    clear HCK v0 v1 vl
    have hb := h2.blk
    have v0 : _ = some _ := heap_eq_cell hb 0
    have v1 : _ = some _ := heap_eq_cell hb 1
    have vl := lt_of_block hb
    have H2 := Lib.hid h2
    clear h2 hb H1
    have hcases := chk_cases V cs p
    obtain ⟨N, hN⟩ : ∃ N, chkNV V cs p = N := ⟨_, rfl⟩
    obtain ⟨E, hE⟩ : ∃ N, chkEV V cs p = N := ⟨_, rfl⟩
    rw [hN, hE, HN.out.2.1] at hcases
    rw [hN, hE]
    clear hN hE
    rcases hcases with ⟨rfl, rfl⟩ | ⟨rfl, hNm⟩ | ⟨hval, hacc, rfl, rfl⟩
    ·
      go_wp2_with fail
      refine (HAW.out _).mono ?_
      rintro e w9 ⟨rfl, hf9⟩
      have HF9 := Lib.hid hf9
      clear hf9
      go_wp2
      go_ret
      exact ⟨rfl, H2.out.fr.trans0 HF9.out⟩
    · have b1 : decide ((N : Int) ≥ 0) = true := by simp
      have b2 : decide ((N : Int) ≤ (m : Int)) = true := by simp; omega
      by_cases hN0 : N = 0
      · subst hN0
        go_wp2_with fail
        refine (HAW.out _).mono ?_
        rintro e w9 ⟨rfl, hf9⟩
        have HF9 := Lib.hid hf9
        clear hf9
        go_wp2
        go_ret
        exact ⟨rfl, H2.out.fr.trans0 HF9.out⟩
      · have b3 : ((N : Int) == 0) = false := by simp; omega
        go_wp2_with fail
        refine (HAW.out _).mono ?_
        rintro e w9 ⟨rfl, hf9⟩
        have HF9 := Lib.hid hf9
        clear hf9
        go_wp2
        go_ret
        exact ⟨rfl, H2.out.fr.trans0 HF9.out⟩
    obtain ⟨m, rfl⟩ : ∃ m, m = N := ⟨N, rfl⟩
    have HVAL := Lib.hid (And.intro hval hacc)
    have HEV := Lib.hid (FEval_calls (V := V) (HI.out.fr H2.out.fr) HC20.out.1 (HL.out.fr H2.out.fr) (by rw [HN.out.2.2]; omega))
    rw [HN.out.1, HN.out.2.2] at HEV
    clear hval hacc
    go_wp2_with fail
    refine HEV.out.mono ?_
    intro e w3 ⟨hev, hf3⟩
    obtain ⟨G, rfl⟩ : ∃ G : Int, e = .returned (.tuple #[.bool false, .int .i64 G]) := by
      rcases hev with ⟨_, rfl⟩ | ⟨_, _, rfl⟩
      · exact ⟨_, rfl⟩
      · obtain ⟨h1, h2⟩ := validB_one HVAL.out.1
        rw [acc_sound (right_noz h1) (right_noz h2) HVAL.out.2]
        exact ⟨_, rfl⟩
    have h3 := H2.out.step hf3
    clear v0 v1 vl HEV
    have hb := h3.blk
    have v0 : _ = some _ := heap_eq_cell hb 0
    have v1 : _ = some _ := heap_eq_cell hb 1
    have vl := lt_of_block hb
    have h4 := (h3.newBlk (.cells #[.int .i64 V, .slice none 0 0] 24 (0, 0))).nilRow 25 1
    have H4 := Lib.hid h4
    clear hev hf3 h3 hb H2 h4
    go_wp2
    go_loopg [69] n (fun gg z wr => ∃ (i : Nat) (va : Option Addr) (vc : Nat), i ≤ n ∧ n - i ≤ gg ∧ z = .int .i64 (i : Int) ∧ Hid (Has w wr (Hp.row 25 1 (.slice va i vc) i (vs.reverse.take i) :: Hp.blk w3.heap.size (.cells #[.int .i64 V, .slice va i vc] 24 (0, 0)) :: [Hp.blk fb (.cells #[.int .i64 V, .slice a n c] 24 (0, 0))])))
    case atStart => exact ⟨0, none, 0, Nat.zero_le _, by omega, rfl, Lib.hid (H4.out.step (by (repeat first | exact Fr.refl _ _ | assumption | apply Fr.n | apply Fr.d | apply Fr.a | refine Fr.s ?_ (.inr (by simp; try omega)) _)))⟩
    case round =>
      obtain ⟨i, va, vc, hi, hg, rfl, HH⟩ := hrel
      clear H4 v0 v1 vl
      have hb := (HH.out.bring 2).blk
      have v0 : _ = some _ := heap_eq_cell hb 0
      have v1 : _ = some _ := heap_eq_cell hb 1
      have vl := lt_of_block hb
      have hb := (HH.out.bring 1).blk
      have x0 : _ = some _ := heap_eq_cell hb 0
      have x1 : _ = some _ := heap_eq_cell hb 1
      have xz1 := heap_eq_frozen hb 1
      have xl := lt_of_block hb
      clear hb
      by_cases hin : i < n
      · obtain ⟨k, hk⟩ : ∃ k, n - 1 - i = k := ⟨_, rfl⟩
        have hki : (n : Int) - 1 - (i : Int) = (k : Int) := by omega
        obtain ⟨ra, rn, rc, g, off, rfl, hgl, hc, hvk⟩ := HFH.out.rowV HH.out (fun P hP => by simp at hP) (i := k) (by rw [HN.out.1]; omega)
        have HNX := Lib.hid (rev_next (by rw [HVL.out.1, HN.out.1]) hin (by rw [hk]; exact hvk))
        have hmaxl : (1000001 : Nat) ≤ maxLen := by decide
        have HLL := Lib.hid (show i + 1 ≤ maxLen ∧ (i + 1) * 24 ≤ 140737488355328 from by omega)
        clear hvk hmaxl
        go_wp2
        (refine wp_region_text (by kernel_rfl) (by kernel_rfl) ?_)
        go_wp2_with (at_builtin; refine append_has (W := w) (size := 1) (bytes := 24) (z := .slice none 0 0) (e := 25) (n := i) (xs := vs.reverse.take i) (news := [.slice ra rn rc]) rfl rfl Try.underlying22 (by kernel_rfl) rfl (by decide) rfl rfl (HH.out.step (by (repeat first | exact Fr.refl _ _ | assumption | apply Fr.n | apply Fr.d | apply Fr.a | refine Fr.s ?_ (.inr (by simp; try omega)) _))) (by (repeat first | rw [if_pos (by omega)] | rw [if_neg (by omega)] | rw [hp_drew] | rw [hp_drewN] | rw [hp_alloc_size] | rw [hp_setCell_size] | rw [hp_alloc] | rw [hp_setCell] | rw [oMS] | rw [upd_cells] | rw [lSZ] | rw [lSS] | rfl)) rfl (by simp [Value.oneCell']) HLL.out.1 HLL.out.2 ?_)
        intro g2 cap2 w5 h5 hf5 hg5
        rw [← HNX.out] at h5
        clear x0 x1 xz1 xl v0 v1 vl
        have hb := (h5.bring 1).blk
        have x0 : _ = some _ := heap_eq_cell hb 0
        have x1 : _ = some _ := heap_eq_cell hb 1
        have xz1 := heap_eq_frozen hb 1
        have xl := lt_of_block hb
        have H5 := Lib.hid h5
        clear h5 hb hf5 hg5 HH hgl hc HNX
        go_wp2
        refine Strict.intro rfl ?_
        go_wp2
        go_roundg (n - (i + 1))
        case measure => omega
        case rel => exact ⟨i + 1, some ⟨g2, 0, none⟩, cap2, hin, Nat.le_refl _, by simp, Lib.hid ((((H5.out.bring 1).blkSet 1 (.slice (some ⟨g2, 0, none⟩) (i + 1) cap2)).ord 2 [1, 0]).step (by (repeat first | exact Fr.refl _ _ | assumption | apply Fr.n | apply Fr.d | apply Fr.a | refine Fr.s ?_ (.inr (by simp; try omega)) _)))⟩
      · obtain rfl : i = n := by omega
        have h5 := HH.out
        rw [List.take_of_length_le (by rw [List.length_reverse, HVL.out.1, HN.out.1]; exact Nat.le_refl _)] at h5
        have H5 := Lib.hid h5
        clear h5
        go_wp2
        go_loopg [90] m (fun gg z wr2 => ∃ (j : Nat) (va : Option Addr) (vc : Nat), j ≤ m ∧ m - j ≤ gg ∧ z = .int .i64 (j : Int) ∧ Hid (Has w wr2 (Hp.row 25 1 (.slice va (i + j) vc) (i + j) (vs.reverse ++ pvs.take j) :: Hp.blk w3.heap.size (.cells #[.int .i64 V, .slice va (i + j) vc] 24 (0, 0)) :: [Hp.blk fb (.cells #[.int .i64 V, .slice a i c] 24 (0, 0))])))
        case atStart => exact ⟨0, va, vc, Nat.zero_le _, by omega, rfl, Lib.hid (by rw [List.take_zero, List.append_nil]; exact H5.out.step (by (repeat first | exact Fr.refl _ _ | assumption | apply Fr.n | apply Fr.d | apply Fr.a | refine Fr.s ?_ (.inr (by simp; try omega)) _)))⟩
        case round =>
          obtain ⟨j, va2, vc2, hj, hgj, rfl, HX⟩ := hrel
          clear HH H5 v0 v1 vl x0 x1 xz1 xl
          have hb := (HX.out.bring 1).blk
          have x0 : _ = some _ := heap_eq_cell hb 0
          have x1 : _ = some _ := heap_eq_cell hb 1
          have xz1 := heap_eq_frozen hb 1
          have xl := lt_of_block hb
          by_cases hjm : j < m
          · obtain ⟨ra, rn, rc, g, off, rfl, hgl, hc, hvk⟩ := HPH.out.rowV HX.out (fun P hP => by simp at hP) (i := j) (by rw [HN.out.2.1]; omega)
            have hnx : pvs.take (j + 1) = pvs.take j ++ [.slice ra rn rc] := by rw [List.take_add_one, hvk]; rfl
            have HNX := Lib.hid hnx
            have hmaxl : (1000001 : Nat) ≤ maxLen := by decide
            have HLL := Lib.hid (show i + j + 1 ≤ maxLen ∧ (i + j + 1) * 24 ≤ 140737488355328 from by omega)
            clear hvk hmaxl hnx hb
            go_wp2
            (refine wp_region_text (by kernel_rfl) (by kernel_rfl) ?_)
            go_wp2_with (at_builtin; refine append_has (W := w) (size := 1) (bytes := 24) (z := .slice none 0 0) (e := 25) (n := i + j) (xs := vs.reverse ++ pvs.take j) (news := [.slice ra rn rc]) rfl rfl Try.underlying22 (by kernel_rfl) rfl (by decide) rfl rfl (HX.out.step (by (repeat first | exact Fr.refl _ _ | assumption | apply Fr.n | apply Fr.d | apply Fr.a | refine Fr.s ?_ (.inr (by simp; try omega)) _))) (by (repeat first | rw [if_pos (by omega)] | rw [if_neg (by omega)] | rw [hp_drew] | rw [hp_drewN] | rw [hp_alloc_size] | rw [hp_setCell_size] | rw [hp_alloc] | rw [hp_setCell] | rw [oMS] | rw [upd_cells] | rw [lSZ] | rw [lSS] | rfl)) rfl (by simp [Value.oneCell']) HLL.out.1 HLL.out.2 ?_)
            intro g2 cap2 w5 h5 hf5 hg5
            rw [← HNX.out] at h5
            clear x0 x1 xz1 xl
            have hb := (h5.bring 1).blk
            have x0 : _ = some _ := heap_eq_cell hb 0
            have x1 : _ = some _ := heap_eq_cell hb 1
            have xz1 := heap_eq_frozen hb 1
            have xl := lt_of_block hb
            have H5 := Lib.hid h5
            clear h5 hb hf5 hg5 HX hgl hc HNX
            go_wp2
            refine Strict.intro rfl ?_
            go_wp2
            go_roundg (m - (j + 1))
            case measure => omega
            case rel => exact ⟨j + 1, some ⟨g2, 0, none⟩, cap2, hjm, Nat.le_refl _, by simp, Lib.hid ((((H5.out.bring 1).blkSet 1 (.slice (some ⟨g2, 0, none⟩) (i + j + 1) cap2)).ord 2 [1, 0]).step (by (repeat first | exact Fr.refl _ _ | assumption | apply Fr.n | apply Fr.d | apply Fr.a | refine Fr.s ?_ (.inr (by simp; try omega)) _)))⟩
          · obtain rfl : j = m := by omega
            have h6 := HX.out
            rw [List.take_of_length_le (by rw [HVL.out.2, HN.out.2.1]; exact Nat.le_refl _)] at h6
            have hmf := (HFH.out.turned HPH.out HVL.out.1 (va := va2) (vc := vc2) (n := i + j) (by rw [HN.out.1, HN.out.2.1]) (by omega)).more (Rs := Hp.row 25 1 (.slice va2 (i + j) vc2) (i + j) (vs.reverse ++ pvs) :: Hp.blk w3.heap.size (.cells #[.int .i64 V, .slice va2 (i + j) vc2] 24 (0, 0)) :: [Hp.blk fb (.cells #[.int .i64 V, .slice a i c] 24 (0, 0))]) (fun P hP => by simp at hP; simp [hP])
            have hml : (cs.reverse ++ p).length = i + j := by rw [List.length_append, List.length_reverse, HN.out.1, HN.out.2.1]
            have HCK := Lib.hid (fun w' (hf : Fr [] wr w') => Check_calls (V := V) (h6.step hf) hmf (HPH.out.more fun P hP => by simp at hP) (fun r hr => by
              rcases List.mem_append.1 hr with hr | hr
              · exact HC20.out.1 r (List.mem_reverse.1 hr)
              · exact HC20.out.2 r hr) HC20.out.2)
            rw [hml, HN.out.2.1] at HCK
            have H6 := Lib.hid h6
            clear h6 hmf hml HX hb
            go_wp2_with fail
            refine (HCK.out _ (by (repeat first | exact Fr.refl _ _ | assumption | apply Fr.n | apply Fr.d | apply Fr.a | refine Fr.s ?_ (.inr (by simp; try omega)) _))).mono ?_
            rintro e w7 ⟨rfl, h7⟩
            have hv2 := more_valid HVAL.out.1 HLE.out.1 HLE.out.2
            have ha2 := accB_num (more_acc HVAL.out.2)
            have HE := Lib.hid (show chkNV V (cs.reverse ++ p) p = j ∧ chkEV V (cs.reverse ++ p) p = 0 from by unfold chkNV chkEV; rw [hv2, ← HN.out.2.1]; exact ha2)
            rw [HE.out.1, HE.out.2]
            have H7 := Lib.hid h7
            clear h7 hv2 ha2 HCK x0 x1 xz1 xl
            by_cases hG : G = 0
            · subst hG
              go_wp2_with fail
              refine (HAW.out _).mono ?_
              rintro e w9 ⟨rfl, hf9⟩
              have HF9 := Lib.hid hf9
              clear hf9
              go_wp2
              go_ret
              exact ⟨rfl, H7.out.fr.trans0 HF9.out⟩
            · have bg : (G != 0) = true := by simpa using hG
              go_wp2_with fail
              refine (HAW.out _).mono ?_
              rintro e w9 ⟨rfl, hf9⟩
              have HF9 := Lib.hid hf9
              clear hf9
              go_wp2
              go_ret
              exact ⟨rfl, H7.out.fr.trans0 HF9.out⟩
end Go.Proofs.Ytbpaadpocihahaa
end
