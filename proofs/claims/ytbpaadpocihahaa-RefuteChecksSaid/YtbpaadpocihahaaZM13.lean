/- Own texts of this claim, part 14: no condition. -/
import Derived.Test.YtbpaadpocihahaaZM12
set_option linter.unusedVariables false
set_option linter.unusedSimpArgs false
section
/- refute: the search for a refutation, walked. -/
namespace Go.Proofs.Ytbpaadpocihahaa
open Go Go.RowKit Go.Proofs.Rg Go.Proofs.Mp Go.Proofs.Hp Go.Proofs.Sv Go.Proofs.Rp
set_option linter.unusedVariables false
set_option linter.unusedSimpArgs false
/-- what was gathered before the case number k of a decision -/
def Stage (V : Nat) (F : List (List Int)) (PV PV' : List (Value × List Int)) (D : List Int) (v : Int) (m k : Nat) : Prop :=
  (k = 0 ∧ PV' = PV) ∨ (k = 1 ∧ ∃ L1, PV' = PV ++ L1 ∧ Adds F (PV.map (·.2)) (D ++ [-v]) m (L1.map (·.2)) ∧ LitsLV V L1) ∨
  (k = 2 ∧ ∃ L1 L2, PV' = PV ++ L1 ++ L2 ∧ Adds F (PV.map (·.2)) (D ++ [-v]) m (L1.map (·.2)) ∧ Adds F ((PV ++ L1).map (·.2)) (D ++ [v]) m (L2.map (·.2)) ∧ LitsLV V L1 ∧ LitsLV V L2)
theorem Stage.room {V : Nat} {F : List (List Int)} {PV PV' : List (Value × List Int)} {D : List Int} {v : Int} {m k : Nat} (h : Stage V F PV PV' D v m k) (hr : PV.length + 2 ^ (m + 1 + 1) ≤ 262144) : (k ≤ 1 → PV'.length + 2 ^ (m + 1) ≤ 262144) ∧ PV'.length < 262144 := by
  have hp : 2 ^ (m + 1 + 1) = 2 * 2 ^ (m + 1) := by rw [Nat.pow_succ]; omega
  have h1 : 1 ≤ 2 ^ (m + 1) := Nat.one_le_two_pow
  rcases h with ⟨rfl, rfl⟩ | ⟨rfl, L1, rfl, a, _⟩ | ⟨rfl, L1, L2, rfl, a, b, _⟩
  · exact ⟨fun _ => by omega, by omega⟩
  · have := a.len
    rw [List.length_map] at this
    rw [List.length_append]
    exact ⟨fun _ => by omega, by omega⟩
  · have ha := a.len
    have hb := b.len
    rw [List.length_map] at ha hb
    rw [List.length_append, List.length_append]
    exact ⟨fun h => by omega, by omega⟩
theorem Stage.end {V : Nat} {F : List (List Int)} {PV PV' : List (Value × List Int)} {D : List Int} {v : Int} {m : Nat} (h : Stage V F PV PV' D v m 2) (u : Value) (hl : LitsLV V [(u, neg D)]) :
    ∃ LV, PV' ++ [(u, neg D)] = PV ++ LV ∧ Adds F (PV.map (·.2)) D (m + 1) (LV.map (·.2)) ∧ LitsLV V LV := by
  rcases h with ⟨h, _⟩ | ⟨h, _⟩ | ⟨_, L1, L2, rfl, a, b, c, d⟩
  · cases h
  · cases h
  · refine ⟨L1 ++ L2 ++ [(u, neg D)], by simp, ?_, (c.app d).app hl⟩
    rw [List.map_append, List.map_append]
    rw [List.map_append] at b
    have := Adds.join (x := -v) a (by rw [Int.neg_neg]; exact b)
    exact this
theorem Stage.one {V : Nat} {F : List (List Int)} {PV PV' : List (Value × List Int)} {D : List Int} {v : Int} {m : Nat} (h : Stage V F PV PV' D v m 0) {LV : List (Value × List Int)} (a : Adds F (PV'.map (·.2)) (D ++ [-v]) m (LV.map (·.2)) ∧ LitsLV V LV) : Stage V F PV (PV' ++ LV) D v m (0 + 1) := by
  rcases h with ⟨_, rfl⟩ | ⟨h, _⟩ | ⟨h, _⟩
  · exact .inr (.inl ⟨rfl, LV, rfl, a⟩)
  · cases h
  · cases h
theorem Stage.two {V : Nat} {F : List (List Int)} {PV PV' : List (Value × List Int)} {D : List Int} {v : Int} {m : Nat} (h : Stage V F PV PV' D v m 1) {LV : List (Value × List Int)} (a : Adds F (PV'.map (·.2)) (D ++ [v]) m (LV.map (·.2)) ∧ LitsLV V LV) : Stage V F PV (PV' ++ LV) D v m (1 + 1) := by
  rcases h with ⟨h, _⟩ | ⟨_, L1, rfl, b, c⟩ | ⟨h, _⟩
  · cases h
  · exact .inr (.inr ⟨rfl, L1, LV, rfl, b, a.1, c, a.2⟩)
  · cases h
theorem IntsSrc.row {W : World} {Ps : List Res} {a : Option Addr} {c : Nat} {l : List Int} (hm : Hp.row 3 1 (.slice a l.length c) l.length (iv l) ∈ Ps) : IntsSrc W Ps a c l := fun w Qs hw hP => by
  obtain ⟨Q, h⟩ := has_mem hw (hP _ hm)
  exact h.rowReads
theorem run_pair0 (w : World) (x y : Int) : (Instr.index 82 (.agg #[.int .i64 x, .int .i64 y]) (.int .i64 0)).run Try.prog w = .ok (.int .i64 x) w := by
  simp [Instr.index, Sem.run_bind, run_underlying, Try.underlying82, part, go_sem, asAgg, isAgg, Try.underlying3]
theorem run_pair1 (w : World) (x y : Int) : (Instr.index 82 (.agg #[.int .i64 x, .int .i64 y]) (.int .i64 1)).run Try.prog w = .ok (.int .i64 y) w := by
  simp [Instr.index, Sem.run_bind, run_underlying, Try.underlying82, part, go_sem, asAgg, isAgg, Try.underlying3]
set_option maxHeartbeats 16000000 in
set_option maxRecDepth 100000 in
theorem search_step {W : World} {V : Nat} {F : List (List Int)} {us : List Int} {b g m : Nat} (hV : V ≤ 65536) (hF : F.length ≤ 900000 ∧ ∀ c ∈ F, c.length ≤ 1000000) (IHm : ∀ k, m = k + 1 → SearchAt W V F us b g k) : SearchAt W V F us b g m := by
  intro w Ps CV L PV pv D tr Cs da dc h hI hm hroom hD
  have H0 := Lib.hid h
  have HSI0 := Lib.hid hI
  have HMM0 := Lib.hid hm
  have HRM0 := Lib.hid hroom
  have HD := Lib.hid hD
  have HSZ := Lib.hid hF
  have HIH := Lib.hid IHm
  have htl := tr_len hI.core.htr
  have hdn : D.length ≤ V := by have := hI.dlen; omega
  obtain ⟨n, hn⟩ : ∃ n, D.length = n := ⟨_, rfl⟩
  rw [hn] at hdn ⊢
  have HN := Lib.hid hn
  clear h hI hm hroom hD hF IHm hn
  go_enter Try.func40, Try.ntmps40
  go_wp2
  go_loopg [5] (V + 1) (fun gg z wr => ∃ u : Nat, 1 ≤ u ∧ u ≤ V + 1 ∧ V + 1 - u ≤ gg ∧ z = .int .i64 (u : Int) ∧ Hid (∀ t, 1 ≤ t → t < u → vof tr t ≠ 0) ∧ Hid (Has W wr (engR g V CV L tr tr.length us false :: (provL b g pv PV ++ Ps))))
  case atStart => exact ⟨1, Nat.le_refl _, by omega, by omega, rfl, Lib.hid (fun t h1 h2 => by omega), Lib.hid (H0.out.step (by (repeat first | exact Fr.refl _ _ | assumption | apply Fr.n | apply Fr.d | apply Fr.a | refine Fr.s ?_ (.inr (by simp; try omega)) _)))⟩
  case round =>
    obtain ⟨u, hu1, huV, hgg, rfl, HU, HH⟩ := hrel
    clear H0
    have hb := (HH.out.bring 1).blk
    have p0 : _ = some _ := heap_eq_cell hb 0
    have pl := lt_of_block hb
    obtain ⟨mb, cv, uv, vv, tv, ho⟩ := eng_open HH.out
    simp only [engL, List.cons_append, List.nil_append] at ho
    have hbe := ho.blk
    obtain ⟨ta, tc, rfl, _, _⟩ := owns_form2 (ho.bring 6).row
    obtain ⟨gv0, capv, rfl, hgv, _⟩ := owns_form (ho.bring 5).row
    obtain ⟨gv, rfl⟩ := hgv (by omega)
    have c4 : _ = some _ := heap_eq_cell hbe 4
    have c5 : _ = some _ := heap_eq_cell hbe 5
    have cl := lt_of_block hbe
    have hrv := (ho.bring 5).row
    have hvl := owns_lt hrv rfl
    clear hb hbe hgv
    by_cases huv : u ≤ V
    · have cu := owns_cell hrv rfl (vals_get (tr := tr) huv)
      obtain ⟨y, hy⟩ : ∃ y, vof tr u = y := ⟨_, rfl⟩
      have HY := Lib.hid hy
      rw [hy] at cu
      have hlt : u < V + 1 := by omega
      clear ho hrv hy
      by_cases hy0 : y = 0
      · subst hy0
        obtain ⟨nv1, nv2⟩ := vof_zero.1 HY.out
        have HNV := Lib.hid (And.intro nv1 nv2)
        have hop : 1 ≤ openV V tr := by
          have := openV_lt (V := V) (tr := tr) (tr' := tr ++ [(u : Int)]) (fun y hy => by simp [hy]) hu1 huv ⟨nv1, nv2⟩ (.inl (by simp))
          omega
        obtain ⟨k0, rfl⟩ : ∃ k0, m = k0 + 1 := ⟨m - 1, by have := HMM0.out; omega⟩
        have IH := Lib.hid (HIH.out k0 rfl)
        have HMM := HMM0
        have HRM := HRM0
        have hne : ((u : Int) == ((V + 1 : Nat) : Int)) = false := by simp; omega
        have hw1 : IntKind.i64.wrap (-(u : Int)) = -(u : Int) := IntWalk.i64_in _ (by omega)
        clear nv1 nv2 hop
        go_wp2
        clear p0 pl c4 c5 cl cu hvl hlt
        go_loopg [58] 2 (fun gg z wr => ∃ (k : Nat) (CV' : List (Value × List Int)) (L' : List (Int × (Value × List Nat))) (PV' : List (Value × List Int)) (pv' : Value), k ≤ 2 ∧ 2 - k ≤ gg ∧ z = .int .i64 (k : Int) ∧ Hid (SI V F us Cs (CV'.map (·.2)) (wl L') D tr) ∧ Hid (Stage V F PV PV' D (u : Int) k0 k) ∧ Hid (Has W wr (engR g V CV' L' tr tr.length us false :: (provL b g pv' PV' ++ Ps))))
        case atStart => exact ⟨0, CV, L, PV, pv, by omega, by omega, rfl, HSI0, Lib.hid (.inl ⟨rfl, rfl⟩), Lib.hid (HH.out.step (by (repeat first | exact Fr.refl _ _ | assumption | apply Fr.n | apply Fr.d | apply Fr.a | refine Fr.s ?_ (.inr (by simp; try omega)) _)))⟩
        case round =>
          clear HH HSI0
          obtain ⟨k, CV', L', PV', pv', hk, hgg2, rfl, HSI, HSG, HH⟩ := hrel
          obtain rfl | rfl | rfl : k = 0 ∨ k = 1 ∨ k = 2 := by omega
          ·
            obtain ⟨hrm1, hrm2⟩ := HSG.out.room HRM.out
            have HRO := Lib.hid (And.intro hrm1 hrm2)
            have hb := (HH.out.bring 1).blk
            have p0 : _ = some _ := heap_eq_cell hb 0
            have pl := lt_of_block hb
            have hia := HD.out _ _ HH.out (fun P hP => by simp [provL, hP])
            have HCL := Lib.hid (Clone_h HH.out (xs := iv D) hia (iv_one D) (by rw [HN.out]; omega))
            rw [HN.out] at HCL
            have hxx : (-(u : Int)) ≠ 0 ∧ ((-(u : Int))).natAbs ≤ V := by omega
            have HXX := Lib.hid hxx
            have hpr0 := fun w => run_pair0 w (-(u : Int)) (u : Int)
            have hpr1 := fun w => run_pair1 w (-(u : Int)) (u : Int)
            clear hb hia hrm1 hrm2 hxx
            go_wp2_with fail
            refine HCL.out.mono ?_
            rintro e w2 ⟨v2, rfl, h2⟩
            obtain ⟨ma, mc, rfl, _, _⟩ := owns_form2 h2.row
            have H2 := Lib.hid h2
            have hmaxl : (1000001 : Nat) ≤ maxLen := by decide
            have HLL := Lib.hid (show n + 1 ≤ maxLen ∧ (n + 1) * 8 ≤ 140737488355328 from by omega)
            clear h2 HCL hmaxl p0 pl hpr0 hpr1
            go_wp2_with (at_builtin; refine append_has (W := W) (size := 1) (bytes := 8) (z := .int .i64 0) (e := 3) (n := n) (xs := iv D) (news := [.int .i64 ((-(u : Int)))]) rfl rfl Try.underlying25 (by kernel_rfl) rfl (by decide) rfl rfl (H2.out.step (by (repeat first | exact Fr.refl _ _ | assumption | apply Fr.n | apply Fr.d | apply Fr.a | refine Fr.s ?_ (.inr (by simp; try omega)) _))) (by (repeat first | rw [if_pos (by omega)] | rw [if_neg (by omega)] | rw [hp_drew] | rw [hp_drewN] | rw [hp_alloc_size] | rw [hp_setCell_size] | rw [hp_alloc] | rw [hp_setCell] | rw [oMS] | rw [upd_cells] | rw [lSZ] | rw [lSS] | rfl)) rfl (by simp [Value.oneCell']) HLL.out.1 HLL.out.2 ?_)
            intro g3 cap3 w3 h3 hf3 hg3
            rw [show iv D ++ [Value.int .i64 ((-(u : Int)))] = iv (D ++ [(-(u : Int))]) from by simp [iv]] at h3
            have hdl : (D ++ [(-(u : Int))]).length = n + 1 := by rw [List.length_append, HN.out]; rfl
            rw [← hdl] at h3
            have H3 := Lib.hid (show Has W w3 (engR g V CV' L' tr tr.length us false :: (provL b g pv' PV' ++ (Hp.row 3 1 (.slice (some ⟨g3, 0, none⟩) (D ++ [(-(u : Int))]).length cap3) (D ++ [(-(u : Int))]).length (iv (D ++ [(-(u : Int))])) :: Ps))) from h3.sink 4)
            have HDL := Lib.hid hdl
            clear h3 hf3 hg3 H2 HH hdl
            have hb := (H3.out.bring 1).blk
            have p0 : _ = some _ := heap_eq_cell hb 0
            have pl := lt_of_block hb
            clear hb
            go_wp2_with fail
            have HSE := Lib.hid (fun w' (hf : Fr [] w3 w') => set_calls (H3.out.step hf) HSI.out.core.htr hV HXX.out.1 HXX.out.2)
            have HN12 := Lib.hid (show ((-(u : Int))) ∉ tr ∧ -((-(u : Int))) ∉ tr from ⟨HNV.out.2, (by rw [Int.neg_neg]; exact HNV.out.1)⟩)
            have hsf := setF_new HN12.out.1 HN12.out.2
            rw [hsf] at HSE
            clear hsf
            refine (HSE.out _ (by (repeat first | exact Fr.refl _ _ | assumption | apply Fr.n | apply Fr.d | apply Fr.a | refine Fr.s ?_ (.inr (by simp; try omega)) _))).mono ?_
            rintro e w4 ⟨rfl, h4⟩
            have H4 := Lib.hid h4
            have hcs := HSI.out.set HXX.out HN12.out.1 HN12.out.2
            have HPR := Lib.hid (fun w' (hf : Fr [] w4 w') => propagate_calls (H4.out.step hf) hV hcs (by simp) (Der.closed _ _) ⟨Nat.le_trans (bigs_len F) HSZ.out.1, bigs_clen HSZ.out.2⟩)
            clear h4 HSE p0 pl hcs H3
            have hb := (H4.out.bring 1).blk
            have p0 : _ = some _ := heap_eq_cell hb 0
            have pl := lt_of_block hb
            clear hb
            go_wp2_with fail
            refine (HPR.out _ (by (repeat first | exact Fr.refl _ _ | assumption | apply Fr.n | apply Fr.d | apply Fr.a | refine Fr.s ?_ (.inr (by simp; try omega)) _))).mono ?_
            rintro e w5 ⟨ok, CV5, L5, tr5, dn5, rfl, h5, hpre, hyes, hno⟩
            have HPRE := Lib.hid hpre
            clear HPR p0 pl H4
            cases ok with
            | true =>
              obtain ⟨hco, rfl⟩ := hyes rfl
              obtain ⟨hsi, hlt⟩ := HSI.out.deep HXX.out HN12.out.1 HN12.out.2 hpre hco
              have HSI5 := Lib.hid hsi
              have H5 := Lib.hid h5
              have HSR := Lib.hid (fun w' (hf : Fr [] w5 w') => IH.out (H5.out.step hf) HSI5.out (by have := HMM.out; omega) (HRO.out.1 (by omega)) (da := some ⟨g3, 0, none⟩) (dc := cap3) (IntsSrc.row (by simp)))
              rw [HDL.out] at HSR
              clear h5 hyes hno hpre hco hsi hlt
              go_wp2_with fail
              refine (HSR.out _ (by (repeat first | exact Fr.refl _ _ | assumption | apply Fr.n | apply Fr.d | apply Fr.a | refine Fr.s ?_ (.inr (by simp; try omega)) _))).mono ?_
              rintro e w6 ⟨r, CV6, L6, PV6, pv6, rfl, h6, hsi6, hres⟩
              have H6 := Lib.hid h6
              have HSI6 := Lib.hid hsi6
              have HRES := Lib.hid hres
              have hb := (h6.bring 1).blk
              have p0 : _ = some _ := heap_eq_cell hb 0
              have pl := lt_of_block hb
              have hlen := HPRE.out.length_le
              have HUN := Lib.hid (fun w' (hf : Fr [] w6 w') => undo_calls (n := tr.length) (H6.out.step hf) HSI6.out.core.htr hV (by simp at hlen; omega))
              have htk : tr5.take tr.length = tr := by
                have := List.prefix_iff_eq_take.1 ((List.prefix_append tr [(-(u : Int))]).trans HPRE.out)
                exact this.symm
              rw [htk] at HUN
              have HBK := Lib.hid (HSI.out.back HSI6.out.core.hcl HSI6.out.core.hwt HSI6.out.core.hperm HSI6.out.core.hcks)
              clear h6 hsi6 hres hb HSR H5 hlen htk
              go_wp2_with fail
              refine (HUN.out _ (by (repeat first | exact Fr.refl _ _ | assumption | apply Fr.n | apply Fr.d | apply Fr.a | refine Fr.s ?_ (.inr (by simp; try omega)) _))).mono ?_
              rintro e w7 ⟨rfl, h7⟩
              have h8 : Has W w7 (engR g V CV6 L6 tr tr.length us false :: (provL b g pv6 PV6 ++ Ps)) := (h7.ord 5 [0, 1, 2, 3])
              have H8 := Lib.hid h8
              clear h7 h8 HUN H6 p0 pl
              rcases HRES.out with ⟨rfl, LV, rfl, ha, hlv⟩ | ⟨rfl, hsat⟩
              · have HST := Lib.hid (HSG.out.one (And.intro ha hlv))
                clear ha hlv HRES
                go_wp2
                go_roundg (2 - (0 + 1))
                case measure => omega
                case rel => exact ⟨0 + 1, CV6, L6, _, pv6, by omega, Nat.le_refl _, by simp, HBK, HST, Lib.hid (H8.out.step (by (repeat first | exact Fr.refl _ _ | assumption | apply Fr.n | apply Fr.d | apply Fr.a | refine Fr.s ?_ (.inr (by simp; try omega)) _)))⟩
              · have HSAT := Lib.hid hsat
                clear hsat HRES
                go_wp2
                go_ret
                exact ⟨1, CV6, L6, PV6, pv6, rfl, H8.out.step (by (repeat first | exact Fr.refl _ _ | assumption | apply Fr.n | apply Fr.d | apply Fr.a | refine Fr.s ?_ (.inr (by simp; try omega)) _)), HBK.out, .inr ⟨rfl, HSAT.out⟩⟩
            | false =>
              have hco := hno rfl
              have HCF := Lib.hid (HSI.out.clash hco)
              have HBK := Lib.hid (HSI.out.back hco.hcl hco.hwt hco.hperm hco.hcks)
              have HTR := Lib.hid hco.htr
              have H5 := Lib.hid (h5.ord 5 [1, 2, 3, 4, 0])
              have HLT := Lib.hid (show LitsLV V [(Value.bool false, neg (D ++ [(-(u : Int))]))] from by
                intro q hq
                simp at hq
                rw [hq]
                have hlt : openV V (tr ++ [(-(u : Int))]) < openV V tr := by
                  refine openV_lt (fun y hy => by simp [hy]) (v := ((-(u : Int))).natAbs) (by have := HXX.out; omega) HXX.out.2 ?_ ?_ <;> rcases Int.natAbs_eq ((-(u : Int))) with e | e
                  · rw [← e]; exact HN12.out
                  · have e2 : ((((-(u : Int))).natAbs : Nat) : Int) = -((-(u : Int))) := by omega
                    rw [e2, Int.neg_neg ((-(u : Int)))]; exact HN12.out.symm
                  · rw [← e]; exact .inl (by simp)
                  · have e2 : ((((-(u : Int))).natAbs : Nat) : Int) = -((-(u : Int))) := by omega
                    rw [e2, Int.neg_neg ((-(u : Int)))]; exact .inr (by simp)
                refine ⟨by rw [neg_length, HDL.out]; have := HSI.out.dlen; have := HN.out; omega, neg_V fun y hy => ?_⟩
                rcases List.mem_append.1 hy with hy | hy
                · exact HSI.out.core.htr.1 y (HSI.out.dT y hy)
                · simp at hy; rw [hy]; exact HXX.out)
              have HEX := Lib.hid (fun w' (hf : Fr [] w5 w') => exclude_calls (b := b) (g := g) (pv := pv') (PV := PV') (H5.out.step hf) (D := D ++ [(-(u : Int))]) (da := some ⟨g3, 0, none⟩) (dc := cap3) (IntsSrc.row (by simp)) (by rw [HDL.out]; omega) (fun y hy => by
                rcases List.mem_append.1 hy with hy | hy
                · have := HSI.out.core.htr.1 y (HSI.out.dT y hy); omega
                · simp at hy; rw [hy]; have := HXX.out; omega) HRO.out.2)
              rw [HDL.out] at HEX
              clear h5 hyes hno hpre hco
              go_wp2_with fail
              refine (HEX.out _ (by (repeat first | exact Fr.refl _ _ | assumption | apply Fr.n | apply Fr.d | apply Fr.a | refine Fr.s ?_ (.inr (by simp; try omega)) _))).mono ?_
              rintro e w6 ⟨pv6, u6, rfl, h6⟩
              have h6 := h6.ord 5 [4, 0, 1, 2, 3]
              have hb := (h6.bring 1).blk
              have p0 : _ = some _ := heap_eq_cell hb 0
              have pl := lt_of_block hb
              have H6 := Lib.hid h6
              have hlen := HPRE.out.length_le
              have HUN := Lib.hid (fun w' (hf : Fr [] w6 w') => undo_calls (n := tr.length) (H6.out.step hf) HTR.out hV (by simp at hlen; omega))
              have htk : tr5.take tr.length = tr := by
                have := List.prefix_iff_eq_take.1 ((List.prefix_append tr [(-(u : Int))]).trans HPRE.out)
                exact this.symm
              rw [htk] at HUN
              clear h6 hb HEX H5 hlen htk
              go_wp2_with fail
              refine (HUN.out _ (by (repeat first | exact Fr.refl _ _ | assumption | apply Fr.n | apply Fr.d | apply Fr.a | refine Fr.s ?_ (.inr (by simp; try omega)) _))).mono ?_
              rintro e w7 ⟨rfl, h7⟩
              have h8 : Has W w7 (engR g V CV5 L5 tr tr.length us false :: (provL b g pv6 (PV' ++ [(u6, neg (D ++ [(-(u : Int))]))]) ++ Ps)) := h7.ord 5 [0, 1, 2, 3]
              have H8 := Lib.hid h8
              have HST := Lib.hid (HSG.out.one (LV := [(u6, neg (D ++ [(-(u : Int))]))]) (And.intro (Adds.leaf HCF.out) (fun q hq => by
                simp at hq
                have := HLT.out (Value.bool false, neg (D ++ [(-(u : Int))])) (by simp)
                rw [hq]; exact this)))
              clear h7 h8 HUN H6 p0 pl
              go_wp2
              go_roundg (2 - (0 + 1))
              case measure => omega
              case rel => exact ⟨0 + 1, CV5, L5, _, pv6, by omega, Nat.le_refl _, by simp, HBK, HST, Lib.hid (H8.out.step (by (repeat first | exact Fr.refl _ _ | assumption | apply Fr.n | apply Fr.d | apply Fr.a | refine Fr.s ?_ (.inr (by simp; try omega)) _)))⟩
          ·
            obtain ⟨hrm1, hrm2⟩ := HSG.out.room HRM.out
            have HRO := Lib.hid (And.intro hrm1 hrm2)
            have hb := (HH.out.bring 1).blk
            have p0 : _ = some _ := heap_eq_cell hb 0
            have pl := lt_of_block hb
            have hia := HD.out _ _ HH.out (fun P hP => by simp [provL, hP])
            have HCL := Lib.hid (Clone_h HH.out (xs := iv D) hia (iv_one D) (by rw [HN.out]; omega))
            rw [HN.out] at HCL
            have hxx : (u : Int) ≠ 0 ∧ ((u : Int)).natAbs ≤ V := by omega
            have HXX := Lib.hid hxx
            have hpr0 := fun w => run_pair0 w (-(u : Int)) (u : Int)
            have hpr1 := fun w => run_pair1 w (-(u : Int)) (u : Int)
            clear hb hia hrm1 hrm2 hxx
            go_wp2_with fail
            refine HCL.out.mono ?_
            rintro e w2 ⟨v2, rfl, h2⟩
            obtain ⟨ma, mc, rfl, _, _⟩ := owns_form2 h2.row
            have H2 := Lib.hid h2
            have hmaxl : (1000001 : Nat) ≤ maxLen := by decide
            have HLL := Lib.hid (show n + 1 ≤ maxLen ∧ (n + 1) * 8 ≤ 140737488355328 from by omega)
            clear h2 HCL hmaxl p0 pl hpr0 hpr1
            go_wp2_with (at_builtin; refine append_has (W := W) (size := 1) (bytes := 8) (z := .int .i64 0) (e := 3) (n := n) (xs := iv D) (news := [.int .i64 ((u : Int))]) rfl rfl Try.underlying25 (by kernel_rfl) rfl (by decide) rfl rfl (H2.out.step (by (repeat first | exact Fr.refl _ _ | assumption | apply Fr.n | apply Fr.d | apply Fr.a | refine Fr.s ?_ (.inr (by simp; try omega)) _))) (by (repeat first | rw [if_pos (by omega)] | rw [if_neg (by omega)] | rw [hp_drew] | rw [hp_drewN] | rw [hp_alloc_size] | rw [hp_setCell_size] | rw [hp_alloc] | rw [hp_setCell] | rw [oMS] | rw [upd_cells] | rw [lSZ] | rw [lSS] | rfl)) rfl (by simp [Value.oneCell']) HLL.out.1 HLL.out.2 ?_)
            intro g3 cap3 w3 h3 hf3 hg3
            rw [show iv D ++ [Value.int .i64 ((u : Int))] = iv (D ++ [(u : Int)]) from by simp [iv]] at h3
            have hdl : (D ++ [(u : Int)]).length = n + 1 := by rw [List.length_append, HN.out]; rfl
            rw [← hdl] at h3
            have H3 := Lib.hid (show Has W w3 (engR g V CV' L' tr tr.length us false :: (provL b g pv' PV' ++ (Hp.row 3 1 (.slice (some ⟨g3, 0, none⟩) (D ++ [(u : Int)]).length cap3) (D ++ [(u : Int)]).length (iv (D ++ [(u : Int)])) :: Ps))) from h3.sink 4)
            have HDL := Lib.hid hdl
            clear h3 hf3 hg3 H2 HH hdl
            have hb := (H3.out.bring 1).blk
            have p0 : _ = some _ := heap_eq_cell hb 0
            have pl := lt_of_block hb
            clear hb
            go_wp2_with fail
            have HSE := Lib.hid (fun w' (hf : Fr [] w3 w') => set_calls (H3.out.step hf) HSI.out.core.htr hV HXX.out.1 HXX.out.2)
            have HN12 := Lib.hid (show ((u : Int)) ∉ tr ∧ -((u : Int)) ∉ tr from ⟨HNV.out.1, HNV.out.2⟩)
            have hsf := setF_new HN12.out.1 HN12.out.2
            rw [hsf] at HSE
            clear hsf
            refine (HSE.out _ (by (repeat first | exact Fr.refl _ _ | assumption | apply Fr.n | apply Fr.d | apply Fr.a | refine Fr.s ?_ (.inr (by simp; try omega)) _))).mono ?_
            rintro e w4 ⟨rfl, h4⟩
            have H4 := Lib.hid h4
            have hcs := HSI.out.set HXX.out HN12.out.1 HN12.out.2
            have HPR := Lib.hid (fun w' (hf : Fr [] w4 w') => propagate_calls (H4.out.step hf) hV hcs (by simp) (Der.closed _ _) ⟨Nat.le_trans (bigs_len F) HSZ.out.1, bigs_clen HSZ.out.2⟩)
            clear h4 HSE p0 pl hcs H3
            have hb := (H4.out.bring 1).blk
            have p0 : _ = some _ := heap_eq_cell hb 0
            have pl := lt_of_block hb
            clear hb
            go_wp2_with fail
            refine (HPR.out _ (by (repeat first | exact Fr.refl _ _ | assumption | apply Fr.n | apply Fr.d | apply Fr.a | refine Fr.s ?_ (.inr (by simp; try omega)) _))).mono ?_
            rintro e w5 ⟨ok, CV5, L5, tr5, dn5, rfl, h5, hpre, hyes, hno⟩
            have HPRE := Lib.hid hpre
            clear HPR p0 pl H4
            cases ok with
            | true =>
              obtain ⟨hco, rfl⟩ := hyes rfl
              obtain ⟨hsi, hlt⟩ := HSI.out.deep HXX.out HN12.out.1 HN12.out.2 hpre hco
              have HSI5 := Lib.hid hsi
              have H5 := Lib.hid h5
              have HSR := Lib.hid (fun w' (hf : Fr [] w5 w') => IH.out (H5.out.step hf) HSI5.out (by have := HMM.out; omega) (HRO.out.1 (by omega)) (da := some ⟨g3, 0, none⟩) (dc := cap3) (IntsSrc.row (by simp)))
              rw [HDL.out] at HSR
              clear h5 hyes hno hpre hco hsi hlt
              go_wp2_with fail
              refine (HSR.out _ (by (repeat first | exact Fr.refl _ _ | assumption | apply Fr.n | apply Fr.d | apply Fr.a | refine Fr.s ?_ (.inr (by simp; try omega)) _))).mono ?_
              rintro e w6 ⟨r, CV6, L6, PV6, pv6, rfl, h6, hsi6, hres⟩
              have H6 := Lib.hid h6
              have HSI6 := Lib.hid hsi6
              have HRES := Lib.hid hres
              have hb := (h6.bring 1).blk
              have p0 : _ = some _ := heap_eq_cell hb 0
              have pl := lt_of_block hb
              have hlen := HPRE.out.length_le
              have HUN := Lib.hid (fun w' (hf : Fr [] w6 w') => undo_calls (n := tr.length) (H6.out.step hf) HSI6.out.core.htr hV (by simp at hlen; omega))
              have htk : tr5.take tr.length = tr := by
                have := List.prefix_iff_eq_take.1 ((List.prefix_append tr [(u : Int)]).trans HPRE.out)
                exact this.symm
              rw [htk] at HUN
              have HBK := Lib.hid (HSI.out.back HSI6.out.core.hcl HSI6.out.core.hwt HSI6.out.core.hperm HSI6.out.core.hcks)
              clear h6 hsi6 hres hb HSR H5 hlen htk
              go_wp2_with fail
              refine (HUN.out _ (by (repeat first | exact Fr.refl _ _ | assumption | apply Fr.n | apply Fr.d | apply Fr.a | refine Fr.s ?_ (.inr (by simp; try omega)) _))).mono ?_
              rintro e w7 ⟨rfl, h7⟩
              have h8 : Has W w7 (engR g V CV6 L6 tr tr.length us false :: (provL b g pv6 PV6 ++ Ps)) := (h7.ord 5 [0, 1, 2, 3])
              have H8 := Lib.hid h8
              clear h7 h8 HUN H6 p0 pl
              rcases HRES.out with ⟨rfl, LV, rfl, ha, hlv⟩ | ⟨rfl, hsat⟩
              · have HST := Lib.hid (HSG.out.two (And.intro ha hlv))
                clear ha hlv HRES
                go_wp2
                go_roundg (2 - (1 + 1))
                case measure => omega
                case rel => exact ⟨1 + 1, CV6, L6, _, pv6, by omega, Nat.le_refl _, by simp, HBK, HST, Lib.hid (H8.out.step (by (repeat first | exact Fr.refl _ _ | assumption | apply Fr.n | apply Fr.d | apply Fr.a | refine Fr.s ?_ (.inr (by simp; try omega)) _)))⟩
              · have HSAT := Lib.hid hsat
                clear hsat HRES
                go_wp2
                go_ret
                exact ⟨1, CV6, L6, PV6, pv6, rfl, H8.out.step (by (repeat first | exact Fr.refl _ _ | assumption | apply Fr.n | apply Fr.d | apply Fr.a | refine Fr.s ?_ (.inr (by simp; try omega)) _)), HBK.out, .inr ⟨rfl, HSAT.out⟩⟩
            | false =>
              have hco := hno rfl
              have HCF := Lib.hid (HSI.out.clash hco)
              have HBK := Lib.hid (HSI.out.back hco.hcl hco.hwt hco.hperm hco.hcks)
              have HTR := Lib.hid hco.htr
              have H5 := Lib.hid (h5.ord 5 [1, 2, 3, 4, 0])
              have HLT := Lib.hid (show LitsLV V [(Value.bool false, neg (D ++ [(u : Int)]))] from by
                intro q hq
                simp at hq
                rw [hq]
                have hlt : openV V (tr ++ [(u : Int)]) < openV V tr := by
                  refine openV_lt (fun y hy => by simp [hy]) (v := ((u : Int)).natAbs) (by have := HXX.out; omega) HXX.out.2 ?_ ?_ <;> rcases Int.natAbs_eq ((u : Int)) with e | e
                  · rw [← e]; exact HN12.out
                  · have e2 : ((((u : Int)).natAbs : Nat) : Int) = -((u : Int)) := by omega
                    rw [e2, Int.neg_neg ((u : Int))]; exact HN12.out.symm
                  · rw [← e]; exact .inl (by simp)
                  · have e2 : ((((u : Int)).natAbs : Nat) : Int) = -((u : Int)) := by omega
                    rw [e2, Int.neg_neg ((u : Int))]; exact .inr (by simp)
                refine ⟨by rw [neg_length, HDL.out]; have := HSI.out.dlen; have := HN.out; omega, neg_V fun y hy => ?_⟩
                rcases List.mem_append.1 hy with hy | hy
                · exact HSI.out.core.htr.1 y (HSI.out.dT y hy)
                · simp at hy; rw [hy]; exact HXX.out)
              have HEX := Lib.hid (fun w' (hf : Fr [] w5 w') => exclude_calls (b := b) (g := g) (pv := pv') (PV := PV') (H5.out.step hf) (D := D ++ [(u : Int)]) (da := some ⟨g3, 0, none⟩) (dc := cap3) (IntsSrc.row (by simp)) (by rw [HDL.out]; omega) (fun y hy => by
                rcases List.mem_append.1 hy with hy | hy
                · have := HSI.out.core.htr.1 y (HSI.out.dT y hy); omega
                · simp at hy; rw [hy]; have := HXX.out; omega) HRO.out.2)
              rw [HDL.out] at HEX
              clear h5 hyes hno hpre hco
              go_wp2_with fail
              refine (HEX.out _ (by (repeat first | exact Fr.refl _ _ | assumption | apply Fr.n | apply Fr.d | apply Fr.a | refine Fr.s ?_ (.inr (by simp; try omega)) _))).mono ?_
              rintro e w6 ⟨pv6, u6, rfl, h6⟩
              have h6 := h6.ord 5 [4, 0, 1, 2, 3]
              have hb := (h6.bring 1).blk
              have p0 : _ = some _ := heap_eq_cell hb 0
              have pl := lt_of_block hb
              have H6 := Lib.hid h6
              have hlen := HPRE.out.length_le
              have HUN := Lib.hid (fun w' (hf : Fr [] w6 w') => undo_calls (n := tr.length) (H6.out.step hf) HTR.out hV (by simp at hlen; omega))
              have htk : tr5.take tr.length = tr := by
                have := List.prefix_iff_eq_take.1 ((List.prefix_append tr [(u : Int)]).trans HPRE.out)
                exact this.symm
              rw [htk] at HUN
              clear h6 hb HEX H5 hlen htk
              go_wp2_with fail
              refine (HUN.out _ (by (repeat first | exact Fr.refl _ _ | assumption | apply Fr.n | apply Fr.d | apply Fr.a | refine Fr.s ?_ (.inr (by simp; try omega)) _))).mono ?_
              rintro e w7 ⟨rfl, h7⟩
              have h8 : Has W w7 (engR g V CV5 L5 tr tr.length us false :: (provL b g pv6 (PV' ++ [(u6, neg (D ++ [(u : Int)]))]) ++ Ps)) := h7.ord 5 [0, 1, 2, 3]
              have H8 := Lib.hid h8
              have HST := Lib.hid (HSG.out.two (LV := [(u6, neg (D ++ [(u : Int)]))]) (And.intro (Adds.leaf HCF.out) (fun q hq => by
                simp at hq
                have := HLT.out (Value.bool false, neg (D ++ [(u : Int)])) (by simp)
                rw [hq]; exact this)))
              clear h7 h8 HUN H6 p0 pl
              go_wp2
              go_roundg (2 - (1 + 1))
              case measure => omega
              case rel => exact ⟨1 + 1, CV5, L5, _, pv6, by omega, Nat.le_refl _, by simp, HBK, HST, Lib.hid (H8.out.step (by (repeat first | exact Fr.refl _ _ | assumption | apply Fr.n | apply Fr.d | apply Fr.a | refine Fr.s ?_ (.inr (by simp; try omega)) _)))⟩
          · obtain ⟨_, hrm2⟩ := HSG.out.room HRM.out
            have h5 : Has W wr (provL b g pv' PV' ++ (engR g V CV' L' tr tr.length us false :: Ps)) := HH.out.ord 4 [1, 2, 3, 0]
            have H5 := Lib.hid h5
            have HEX := Lib.hid (fun w' (hf : Fr [] wr w') => exclude_calls (b := b) (g := g) (pv := pv') (PV := PV') (H5.out.step hf) (HD.out.more fun P hP => List.mem_cons_of_mem _ hP) (by rw [HN.out]; omega) (fun y hy => by have := HSI.out.core.htr.1 y (HSI.out.dT y hy); omega) hrm2)
            rw [HN.out] at HEX
            clear h5 hrm2
            go_wp2_with fail
            refine (HEX.out _ (by (repeat first | exact Fr.refl _ _ | assumption | apply Fr.n | apply Fr.d | apply Fr.a | refine Fr.s ?_ (.inr (by simp; try omega)) _))).mono ?_
            rintro e w6 ⟨pv6, u6, rfl, h6⟩
            have h7 : Has W w6 (engR g V CV' L' tr tr.length us false :: (provL b g pv6 (PV' ++ [(u6, neg D)]) ++ Ps)) := h6.ord 4 [3, 0, 1, 2]
            have H7 := Lib.hid h7
            have HE := Lib.hid (HSG.out.end u6 (HSI.out.lits u6))
            clear h6 h7 HEX H5
            go_wp2
            go_ret
            exact ⟨0, CV', L', _, pv6, rfl, H7.out.step (by (repeat first | exact Fr.refl _ _ | assumption | apply Fr.n | apply Fr.d | apply Fr.a | refine Fr.s ?_ (.inr (by simp; try omega)) _)), HSI.out, .inl ⟨rfl, HE.out⟩⟩
      · have hb0 : (y != 0) = true := by simpa using hy0
        go_wp2
        go_roundg (V + 1 - (u + 1))
        case measure => omega
        case rel =>
          refine ⟨u + 1, by omega, by omega, Nat.le_refl _, by simp, Lib.hid (fun t h1 h2 => ?_), Lib.hid (HH.out.step (by (repeat first | exact Fr.refl _ _ | assumption | apply Fr.n | apply Fr.d | apply Fr.a | refine Fr.s ?_ (.inr (by simp; try omega)) _)))⟩
          by_cases e : t = u
          · rw [e, HY.out]; exact hy0
          · exact HU.out t h1 (by omega)
    · obtain rfl : u = V + 1 := by omega
      have HSAT := Lib.hid (HSI0.out.full (fun v h1 h2 => by
        have := HU.out v h1 (by omega)
        refine Classical.byContradiction fun hn => this (vof_zero.2 ⟨fun e => hn (.inl e), fun e => hn (.inr e)⟩)))
      clear ho hrv
      go_wp2
      go_ret
      exact ⟨1, CV, L, PV, pv, rfl, HH.out.step (by (repeat first | exact Fr.refl _ _ | assumption | apply Fr.n | apply Fr.d | apply Fr.a | refine Fr.s ?_ (.inr (by simp; try omega)) _)), HSI0.out, .inr ⟨rfl, _, HSAT.out⟩⟩
theorem search_calls {W : World} {V : Nat} {F : List (List Int)} {us : List Int} {b g : Nat} (hV : V ≤ 65536) (hF : F.length ≤ 900000 ∧ ∀ c ∈ F, c.length ≤ 1000000) : ∀ m, SearchAt W V F us b g m
  | 0 => search_step hV hF fun k hk => by omega
  | m + 1 => search_step hV hF fun k hk => by
    obtain rfl : m = k := by omega
    exact search_calls hV hF m
end Go.Proofs.Ytbpaadpocihahaa
end

section
/- refute: Prove. -/
namespace Go.Proofs.Ytbpaadpocihahaa
open Go Go.RowKit Go.Proofs.Rg Go.Proofs.Mp Go.Proofs.Hp Go.Proofs.Sv Go.Proofs.Rp
set_option linter.unusedVariables false
set_option linter.unusedSimpArgs false
def ProvePost (W : World) (Ps : List Res) (V : Int) (cs : List (List Int)) (e : Ending) (w' : World) : Prop :=
  (rightF V cs = false ∧ e = .returned (.tuple #[.slice none 0 0, .int .i64 2]) ∧ Has W w' Ps) ∨
  (rightF V cs = true ∧ (∃ A, sat cs A = true) ∧ e = .returned (.tuple #[.slice none 0 0, .int .i64 13]) ∧ Has W w' Ps) ∨
  (rightF V cs = true ∧ ∃ (PV : List (Value × List Int)) (va : Option Addr) (vc : Nat), accB cs (PV.map (·.2)) = true ∧ LitsLV V.toNat PV ∧ PV.length ≤ 2 ^ (V.toNat + 1) ∧ e = .returned (.tuple #[.slice va PV.length vc, .int .i64 0]) ∧
    Has W w' (Hp.row 25 1 (.slice va PV.length vc) PV.length (PV.map (·.1)) :: bun (PV.map rowC) :: Ps))
theorem acc_empty {cs : List (List Int)} (h : folB cs [] = true) : accB cs [[]] = true := by
  rw [accB_iff]
  unfold allF allF
  exact ⟨by rw [h]; rfl, rfl⟩
set_option maxHeartbeats 8000000 in
set_option maxRecDepth 100000 in
theorem Prove_calls {W w : World} {Ps : List Res} (h : Has W w Ps) {V : Int} {a : Option Addr} {c : Nat} {vs : List Value} {cs : List (List Int)} (hF : FormHs W Ps a c vs cs) (hs : ∀ r ∈ cs, r.length ≤ 1000000) (hsm : rightF V cs = true → V ≤ 10) :
    Calls Try.prog 20 #[.agg #[.int .i64 V, .slice a cs.length c]] w (ProvePost W Ps V cs) := by
  have HA := Lib.hid (hF.src _ _ h fun P hP => hP)
  have HH := Lib.hid (h.newBlk (.cells #[.int .i64 V, .slice a cs.length c] 24 (0, 0)))
  have HF := Lib.hid hF
  have HS := Lib.hid hs
  have HSM := Lib.hid hsm
  obtain ⟨b, hb⟩ : ∃ b, rightF V cs = b := ⟨_, rfl⟩
  have HVB := Lib.hid hb
  clear h hF hs hsm hb
  go_enter Try.func20, Try.ntmps20
  go_wp2_with fail
  refine (FRight_calls (HA.out.fr (by (repeat first | exact Fr.refl _ _ | assumption | apply Fr.n | apply Fr.d | apply Fr.a | refine Fr.s ?_ (.inr (by simp; try omega)) _)))).mono ?_
  rw [HVB.out]
  rintro e w1 ⟨rfl, hf1⟩
  obtain ⟨fb, hfb⟩ : ∃ b, w.heap.size = b := ⟨_, rfl⟩
  have h1 := HH.out.step (Fr.trans0 (by (repeat first | exact Fr.refl _ _ | assumption | apply Fr.n | apply Fr.d | apply Fr.a | refine Fr.s ?_ (.inr (by simp; try omega)) _)) hf1)
  rw [hfb] at h1 ⊢
  have hb := h1.blk
  have c0 : _ = some _ := heap_eq_cell hb 0
  have c1 : _ = some _ := heap_eq_cell hb 1
  have cl := lt_of_block hb
  have H1 := Lib.hid h1
  clear h1 hb hf1 HH hfb
  cases b with
  | false =>
    go_wp2
    go_ret2
    exact .inl ⟨HVB.out, rfl, H1.out.drop.step (by (repeat first | exact Fr.refl _ _ | assumption | apply Fr.n | apply Fr.d | apply Fr.a | refine Fr.s ?_ (.inr (by simp; try omega)) _))⟩
  | true =>
    obtain ⟨V', rfl, _⟩ := rightF_nat HVB.out
    obtain ⟨hcl, hV, hlit⟩ := rightF_len HVB.out
    have hV10 : V' ≤ 10 := by have := HSM.out HVB.out; omega
    go_wp2_with fail
    refine (with_calls (H1.out.drop.step (by (repeat first | exact Fr.refl _ _ | assumption | apply Fr.n | apply Fr.d | apply Fr.a | refine Fr.s ?_ (.inr (by simp; try omega)) _))) HF.out HVB.out HS.out).mono ?_
    rintro e w2 ⟨g, CV, L, us, em, rfl, h2, hE⟩
    have HFO := Lib.hid (fun w' (hf : Fr [] w2 w') => follows_calls (h2.step hf) hV hE ⟨by omega, HS.out⟩ (IntsSrc.nil (W := W) (Ps := Ps)) (by simp) (by simp))
    have hus : us.length ≤ 900000 := by rw [hE.hus]; exact Nat.le_trans (ones_len cs) (by omega)
    clear h2 hE H1 c0 c1 cl
    go_wp2_with fail
    refine (HFO.out _ (by (repeat first | exact Fr.refl _ _ | assumption | apply Fr.n | apply Fr.d | apply Fr.a | refine Fr.s ?_ (.inr (by simp; try omega)) _))).mono ?_
    rintro e w3 ⟨CV2, L2, rfl, h3, hE2⟩
    have H3 := Lib.hid h3
    have HE2 := Lib.hid hE2
    obtain ⟨q, hq⟩ : ∃ q, folB cs [] = q := ⟨_, rfl⟩
    rw [hq]
    have HQ := Lib.hid hq
    clear h3 hE2 HFO hq
    cases q with
    | true =>
      have h5 := has_zero H3.out.drop 3
      have h6 := has_many h5 25 [.slice (some ⟨w3.heap.size, 0, none⟩) 0 0] (by simp) (by simp)
      rw [hp_alloc_size] at h6
      have H6 := Lib.hid h6
      clear h5 h6 H3
      go_wp2
      go_ret2
      refine .inr (.inr ⟨HVB.out, [(.slice (some ⟨w3.heap.size, 0, none⟩) 0 0, [])], some ⟨w3.heap.size + 1, 0, none⟩, 1, acc_empty HQ.out, fun q hq => ?_, Nat.one_le_two_pow, rfl, ?_⟩)
      · simp at hq
        rw [hq]
        exact ⟨Nat.zero_le _, by simp⟩
      · have h7 := (Has.rebun (Qs := [(Value.slice (some ⟨w3.heap.size, 0, none⟩) 0 0, ([] : List Int))].map rowC) (Ps := Hp.row 25 1 (.slice (some ⟨w3.heap.size + 1, 0, none⟩) 1 1) 1 [.slice (some ⟨w3.heap.size, 0, none⟩) 0 0] :: Ps) (H6.out.ord 2 [1, 0])).ord 2 [1, 0]
        exact h7.step (by (repeat first | exact Fr.refl _ _ | assumption | apply Fr.n | apply Fr.d | apply Fr.a | refine Fr.s ?_ (.inr (by simp; try omega)) _))
    | false =>
      obtain rfl : em = false := by
        cases em with
        | false => rfl
        | true => have := HE2.out.empty (c := []) rfl; rw [HQ.out] at this; cases this
      obtain ⟨mb, cv, uv, vv, tv, h⟩ := eng_open H3.out
      simp only [engL, List.cons_append, List.nil_append] at h
      have hb := h.blk
      have c2 : _ = some _ := heap_eq_cell hb 2
      have cl := lt_of_block hb
      obtain ⟨ua, uc, rfl, _, _⟩ := owns_form2 (h.bring 7).row
      have H0 := Lib.hid h
      obtain ⟨m, hm⟩ : ∃ m, us.length = m := ⟨_, rfl⟩
      rw [hm] at c2 hus
      have HM := Lib.hid hm
      clear h hb hm H3
      go_wp2
      clear c2 cl
      go_loopg [22] m (fun gg z wr => ∃ (i : Nat) (t : List Int) (tv2 : Value), i ≤ m ∧ m - i ≤ gg ∧ z = .int .i64 (i : Int) ∧ Hid (setAll [] (us.take i) = some t) ∧ Hid (Has W wr (engL g V' CV2 L2 mb cv (.slice ua us.length uc) vv tv2 t 0 us false ++ Ps)))
      case atStart => exact ⟨0, [], tv, Nat.zero_le _, by omega, rfl, Lib.hid rfl, Lib.hid (H0.out.step (by (repeat first | exact Fr.refl _ _ | assumption | apply Fr.n | apply Fr.d | apply Fr.a | refine Fr.s ?_ (.inr (by simp; try omega)) _)))⟩
      case round =>
        obtain ⟨j, t, tv2, hj, hgg, rfl, HT, HI⟩ := hrel
        clear H0
        have htk := setAll_some (V := V') (fun x hx => HE2.out.usV x (List.mem_of_mem_take hx)) ⟨by simp, by simp⟩ HT.out
        have HTK := Lib.hid htk
        clear htk
        by_cases hjm : j < m
        · obtain ⟨x, hx⟩ : ∃ x, us[j]? = some x := ⟨_, List.getElem?_eq_getElem (by rw [HM.out]; exact hjm)⟩
          have hxV := HE2.out.usV x (List.mem_of_getElem? hx)
          obtain ⟨ug, off, rfl, hgl, hcx⟩ := IntsAt.get (HI.out.bring 7).rowReads hx
          have HX := Lib.hid hx
          have HXV := Lib.hid hxV
          clear hx hxV
          go_wp2_with fail
          refine (set_gen ((HI.out.step (by (repeat first | exact Fr.refl _ _ | assumption | apply Fr.n | apply Fr.d | apply Fr.a | refine Fr.s ?_ (.inr (by simp; try omega)) _))).ord 8 [0, 5, 6, 1, 2, 3, 4, 7]) HTK.out.1 hV HXV.out.1 HXV.out.2).mono ?_
          rintro e w4 ⟨rfl, tv3, h4⟩
          have h4 := h4.ord 8 [0, 3, 4, 5, 6, 1, 2, 7]
          have hsn := setAll_snoc (x := x) HT.out
          rw [← us_next HX.out] at hsn
          obtain ⟨sr, hsr⟩ : ∃ sr, setF t x = sr := ⟨_, rfl⟩
          rw [hsr] at h4 hsn ⊢
          have H4 := Lib.hid h4
          clear h4 hsr hcx hgl
          obtain ⟨t2, bb⟩ := sr
          cases bb with
          | false =>
            exfalso
            have := HE2.out.clash (c := []) (l := us.take (j + 1)) (r := us.drop (j + 1)) (by rw [List.take_append_drop]; rfl) hsn
            rw [HQ.out] at this; cases this
          | true =>
            have HSN := Lib.hid hsn
            clear hsn
            go_wp2
            go_roundg (m - (j + 1))
            case measure => omega
            case rel => exact ⟨j + 1, t2, tv3, hjm, Nat.le_refl _, by simp, HSN, Lib.hid (H4.out.step (by (repeat first | exact Fr.refl _ _ | assumption | apply Fr.n | apply Fr.d | apply Fr.a | refine Fr.s ?_ (.inr (by simp; try omega)) _)))⟩
        · obtain rfl : j = m := by omega
          have hall : setAll [] us = some t := by
            have := HT.out
            rwa [List.take_of_length_le (by rw [HM.out]; exact Nat.le_refl _)] at this
          have H4 := Lib.hid (show Has W wr (engR g V' CV2 L2 t 0 us false :: Ps) from eng_close (mb := mb) (cv := cv) (uv := _) (vv := vv) (tv := tv2) HI.out)
          have hco := HE2.out.core (A := []) (by simp) (by rw [List.nil_append]; exact hall)
          have HUT := Lib.hid (show ∀ x ∈ us, x ∈ t from fun x hx => (HTK.out.2.2 x).2 (.inr (by rw [List.take_of_length_le (by rw [HM.out]; exact Nat.le_refl _)]; exact hx)))
          have HPR := Lib.hid (fun w' (hf : Fr [] wr w') => propagate_calls (H4.out.step hf) hV hco (Nat.zero_le _) (Der.closed _ _) ⟨Nat.le_trans (bigs_len cs) (by omega), bigs_clen HS.out⟩)
          clear hall HI HT hco
          go_wp2_with fail
          refine (HPR.out _ (by (repeat first | exact Fr.refl _ _ | assumption | apply Fr.n | apply Fr.d | apply Fr.a | refine Fr.s ?_ (.inr (by simp; try omega)) _))).mono ?_
          rintro e w5 ⟨ok, CV5, L5, tr5, dn5, rfl, h5, hpr, hyes, hno⟩
          obtain rfl : ok = true := by
            cases ok with
            | true => rfl
            | false =>
              have := folB_iff.2 (show Cnf cs (neg []) from HE2.out.conf (A := []) (hno rfl))
              rw [HQ.out] at this; cases this
          obtain ⟨hco, rfl⟩ := hyes rfl
          have hsi : SI V' cs us [] (CV5.map (·.2)) (wl L5) [] tr5 := ⟨hco, fun x hx => hpr.subset (HUT.out x hx), by simp, by have := openV_le V' tr5; simp; omega, HE2.out.of_core hco⟩
          have HSI := Lib.hid hsi
          have h6 := ((h5.nilRow 25 1).bunNil).newBlk (.cells #[.pointer (some ⟨g, 0, none⟩), .slice none 0 0] 63 (0, 0))
          obtain ⟨pb, hpb⟩ : ∃ b, w5.heap.size = b := ⟨_, rfl⟩
          rw [hpb] at h6
          have H6 := Lib.hid (show Has W _ (engR g V' CV5 L5 tr5 tr5.length us false :: (provL pb g (.slice none 0 0) [] ++ Ps)) from h6.ord 4 [3, 0, 2, 1])
          have hroom : (0 : Nat) + 2 ^ (V' + 1) ≤ 262144 := by
            have : 2 ^ (V' + 1) ≤ 2 ^ 11 := Nat.pow_le_pow_right (by omega) (by omega)
            omega
          have HSE := Lib.hid (fun w' (hf : Fr [] _ w') => search_calls hV (F := cs) (us := us) (b := pb) (g := g) (W := W) ⟨by omega, HS.out⟩ V' (H6.out.step hf) HSI.out (openV_le V' tr5) hroom (IntsSrc.nil (W := W) (Ps := Ps)))
          clear h5 h6 hpr hyes hno hco hsi HPR H4 hroom
          go_wp2_with fail
          refine (HSE.out _ (by (repeat first | exact Fr.refl _ _ | assumption | apply Fr.n | apply Fr.d | apply Fr.a | refine Fr.s ?_ (.inr (by simp; try omega)) _))).mono ?_
          rintro e w6 ⟨r, CV6, L6, PV6, pv6, rfl, h6, _, hres⟩
          have hb := (h6.bring 1).blk
          have q1 : _ = some _ := heap_eq_cell hb 1
          have ql := lt_of_block hb
          have HRES := Lib.hid hres
          have H7 := Lib.hid h6
          clear hb hres h6 HSE H6 hpb
          rcases HRES.out with ⟨rfl, LV, rfl, had, hlv⟩ | ⟨rfl, hsat⟩
          · have HAD := Lib.hid (And.intro had hlv)
            obtain ⟨va, vc, rfl, _, _⟩ := owns_form2 (H7.out.bring 2).row
            clear had hlv HRES
            go_wp2
            go_ret2
            refine .inr (.inr ⟨HVB.out, PV6, va, vc, HAD.out.1.acc, HAD.out.2, ?_, rfl, (H7.out.ord 4 [2, 3]).step (by (repeat first | exact Fr.refl _ _ | assumption | apply Fr.n | apply Fr.d | apply Fr.a | refine Fr.s ?_ (.inr (by simp; try omega)) _))⟩)
            have := HAD.out.1.len
            rw [List.length_map] at this
            show PV6.length ≤ 2 ^ (V' + 1)
            omega
          · have HSAT := Lib.hid hsat
            clear hsat HRES
            go_wp2
            go_ret2
            exact .inr (.inl ⟨HVB.out, HSAT.out, rfl, (H7.out.ord 4 []).step (by (repeat first | exact Fr.refl _ _ | assumption | apply Fr.n | apply Fr.d | apply Fr.a | refine Fr.s ?_ (.inr (by simp; try omega)) _))⟩)
end Go.Proofs.Ytbpaadpocihahaa
end
