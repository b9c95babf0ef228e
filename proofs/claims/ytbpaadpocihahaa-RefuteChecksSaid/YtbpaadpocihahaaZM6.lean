/- Own texts of this claim, part 7: no condition. -/
import Derived.Deep.DeepCutAuto
import Derived.Deep.LoopGhost
import Derived.Defers
import Derived.Test.YtbpaadpocihahaaZM5
set_option linter.unusedVariables false
set_option linter.unusedSimpArgs false
section
/- refute: one clause that watches a literal is visited. -/
namespace Go.Proofs.Ytbpaadpocihahaa
open Go Go.RowKit Go.Proofs.Rg Go.Proofs.Mp Go.Proofs.Hp Go.Proofs.Sv Go.Proofs.Rp
set_option linter.unusedVariables false
set_option linter.unusedSimpArgs false
theorem other_is {tr c : List Int} {o : Nat} {y : Int} (hy : c[o + 2]? = some y) (hn : -y ∉ tr) (hb : ∀ j z, 2 ≤ j → j < o + 2 → c[j]? = some z → -z ∈ tr) : other tr c = some o := by
  unfold other
  rw [List.findIdx?_eq_some_iff_getElem]
  have hl := (List.getElem?_eq_some_iff.1 hy).1
  have he := (List.getElem?_eq_some_iff.1 hy).2
  refine ⟨by simp; omega, ?_, fun j hj => ?_⟩
  · rw [List.getElem_drop]
    simp only [Nat.add_comm 2 o, he]
    simpa using hn
  · have := hb (2 + j) (c[2 + j]'(by omega)) (by omega) (by omega) (List.getElem?_eq_getElem (by omega))
    rw [List.getElem_drop]
    simpa using this
theorem other_not {tr c : List Int} (hb : ∀ j z, 2 ≤ j → c[j]? = some z → -z ∈ tr) : other tr c = none := by
  unfold other
  rw [List.findIdx?_eq_none_iff]
  intro y hy
  obtain ⟨j, hj, rfl⟩ := List.getElem_of_mem hy
  have := hb (2 + j) _ (by omega) (by rw [← List.getElem?_drop]; exact List.getElem?_eq_getElem hj)
  simpa using this
/-- the engine's things while the clauses of the literal x are visited -/
def visL (p V : Nat) (CV : List (Value × List Int)) (L : List (Int × (Value × List Nat))) (x : Int) (mb : Nat) (cv uv vv tv : Value) (tr : List Int) (dn : Nat) (em : Bool) : List Res :=
  [blk p (.cells #[cv, .map (some mb), uv, .bool em, vv, tv, .int .i64 (dn : Int)] 60 (0, 0)),
   Hp.row 77 1 vv (V + 1) (vals V tr), Hp.row 3 1 tv tr.length (iv tr),
   Hp.row 25 1 cv CV.length (CV.map (·.1)), bun (CV.map rowC), mapT mb (fun n : Int => Value.int .i64 n) (fun q : Value × List Nat => q.1) L, bun ((out L x).map (rowI 3))]
/-- the clause stands apart -/
def visM (p V : Nat) (cval : Value) (c : List Int) (Es : List (Value × List Int)) (hs : List Value) (L : List (Int × (Value × List Nat))) (x : Int) (mb : Nat) (cv uv vv tv : Value) (tr : List Int) (dn : Nat) (em : Bool) : List Res :=
  [Hp.row 3 1 cval c.length (iv c), bun (Es.map rowC), blk p (.cells #[cv, .map (some mb), uv, .bool em, vv, tv, .int .i64 (dn : Int)] 60 (0, 0)),
   Hp.row 77 1 vv (V + 1) (vals V tr), Hp.row 3 1 tv tr.length (iv tr),
   Hp.row 25 1 cv hs.length hs, mapT mb (fun n : Int => Value.int .i64 n) (fun q : Value × List Nat => q.1) L, bun ((out L x).map (rowI 3))]
section
variable {W w : World} {Ps : List Res} {p V : Nat} {CV : List (Value × List Int)} {L : List (Int × (Value × List Nat))} {x : Int} {mb : Nat} {cv uv vv tv : Value} {tr : List Int} {dn : Nat} {em : Bool} {k : Nat} {cval : Value} {c c' : List Int}
theorem vis_pick (hk : CV[k]? = some (cval, c)) (h : Has W w (visL p V CV L x mb cv uv vv tv tr dn em ++ Ps)) : Has W w (visM p V cval c (CV.eraseIdx k) (CV.map (·.1)) L x mb cv uv vv tv tr dn em ++ Ps) := by
  have h1 := ((h.bring 4).pick hk)
  unfold visM
  rw [List.length_map]
  exact h1
theorem vis_lay (hk : CV[k]? = some (cval, c)) (h : Has W w (visM p V cval c' (CV.eraseIdx k) (CV.map (·.1)) L x mb cv uv vv tv tr dn em ++ Ps)) : Has W w (visL p V (CV.set k (cval, c')) L x mb cv uv vv tv tr dn em ++ Ps) := by
  have h1 := (Has.lay (l := CV) (k := k) (b := (cval, c')) (R := rowC) h (List.getElem?_eq_some_iff.1 hk).1).sink 4
  unfold visL
  rw [set_fst hk, List.length_set]
  simp only [List.length_map] at h1
  exact h1
theorem vis_of (h : Has W w (visM p V cval c (CV.eraseIdx k) (CV.map (·.1)) L x mb cv uv vv tv tr dn em ++ Ps)) : OfAt w p V tr := ofAt_raw (h.ord 8 [2, 3, 0, 1, 4, 5, 6, 7])
end
def VisPost (W : World) (Ps : List Res) (p V : Nat) (CV : List (Value × List Int)) (L : List (Int × (Value × List Nat))) (x : Int) (mb : Nat) (cv uv vv : Value) (tr : List Int) (dn : Nat) (em : Bool) (k : Nat) (cval : Value) (e : Ending) (w' : World) : Prop :=
  ∃ mvd ok c' L' tr' tv', e = .returned (.tuple #[.bool mvd, .bool ok]) ∧ Has W w' (visL p V (CV.set k (cval, c')) L' x mb cv uv vv tv' tr' dn em ++ Ps) ∧ (mvd = true → ok = true) ∧ ∀ kp, vstep x ⟨CV.map (·.2), wl L, tr, kp⟩ k = (⟨(CV.map (·.2)).set k c', wl L', tr', if mvd then kp else kp ++ [k]⟩, ok)
set_option maxHeartbeats 16000000 in
set_option maxRecDepth 100000 in
theorem visit_calls {W w : World} {Ps : List Res} {p V : Nat} {CV : List (Value × List Int)} {L : List (Int × (Value × List Nat))} {x : Int} {mb : Nat} {cv uv vv tv : Value} {tr : List Int} {dn : Nat} {em : Bool} {k : Nat} {cval : Value} {c : List Int}
    (hH : Has W w (visL p V CV L x mb cv uv vv tv tr dn em ++ Ps)) (hV : V ≤ 65536) (htr : TrOk V tr) (hk : CV[k]? = some (cval, c)) (hcx : c[0]? = some x ∨ c[1]? = some x) (hc2 : 2 ≤ c.length) (hclen : c.length ≤ 1000000) (hcn : c.Nodup) (hcl : ∀ y ∈ c, y ≠ 0 ∧ y.natAbs ≤ V)
    (hxt : -x ∈ tr) (hn : CV.length ≤ 1000000) (hwl : ∀ y, y ≠ x → (wl L y).length ≤ 1000000) :
    Calls Try.prog 57 #[.pointer (some ⟨p, 0, none⟩), .int .i64 (k : Int), .int .i64 x] w (VisPost W Ps p V CV L x mb cv uv vv tr dn em k cval) := by
  have hM := vis_pick hk hH
  obtain ⟨ca, cc, rfl, hcn0, hca⟩ := owns_form2 hM.row
  obtain ⟨ck, rfl⟩ : ∃ ck, ca = some ⟨ck, 0, none⟩ := by
    cases ca with
    | none => have := (hcn0 rfl).1; omega
    | some ad => obtain ⟨q, rfl⟩ := hca ad rfl; exact ⟨q, rfl⟩
  have hkl : k < CV.length := (List.getElem?_eq_some_iff.1 hk).1
  have hhd := (hM.bring 5).row
  obtain ⟨ha, hc9, hcv, hh0, hh1⟩ := owns_form2 hhd
  subst hcv
  obtain ⟨hg, rfl⟩ : ∃ hg, ha = some ⟨hg, 0, none⟩ := by
    cases ha with
    | none => have := (hh0 rfl).1; simp at this; rw [this] at hkl; simp at hkl
    | some ad => obtain ⟨q, rfl⟩ := hh1 ad rfl; exact ⟨q, rfl⟩
  obtain ⟨m, hm⟩ : ∃ m, (CV.map (·.1)).length = m := ⟨_, rfl⟩
  rw [hm] at hM hhd
  have hkm : k < m := by rw [← hm]; simpa using hkl
  have hm6 : m ≤ 1000000 := by simp only [List.length_map] at hm; omega
  have hkc := owns_cell hhd rfl (j := k) (u := .slice (some ⟨ck, 0, none⟩) c.length cc) (by simp [hk])
  have hhl := owns_lt hhd rfl
  obtain ⟨a0, ha0⟩ : ∃ a, c[0]? = some a := ⟨_, List.getElem?_eq_getElem (by omega)⟩
  obtain ⟨a1, ha1⟩ : ∃ a, c[1]? = some a := ⟨_, List.getElem?_eq_getElem (by omega)⟩
  have hr0 := owns_cell hM.row rfl (iv_get ha0)
  have hr1 := owns_cell hM.row rfl (iv_get ha1)
  have hrz0 := owns_frozen hM.row rfl 0
  have hrz1 := owns_frozen hM.row rfl 1
  have hrl := owns_lt hM.row rfl
  have hb := (hM.bring 2).blk
  have c0' : _ = some _ := heap_eq_cell hb 0
  have cl := lt_of_block hb
  have HMM := Lib.hid hM
  have HP := Lib.hid (And.intro hk (And.intro hcx (And.intro hc2 hcn)))
  have HCL := Lib.hid hcl
  have HMH := Lib.hid hm
  have HA := Lib.hid (And.intro ha0 ha1)
  have HT := Lib.hid htr
  have HXT := Lib.hid hxt
  have HWL := Lib.hid hwl
  clear hM hk hcx hcn hcl hm hH hhd hb hcn0 hca hh0 hh1 ha0 ha1 htr hxt hwl
  go_enter Try.func57, Try.ntmps57
  go_upto_if 21 with fail
  go_cut [8] (fun s8 wx => s8 = .slice (some ⟨ck, 0, none⟩) c.length cc ∧ Hid (Has W wx (visM p V (.slice (some ⟨ck, 0, none⟩) c.length cc) (second x c) (CV.eraseIdx k) (CV.map (·.1)) L x mb (.slice (some ⟨hg, 0, none⟩) m hc9) uv vv tv tr dn em ++ Ps)))
  case first =>
    obtain ⟨b, hb⟩ : ∃ b, (a0 == x) = b := ⟨_, rfl⟩
    have hgd : c.getD 0 0 = a0 := by rw [List.getD_eq_getElem?_getD, HA.out.1]; rfl
    cases b with
    | true =>
      have hax : a0 = x := by simpa using hb
      go_wp2
      (refine wp_region_text (by kernel_rfl) (by kernel_rfl) ?_)
      go_wp2
      refine Strict.intro rfl ?_
      go_wp2
      go_meet
      refine ⟨rfl, Lib.hid ?_⟩
      rw [second_sw (by rw [hgd]; exact hax)]
      have h2 := (Has.rowSet (j := 1) (Has.rowSet (j := 0) HMM.out (by rw [iv_length]; omega) (.int .i64 a1)) (by rw [List.length_set, iv_length]; omega) (.int .i64 x))
      rw [iv_set, iv_set] at h2
      have hgd1 : c.getD 1 0 = a1 := by rw [List.getD_eq_getElem?_getD, HA.out.2]; rfl
      unfold visM
      rw [swp_length]
      unfold swp
      rw [hgd, hgd1, hax]
      exact h2.step (by (repeat first | exact Fr.refl _ _ | assumption | apply Fr.n | apply Fr.d | apply Fr.a | refine Fr.s ?_ (.inr (by simp; try omega)) _))
    | false =>
      have hax : a0 ≠ x := by simpa using hb
      go_wp2
      go_meet
      refine ⟨rfl, Lib.hid ?_⟩
      rw [second_id (by rw [hgd]; exact hax)]
      exact HMM.out
  case rest =>
    obtain ⟨rfl, HM2⟩ := hcut
    clear HMM hkc hhl hr0 hr1 hrz0 hrz1 hrl c0' cl HA
    obtain ⟨hp, hcx, hcc2, hcn⟩ := HP.out
    obtain ⟨hpm, hs1, _⟩ := second_spec hcc2 hcx hcn
    obtain ⟨c', hcd⟩ : ∃ c', second x c = c' := ⟨_, rfl⟩
    rw [hcd] at HM2 hpm hs1
    have hlen : c'.length = c.length := hpm.length_eq
    rw [← hlen] at HM2 hclen hc2 hp ⊢
    obtain ⟨a, ha⟩ : ∃ a, c'[0]? = some a := ⟨_, List.getElem?_eq_getElem (by omega)⟩
    have hga : c'.getD 0 0 = a := by rw [List.getD_eq_getElem?_getD, ha]; rfl
    have hal := HCL.out a (hpm.mem_iff.1 (List.mem_of_getElem? ha))
    have hcl' : ∀ y ∈ c', y ≠ 0 ∧ y.natAbs ≤ V := fun y hy => HCL.out y (hpm.mem_iff.1 hy)
    have hcm : (CV.map (·.2))[k]? = some c := by rw [List.getElem?_map, hp]; rfl
    have h := HM2.out
    have hr := h.row
    have r0 := owns_cell hr rfl (iv_get ha)
    have rl := owns_lt hr rfl
    have hb := (h.bring 2).blk
    have cl := lt_of_block hb
    have HOF := Lib.hid (vis_of h)
    have HLEN := Lib.hid hlen
    have HR := Lib.hid (And.intro hp (And.intro hcm (And.intro hpm (And.intro hs1 (And.intro ha (And.intro hga hcd))))))
    have HAL := Lib.hid hal
    have HCL' := Lib.hid hcl'
    clear hp hcx hcn hpm hs1 hcd ha hga hal h hr hb hlen hcc2 hcl' hcm HCL
    obtain ⟨lc, hlc⟩ : ∃ lc, lv tr a = lc := ⟨_, rfl⟩
    have HLC := Lib.hid hlc
    by_cases hA : lc = 1
    · subst hA
      go_wp2_with fail
      refine (value_calls (HOF.out.fr (by (repeat first | exact Fr.refl _ _ | assumption | apply Fr.n | apply Fr.d | apply Fr.a | refine Fr.s ?_ (.inr (by simp; try omega)) _))) HT.out HAL.out.1 HAL.out.2 (by omega)).mono ?_
      rw [hlc]
      rintro e w2 ⟨rfl, hw2⟩
      subst hw2
      clear hlc
      go_wp2
      go_ret2
      refine ⟨false, true, c', L, tr, tv, rfl, ?_, (fun e => by first | rfl | cases e), fun kp => ?_⟩
      · refine vis_lay HP.out.1 ?_
        rw [HMH.out, ← HLEN.out]
        exact HM2.out.step (by (repeat first | exact Fr.refl _ _ | assumption | apply Fr.n | apply Fr.d | apply Fr.a | refine Fr.s ?_ (.inr (by simp; try omega)) _))
      · rw [vstep_true HR.out.2.1 (by rw [HR.out.2.2.2.2.2.2, HR.out.2.2.2.2.2.1]; exact lv_one.1 HLC.out), HR.out.2.2.2.2.2.2]
        rfl
    · have hb1 : (lc == 1) = false := by simpa using hA
      go_wp2_with fail
      refine (value_calls (HOF.out.fr (by (repeat first | exact Fr.refl _ _ | assumption | apply Fr.n | apply Fr.d | apply Fr.a | refine Fr.s ?_ (.inr (by simp; try omega)) _))) HT.out HAL.out.1 HAL.out.2 (by omega)).mono ?_
      rw [hlc]
      rintro e w2 ⟨rfl, hw2⟩
      subst hw2
      clear hlc
      have hnA : a ∉ tr := fun e => hA (by rw [← HLC.out]; exact lv_one.2 e)
      have HNA := Lib.hid hnA
      clear hnA r0 rl cl
      obtain ⟨n, hnc⟩ : ∃ n, c'.length = n := ⟨_, rfl⟩
      rw [hnc] at HM2 hclen hc2 ⊢
      have HNC := Lib.hid hnc
      have HPP := Lib.hid HR.out.1
      rw [hnc] at HPP
      clear hnc
      go_wp2
      go_loopg [9] n (fun gg z wr => ∃ i : Nat, 2 ≤ i ∧ i ≤ n ∧ n - i ≤ gg ∧ z = .int .i64 (i : Int) ∧ Hid (∀ j z, 2 ≤ j → j < i → c'[j]? = some z → -z ∈ tr) ∧ Hid (Has W wr (visM p V (.slice (some ⟨ck, 0, none⟩) n cc) c' (CV.eraseIdx k) (CV.map (·.1)) L x mb (.slice (some ⟨hg, 0, none⟩) m hc9) uv vv tv tr dn em ++ Ps)))
      case atStart => exact ⟨2, Nat.le_refl _, hc2, by omega, rfl, Lib.hid (fun j z h1 h2 => by omega), Lib.hid (HM2.out.step (by (repeat first | exact Fr.refl _ _ | assumption | apply Fr.n | apply Fr.d | apply Fr.a | refine Fr.s ?_ (.inr (by simp; try omega)) _)))⟩
      case round =>
        obtain ⟨i, hi2, hin, hgg, rfl, HF, HI⟩ := hrel
        clear HM2 HOF
        have h := HI.out
        have hr := h.row
        have rl := owns_lt hr rfl
        have hb := (h.bring 2).blk
        have c0 : _ = some _ := heap_eq_cell hb 0
        have cl := lt_of_block hb
        have HOF := Lib.hid (vis_of h)
        by_cases hlt : i < n
        · obtain ⟨y, hy⟩ : ∃ y, c'[i]? = some y := ⟨_, List.getElem?_eq_getElem (by rw [HNC.out]; exact hlt)⟩
          have ry := owns_cell hr (by rw [HNC.out]) (iv_get hy)
          have HY := Lib.hid hy
          have HYL := Lib.hid (HCL'.out y (List.mem_of_getElem? hy))
          obtain ⟨ly, hly⟩ : ∃ ly, lv tr y = ly := ⟨_, rfl⟩
          have HLY := Lib.hid hly
          clear hr hb h hy
          by_cases hneg : ly = -1
          · subst hneg
            go_wp2_with fail
            refine (value_calls (HOF.out.fr (by (repeat first | exact Fr.refl _ _ | assumption | apply Fr.n | apply Fr.d | apply Fr.a | refine Fr.s ?_ (.inr (by simp; try omega)) _))) HT.out HYL.out.1 HYL.out.2 (by omega)).mono ?_
            rw [hly]
            rintro e w2 ⟨rfl, hw2⟩
            subst hw2
            clear hly
            go_wp2
            go_roundg (n - (i + 1))
            case measure => omega
            case rel =>
              refine ⟨i + 1, by omega, hlt, Nat.le_refl _, by simp, Lib.hid (fun j z h1 h2 h3 => ?_), HI.out.step (by (repeat first | exact Fr.refl _ _ | assumption | apply Fr.n | apply Fr.d | apply Fr.a | refine Fr.s ?_ (.inr (by simp; try omega)) _))⟩
              by_cases e : j = i
              · subst e
                rw [HY.out] at h3
                obtain rfl := Option.some.inj h3
                exact (lv_mone HT.out).1 HLY.out
              · exact HF.out j z h1 (by omega) h3
          · have hge : decide (ly ≥ 0) = true := by
              have := lv_cases tr y
              rw [HLY.out] at this
              rw [decide_eq_true_eq]
              omega
            go_wp2_with fail
            refine (value_calls (HOF.out.fr (by (repeat first | exact Fr.refl _ _ | assumption | apply Fr.n | apply Fr.d | apply Fr.a | refine Fr.s ?_ (.inr (by simp; try omega)) _))) HT.out HYL.out.1 HYL.out.2 (by omega)).mono ?_
            rw [hly]
            rintro e w2 ⟨rfl, hw2⟩
            subst hw2
            clear hly
            obtain ⟨o, rfl⟩ : ∃ o, i = o + 2 := ⟨i - 2, by omega⟩
            have hny : -y ∉ tr := fun e => hneg (by rw [← HLY.out]; exact (lv_mone HT.out).2 e)
            have HO := Lib.hid (other_is HY.out hny fun j z h1 h2 h3 => HF.out j z h1 h2 h3)
            have HNY := Lib.hid hny
            have hgy : c'.getD (o + 2) 0 = y := by rw [List.getD_eq_getElem?_getD, HY.out]; rfl
            have hg1 : c'.getD 1 0 = x := by rw [List.getD_eq_getElem?_getD, HR.out.2.2.2.1]; rfl
            have HG := Lib.hid (And.intro hgy hg1)
            have hr := HI.out.row
            have r1 := owns_cell hr (by rw [HNC.out]) (iv_get HR.out.2.2.2.1)
            have rz1 := owns_frozen hr (by rw [HNC.out]) 1
            have rzy := owns_frozen hr (by rw [HNC.out]) (o + 2)
            clear hr hny hgy hg1 hneg
            go_wp2
            (refine wp_region_text (by kernel_rfl) (by kernel_rfl) ?_)
            go_wp2
            refine Strict.intro rfl ?_
            go_upto_region 11 with fail
            have hol : o + 2 < c'.length := by rw [HNC.out]; exact hlt
            refine abs_world (fun w' => Has W w' (visM p V (.slice (some ⟨ck, 0, none⟩) n cc) (swp c' 1 (o + 2)) (CV.eraseIdx k) (CV.map (·.1)) L x mb (.slice (some ⟨hg, 0, none⟩) m hc9) uv vv tv tr dn em ++ Ps)) ?_ ?_
            · have hI := HI.out
              unfold visM at hI
              rw [HNC.out] at hI
              have h2 := (Has.rowSet (j := o + 2) (Has.rowSet (j := 1) hI (by rw [iv_length]; omega) (.int .i64 y)) (by rw [List.length_set, iv_length]; omega) (.int .i64 x))
              rw [iv_set, iv_set] at h2
              unfold visM
              rw [swp_length, HNC.out]
              unfold swp
              rw [HG.out.1, HG.out.2]
              exact h2.step (by (repeat first | exact Fr.refl _ _ | assumption | apply Fr.n | apply Fr.d | apply Fr.a | refine Fr.s ?_ (.inr (by simp; try omega)) _))
            intro w4 h4
            clear HI HF HOF r1 rz1 rzy ry rl c0 cl
            have hyx : y ≠ x := by
              rintro rfl
              exact HNY.out HXT.out
            have HYX := Lib.hid hyx
            clear hyx
            have hr := h4.row
            have r1 : _ = some (Value.int .i64 y) := owns_cell (h4.row) (by rw [swp_length, HNC.out]) (iv_get (i := 1) (x := y) (by rw [swp_get (by omega) hol, if_neg (by omega), if_pos rfl]; exact HY.out))
            have rl : ck < w4.heap.size := owns_lt hr rfl
            have hb := (h4.bring 2).blk
            have c1 : _ = some _ := heap_eq_cell hb 1
            have cl := lt_of_block hb
            have HMP := Lib.hid (h4.bring 6).map
            have hml := HMP.out.lt
            have h5 := (h4.bring 7).pickKey y
            rw [wv_out HYX.out, wl_out HYX.out] at h5
            have hwl : (wl L y).length ≤ 1000000 := HWL.out y HYX.out
            have hmaxl : (1000001 : Nat) ≤ maxLen := by decide
            have HLL := Lib.hid (show (wl L y).length + 1 ≤ maxLen ∧ ((wl L y).length + 1) * 8 ≤ 140737488355328 from by omega)
            have H5 := Lib.hid h5
            clear h4 hr hb h5 hwl hmaxl
            refine wp_region_segs [([0, 1, 2, 3, 4, 5, 6, 7, 8, 9, 10, 11, 12, 13, 14, 15, 16, 17], [3, 6]), ([18], [])] (by kernel_rfl) (by kernel_rfl) ?_
            (simp only [wpSegs, pick, Array.getD_eq_getD_getElem?, List.getElem?_toArray, List.getElem?_cons_succ, List.getElem?_cons_zero, Option.getD_some])
            go_wp2_with (first | (at_lookup; refine wpList_lookup_wv (f := fun n : Int => Value.int .i64 n) (L := L) (k := y) rfl rfl rfl rfl (HMP.out) Try.underlying57 keysI (by kernel_rfl) ?_) | (at_builtin; refine append_has (W := W) (size := 1) (bytes := 8) (z := .int .i64 0) (e := 3) (n := (wl L y).length) (xs := nv (wl L y)) (news := [.int .i64 (k : Int)]) rfl rfl Try.underlying25 (by kernel_rfl) rfl (by decide) rfl rfl (H5.out.step (by (repeat first | exact Fr.refl _ _ | assumption | apply Fr.n | apply Fr.d | apply Fr.a | refine Fr.s ?_ (.inr (by simp; try omega)) _))) (by (repeat first | rw [if_pos (by omega)] | rw [if_neg (by omega)] | rw [hp_drew] | rw [hp_drewN] | rw [hp_alloc_size] | rw [hp_setCell_size] | rw [hp_alloc] | rw [hp_setCell] | rw [oMS] | rw [upd_cells] | rw [lSZ] | rw [lSS] | rfl)) rfl (by simp [Value.oneCell']) HLL.out.1 HLL.out.2 ?_))
            intro g2 cap2 w9 h9 hf9 hg9
            clear c1 cl r1 rl
            have hb := (h9.bring 4).blk
            have c1 : _ = some _ := heap_eq_cell hb 1
            have cl := lt_of_block hb
            have hr := (h9.bring 2).row
            have r1 : _ = some (Value.int .i64 y) := owns_cell hr (by rw [swp_length, HNC.out]) (iv_get (i := 1) (x := y) (by rw [swp_get (by omega) hol, if_neg (by omega), if_pos rfl]; exact HY.out))
            have HMP9 := Lib.hid (h9.bring 8).map
            have H9 := Lib.hid h9
            clear h9 hb hr hf9 H5 HMP
            go_wp2
            refine Mid.intro ⟨⟨again_cell (T := 57) rfl rfl rfl Try.underlying57 rfl c1 rfl, again_cell (T := 3) rfl rfl rfl Try.underlying3 rfl r1 rfl, trivial⟩, ?_⟩
            go_wp2_with (at_mapUpdate; refine wpList_update_wl (f := fun n : Int => Value.int .i64 n) (L := L) (k := y) (wl L y ++ [k]) rfl rfl rfl rfl rfl (HMP9.out) Try.underlying57 keysI ?_)
            intro w10 hm10 hf10 hs10
            have h10 := ((H9.out.bring 8).mapped hm10 hf10).ord 9 [1, 2, 0, 3, 4, 5, 6, 7, 8]
            have h11 := Has.nvSnoc (k := k) (l := wl L y) h10
            have h12 := (Has.layKey (L := out L x) (k := y) h11).ord 8 [2, 3, 4, 5, 6, 7, 1, 0]
            rw [← put_out HYX.out] at h12
            have H12 := Lib.hid h12
            clear h10 h11 h12 H9 HMP9 hm10 hf10 hs10 c1 cl r1
            go_wp2
            refine Mid.intro ⟨trivial, Strict.intro rfl ?_⟩
            go_wp2
            go_ret2
            refine ⟨true, true, swp c' 1 (o + 2), put L y (.slice (some ⟨g2, 0, none⟩) ((wl L y).length + 1) cap2, wl L y ++ [k]), tr, tv, rfl, ?_, (fun e => by first | rfl | cases e), fun kp => ?_⟩
            · refine vis_lay HP.out.1 ?_
              rw [HMH.out, ← HLEN.out, HNC.out]
              exact H12.out.step (by (repeat first | exact Fr.refl _ _ | assumption | apply Fr.n | apply Fr.d | apply Fr.a | refine Fr.s ?_ (.inr (by simp; try omega)) _))
            · rw [vstep_move HR.out.2.1 (by rw [HR.out.2.2.2.2.2.2, HR.out.2.2.2.2.2.1]; exact HNA.out) (by rw [HR.out.2.2.2.2.2.2]; exact HO.out), HR.out.2.2.2.2.2.2, HG.out.1, wl_upd]
              rfl
        · obtain rfl : i = n := by omega
          have r0 := owns_cell hr (by rw [HNC.out]) (iv_get HR.out.2.2.2.2.1)
          have HNO := Lib.hid (other_not (tr := tr) (c := c') fun j z h1 h2 => HF.out j z h1 (by have := (List.getElem?_eq_some_iff.1 h2).1; rw [HNC.out] at this; exact this) h2)
          clear hr hb h
          go_wp2_with fail
          refine (set_gen (((HI.out.step (by (repeat first | exact Fr.refl _ _ | assumption | apply Fr.n | apply Fr.d | apply Fr.a | refine Fr.s ?_ (.inr (by simp; try omega)) _))).ord 8 [2, 3, 4, 0, 1, 5, 6, 7])) HT.out hV HAL.out.1 HAL.out.2).mono ?_
          rintro e w3 ⟨rfl, tv2, h3⟩
          have H3 := Lib.hid (h3.ord 8 [3, 4, 0, 1, 2, 5, 6, 7])
          clear h3 HI HF HOF r0 rl c0 cl
          obtain ⟨sr, hsr⟩ : ∃ sr, setF tr a = sr := ⟨_, rfl⟩
          have HSR := Lib.hid hsr
          rw [hsr] at H3 ⊢
          clear hsr
          go_wp2
          go_ret2
          refine ⟨false, sr.2, c', L, sr.1, tv2, rfl, ?_, (fun e => by first | rfl | cases e), fun kp => ?_⟩
          · refine vis_lay HP.out.1 ?_
            rw [HMH.out, ← HLEN.out, HNC.out]
            exact H3.out.step (by (repeat first | exact Fr.refl _ _ | assumption | apply Fr.n | apply Fr.d | apply Fr.a | refine Fr.s ?_ (.inr (by simp; try omega)) _))
          · rw [← HSR.out]
            by_cases hf : -a ∈ tr
            · rw [vstep_conf HR.out.2.1 (by rw [HR.out.2.2.2.2.2.2, HR.out.2.2.2.2.2.1]; exact HNA.out) (by rw [HR.out.2.2.2.2.2.2]; exact HNO.out) (by rw [HR.out.2.2.2.2.2.2, HR.out.2.2.2.2.2.1]; exact hf), HR.out.2.2.2.2.2.2, setF_false HT.out hf]
              rfl
            · rw [vstep_unit HR.out.2.1 (by rw [HR.out.2.2.2.2.2.2, HR.out.2.2.2.2.2.1]; exact HNA.out) (by rw [HR.out.2.2.2.2.2.2]; exact HNO.out) (by rw [HR.out.2.2.2.2.2.2, HR.out.2.2.2.2.2.1]; exact hf), HR.out.2.2.2.2.2.2, HR.out.2.2.2.2.2.1, setF_new HNA.out hf]
              rfl
end Go.Proofs.Ytbpaadpocihahaa
end

section
/- refute: what follows is assumed. -/
namespace Go.Proofs.Ytbpaadpocihahaa
open Go Go.RowKit Go.Proofs.Rg Go.Proofs.Mp Go.Proofs.Hp Go.Proofs.Sv Go.Proofs.Rp
set_option linter.unusedVariables false
set_option linter.unusedSimpArgs false
/-- the list of a literal while it is visited, before its number i -/
def VisInv (W : World) (Ps : List Res) (V : Nat) (G : Int → Prop) (cl0 Cs : List (List Int)) (p : Nat) (tr : List Int) (dn : Nat) (us : List Int) (em : Bool) (x : Int) (old : List Nat) (mb : Nat) (cv uv vv : Value) (oa : Option Addr) (oc n : Nat) (wr : World) (i : Nat) (kp : List Nat) : Prop :=
  ∃ CV' L' tv' tr' buf, kp.length ≤ i ∧ (buf.length = n ∧ buf.take kp.length = kp ∧ buf.drop i = old.drop i) ∧ VI V G cl0 Cs (tr.take dn) tr x ⟨CV'.map (·.2), wl L', tr', kp⟩ (old.drop i) ∧
    Has W wr (visL p V CV' L' x mb cv uv vv tv' tr' dn em ++ (Hp.row 3 1 (.slice oa n oc) n (nv buf) :: Hp.row 3 1 uv us.length (iv us) :: Ps))
def PropPost (W : World) (Ps : List Res) (V : Nat) (G : Int → Prop) (cl0 Cs : List (List Int)) (p : Nat) (tr us : List Int) (em : Bool) (e : Ending) (w' : World) : Prop :=
  ∃ ok CV' L' tr' dn', e = .returned (.bool ok) ∧ Has W w' (engR p V CV' L' tr' dn' us em :: Ps) ∧ tr <+: tr' ∧ (ok = true → Core V G cl0 Cs (CV'.map (·.2)) (wl L') tr' tr'.length ∧ dn' = tr'.length) ∧ (ok = false → Conf V G cl0 Cs (CV'.map (·.2)) (wl L') tr')
set_option maxHeartbeats 16000000 in
set_option maxRecDepth 100000 in
theorem propagate_calls {W w : World} {Ps : List Res} {p V : Nat} {CV : List (Value × List Int)} {L : List (Int × (Value × List Nat))} {tr : List Int} {dn : Nat} {us : List Int} {em : Bool} (h : Has W w (engR p V CV L tr dn us em :: Ps)) (hV : V ≤ 65536)
    {G : Int → Prop} {cl0 Cs : List (List Int)} (hcore : Core V G cl0 Cs (CV.map (·.2)) (wl L) tr dn) (hdn : dn ≤ tr.length) (hG : Unit G cl0) (hS : cl0.length ≤ 900000 ∧ ∀ c ∈ cl0, c.length ≤ 1000000) :
    Calls Try.prog 39 #[.pointer (some ⟨p, 0, none⟩)] w (PropPost W Ps V G cl0 Cs p tr us em) := by
  have H := Lib.hid h
  have HC := Lib.hid (And.intro hcore hdn)
  have HG := Lib.hid hG
  have HS := Lib.hid hS
  clear h hcore hG hS hdn
  go_enter Try.func39, Try.ntmps39
  go_wp2
  go_loopg [10] V (fun gg _ wr => ∃ (CV' : List (Value × List Int)) (L' : List (Int × (Value × List Nat))) (tr' : List Int) (dn' : Nat), V - dn' ≤ gg ∧ Hid (Core V G cl0 Cs (CV'.map (·.2)) (wl L') tr' dn' ∧ dn' ≤ tr'.length ∧ tr <+: tr') ∧ Hid (Has W wr (engR p V CV' L' tr' dn' us em :: Ps)))
  case atStart => exact ⟨CV, L, tr, dn, by omega, Lib.hid ⟨HC.out.1, HC.out.2, List.prefix_refl _⟩, H⟩
  case round =>
    obtain ⟨CV1, L1, tr1, dn', hg, H1, H2⟩ := hrel
    clear HC H
    obtain ⟨mb, cv, uv, vv, tv, h⟩ := eng_open H2.out
    simp only [engL, List.cons_append, List.nil_append] at h
    have hb := h.blk
    obtain ⟨ta, tc, rfl, ht0, ht1⟩ := owns_form2 (h.bring 6).row
    have c1 : _ = some _ := heap_eq_cell hb 1
    have c5 : _ = some _ := heap_eq_cell hb 5
    have c6 : _ = some _ := heap_eq_cell hb 6
    have cl := lt_of_block hb
    have hl := tr_len H1.out.1.htr
    have hdl := H1.out.2.1
    by_cases hd : dn' < tr1.length
    · obtain ⟨q, hq⟩ : ∃ q, tr1[dn']? = some q := ⟨_, List.getElem?_eq_getElem hd⟩
      obtain ⟨tg, rfl⟩ : ∃ tg, ta = some ⟨tg, 0, none⟩ := by
        cases ta with
        | none => have := (ht0 rfl).1; omega
        | some ad => obtain ⟨q, rfl⟩ := ht1 ad rfl; exact ⟨q, rfl⟩
      have hr := (h.bring 6).row
      have ct := owns_cell hr rfl (iv_get hq)
      have tl := owns_lt hr rfl
      have hqV := H1.out.1.htr.1 q (List.mem_of_getElem? hq)
      obtain ⟨x, rfl⟩ : ∃ x, q = -x := ⟨-q, by omega⟩
      have hw1 : IntKind.i64.wrap x = x := IntWalk.i64_in _ (by omega)
      have HQ := Lib.hid hq
      have h1 := ((h.bring 4).pickKey x).ord 9 [2, 6, 7, 3, 4, 5, 1, 0, 8]
      simp only [List.filterMap_cons, List.filterMap_nil, List.getElem?_cons_zero, List.getElem?_cons_succ, List.drop_succ_cons, List.drop_zero, List.cons_append, List.nil_append, List.take_succ_cons, List.take_zero, List.eraseIdx_cons_succ, List.eraseIdx_zero, List.eraseIdx_cons_zero, List.tail_cons, Option.toList_some] at h1
      obtain ⟨oa, oc, hov, hon, hoa⟩ := owns_form2 (h1.bring 7).row
      rw [hov] at h1
      obtain ⟨n, hn⟩ : ∃ n, (wl L1 x).length = n := ⟨_, rfl⟩
      rw [hn] at h1 hov hon
      have hwl := wt_len H1.out.1.hwt x
      have hn6 : n ≤ 900000 := by
        have h2 := H1.out.1.hperm.1
        simp only [List.length_map] at h2 hwl
        have h3 := HS.out.1
        omega
      have H0 := Lib.hid (show Has W wr (visL p V CV1 L1 x mb cv uv vv (.slice (some ⟨tg, 0, none⟩) tr1.length tc) tr1 dn' em ++ (Hp.row 3 1 (.slice oa n oc) n (nv (wl L1 x)) :: Hp.row 3 1 uv us.length (iv us) :: Ps)) from h1)
      have HM := Lib.hid (h.bring 3).map
      have hml := HM.out.lt
      have HN := Lib.hid hn
      have HOA := Lib.hid hoa
      have HON := Lib.hid hon
      clear h h1 hb hr hq hqV ht0 ht1 hn hoa hon hwl
      go_wp2
      (refine wp_region_text (by kernel_rfl) (by kernel_rfl) ?_)
      go_wp2
      refine Strict.intro rfl ?_
      go_wp2
      (refine wp_region_text (by kernel_rfl) (by kernel_rfl) ?_)
      go_wp2
      refine Strict.intro rfl ?_
      go_wp2_with (at_lookup; refine wpList_lookup_wv (f := fun n : Int => Value.int .i64 n) (L := L1) (k := x) rfl rfl rfl rfl (HM.out.of_block rfl) Try.underlying57 keysI (by kernel_rfl) ?_; rw [hov])
      clear c1 c5 c6 cl ct tl hml HM hw1
      obtain ⟨old, hold⟩ : ∃ l, wl L1 x = l := ⟨_, rfl⟩
      go_loopg [5, 48] n (fun gg z5 z48 wr => ∃ (i : Nat) (kp : List Nat), i ≤ n ∧ n - i ≤ gg ∧ z5 = .slice oa kp.length oc ∧ z48 = .int .i64 (i : Int) ∧ Hid (VisInv W Ps V G cl0 Cs p tr1 dn' us em x old mb cv uv vv oa oc n wr i kp))
      case atStart =>
        refine ⟨0, [], Nat.zero_le _, by omega, rfl, rfl, Lib.hid ⟨CV1, L1, .slice (some ⟨tg, 0, none⟩) tr1.length tc, tr1, wl L1 x, Nat.le_refl _, ⟨HN.out, rfl, by rw [hold]⟩, ?_, H0.out.step (by (repeat first | exact Fr.refl _ _ | assumption | apply Fr.n | apply Fr.d | apply Fr.a | refine Fr.s ?_ (.inr (by simp; try omega)) _))⟩⟩
        rw [← hold]
        exact H1.out.1.start
      case round =>
        obtain ⟨i, kp, hi, hgg, rfl, rfl, HI⟩ := hrel
        clear H0 H2
        obtain ⟨CV', L', tv', tr', buf, hk, hbuf, hVI, hH⟩ := HI.out
        by_cases hin : i < n
        · obtain ⟨g, rfl⟩ : ∃ g, oa = some ⟨g, 0, none⟩ := by
            cases oa with
            | none => have := (HON.out rfl).1; omega
            | some ad => obtain ⟨g, rfl⟩ := HOA.out ad rfl; exact ⟨g, rfl⟩
          have holdl : old.length = n := by rw [← hold]; exact HN.out
          obtain ⟨k, hk0⟩ : ∃ k, old[i]? = some k := ⟨_, List.getElem?_eq_getElem (by omega)⟩
          have hdrop : old.drop i = k :: old.drop (i + 1) := by
            obtain ⟨h1, h2⟩ := List.getElem?_eq_some_iff.1 hk0
            rw [List.drop_eq_getElem_cons h1, h2]
          have hbk : buf[i]? = some k := by
            have h1 := congrArg (fun z : List Nat => z[0]?) hbuf.2.2
            simp only [List.getElem?_drop, Nat.add_zero] at h1
            rw [h1]; exact hk0
          rw [hdrop] at hVI
          obtain ⟨c, hc, hcx, hc2, hcn⟩ := hVI.here
          obtain ⟨cval, hp⟩ : ∃ cval, CV'[k]? = some (cval, c) := by
            simp only [List.getElem?_map] at hc
            obtain ⟨⟨q, c1⟩, h1, h2⟩ := Option.map_eq_some_iff.1 hc
            simp only at h2
            subst h2
            exact ⟨q, h1⟩
          have hcl := hVI.cl c (List.mem_of_getElem? hc)
          obtain ⟨c0, hc0, hpm⟩ := hVI.perm.mem (List.mem_of_getElem? hc)
          have hclen : c.length ≤ 1000000 := by rw [hpm.length_eq]; exact HS.out.2 c0 hc0
          have hcvl : CV'.length ≤ 900000 := by
            have h1 := hVI.perm.1
            have h2 := HS.out.1
            simp only [List.length_map] at h1
            omega
          have hwl : ∀ y, y ≠ x → (wl L' y).length ≤ 1000000 := fun y hy => by
            have h1 := wt_len hVI.wt y
            simp only [Sv.upd, if_neg hy, List.length_map] at h1
            omega
          have hxt : -x ∈ tr' := hVI.pre.subset (List.mem_of_getElem? HQ.out)
          have hog := (hH.bring 7).row
          have hoi := owns_cell hog rfl (nv_get hbk)
          have hol := owns_lt hog rfl
          have hno := owns_cap hog
          have HVS := Lib.hid (fun w1 (hf : Fr [] wr w1) => visit_calls (hH.step hf) hV hVI.tr hp hcx hc2 hclen hcn hcl.2.2 hxt (by omega) hwl)
          have HVI := Lib.hid hVI
          have HP := Lib.hid hp
          have HC2 := Lib.hid hc
          have HB := Lib.hid (And.intro hk hbuf)
          have hdr := Lib.hid (And.intro hdrop (And.intro hbk (And.intro hold holdl)))
          clear hVI hp hc hcx hc2 hcn hk hbuf hcl hH HI hdrop hbk hold hog hk0 hc0 hpm HON HOA HN holdl hclen hcvl hwl hxt
          go_wp2_with fail
          refine (HVS.out _ (by (repeat first | exact Fr.refl _ _ | assumption | apply Fr.n | apply Fr.d | apply Fr.a | refine Fr.s ?_ (.inr (by simp; try omega)) _))).mono ?_
          rintro e w2 ⟨mvd, ok, c', L2, tr2, tv2, rfl, h2, hmo, hvs⟩
          have hst := vstep_inv HVI.out (List.mem_of_getElem? HQ.out) (fun y hy => List.mem_of_mem_take hy) (fun P hP y hy => (H1.out.1.hpcs P hP).subset hy) HG.out
          rw [hvs kp] at hst
          have HST := Lib.hid hst
          have HMO := Lib.hid hmo
          have HW2 := Lib.hid h2
          have ho2 := (h2.bring 7).row
          clear hst hmo h2 hvs HVS hoi hol ho2
          cases mvd with
          | true =>
            obtain rfl : ok = true := HMO.out rfl
            have HV1 := Lib.hid (HST.out.1 rfl)
            clear HST HMO
            go_wp2
            go_roundg (n - (i + 1))
            case measure => omega
            case rel =>
              refine ⟨i + 1, kp, hin, Nat.le_refl _, rfl, rfl, Lib.hid ⟨CV'.set k (cval, c'), L2, tv2, tr2, buf, by have := HB.out.1; omega, ⟨HB.out.2.1, HB.out.2.2.1, ?_⟩, ?_, HW2.out.step (by (repeat first | exact Fr.refl _ _ | assumption | apply Fr.n | apply Fr.d | apply Fr.a | refine Fr.s ?_ (.inr (by simp; try omega)) _))⟩⟩
              · have h4 := congrArg (List.drop 1) HB.out.2.2.2
                rw [List.drop_drop, List.drop_drop] at h4
                exact h4
              · rw [List.map_set]; exact HV1.out
          | false =>
            go_wp2_with (at_builtin; refine inner1_has (W := W) (bytes := 8) (z := .int .i64 0) (e := 3) (g := g) (n := n) (cap := oc) (j := kp.length) (y := .int .i64 (k : Int)) (fr := (0, 0)) rfl rfl Try.underlying25 (by kernel_rfl) rfl rfl ((HW2.out.bring 7).step (by (repeat first | exact Fr.refl _ _ | assumption | apply Fr.n | apply Fr.d | apply Fr.a | refine Fr.s ?_ (.inr (by simp; try omega)) _))) (by (repeat first | rw [if_pos (by omega)] | rw [if_neg (by omega)] | rw [hp_drew] | rw [hp_drewN] | rw [hp_alloc_size] | rw [hp_setCell_size] | rw [hp_alloc] | rw [hp_setCell] | rw [oMS] | rw [upd_cells] | rw [lSZ] | rw [lSS] | rfl)) rfl ?k1 ?_)
            case k1 => have := HB.out.1; omega
            intro w9 h9 hf9 hs9
            rw [← nv_next] at h9
            have H9 := Lib.hid h9
            obtain ⟨buf', hbuf'⟩ : ∃ l, buf.take kp.length ++ [k] ++ buf.drop (kp.length + 1) = l := ⟨_, rfl⟩
            have hbn := buf_next HB.out.1 HB.out.2 hin hdr.out.1
            rw [hbuf'] at hbn H9
            have HBN := Lib.hid hbn
            clear h9 hf9 hs9 HW2 HMO hbn hbuf'
            cases ok with
            | true =>
              have HV1 := Lib.hid (HST.out.1 rfl)
              clear HST
              go_wp2
              go_roundg (n - (i + 1))
              case measure => omega
              case rel =>
                refine ⟨i + 1, kp ++ [k], hin, Nat.le_refl _, by simp, rfl, Lib.hid ⟨CV'.set k (cval, c'), L2, tv2, tr2, buf', by simp; exact HB.out.1, HBN.out, ?_, ?_⟩⟩
                · rw [List.map_set]; exact HV1.out
                · exact (H9.out.sink 7).step (by (repeat first | exact Fr.refl _ _ | assumption | apply Fr.n | apply Fr.d | apply Fr.a | refine Fr.s ?_ (.inr (by simp; try omega)) _))
            | false =>
              have HV1 := Lib.hid (HST.out.2 rfl).final
              have HPRE := Lib.hid (HST.out.2 rfl).pre
              clear HST
              have hno := owns_cap H9.out.row
              have hkl1 := HB.out.1
              have holdn : (old.drop (i + 1)).length = n - (i + 1) := by
                rw [List.length_drop, hdr.out.2.2.2]
              have HON9 := Lib.hid holdn
              clear holdn
              have hb := (H9.out.bring 1).blk
              have c1 : _ = some _ := heap_eq_cell hb 1
              have cl := lt_of_block hb
              have rl := owns_lt H9.out.row rfl
              clear hb
              by_cases hoc : i + 1 = oc
              · have hm0 : n - (i + 1) = 0 := by omega
                subst hoc
                go_upto_region 13 with fail
                refine wp_region_segs [([0, 1, 2, 3, 4, 5, 6, 7, 8, 9, 10], [3]), ([11], [])] (by kernel_rfl) (by kernel_rfl) ?_
                (simp only [wpSegs, pick, Array.getD_eq_getD_getElem?, List.getElem?_toArray, List.getElem?_cons_succ, List.getElem?_cons_zero, Option.getD_some])
                go_wp2
                have h10 := H9.out.step (w' := w9.drew) (by (repeat first | exact Fr.refl _ _ | assumption | apply Fr.n | apply Fr.d | apply Fr.a | refine Fr.s ?_ (.inr (by simp; try omega)) _))
                have htkk : (nv buf').take (kp.length + 1) = nv (kp ++ ([k] ++ old.drop (i + 1))) := by
                  have hnil : old.drop (i + 1) = [] := List.eq_nil_of_length_eq_zero (by rw [HON9.out]; exact hm0)
                  have e := HBN.out.2.1
                  rw [hnil]
                  unfold nv
                  rw [← List.map_take, List.append_nil]
                  congr 1
                  simpa using e
                clear c1 cl
                have h11 := h10.rowCut (m := kp.length + 1) (by omega)
                (rw [Nat.mul_one, htkk] at h11; clear htkk)
                have hl3 : kp.length + 1 = (kp ++ ([k] ++ old.drop (i + 1))).length := by
                  have h1 := HON9.out
                  simp only [List.length_append, List.length_cons, List.length_nil, h1]; omega
                have hb := (h11.bring 1).blk
                have c1 : _ = some _ := heap_eq_cell hb 1
                have cl := lt_of_block hb
                have HMP9 := Lib.hid (h11.bring 6).map
                have H11 := Lib.hid h11
                have HL3 := Lib.hid hl3
                clear h10 h11 hb hl3
                skip
                refine Mid.intro ⟨⟨again_cell (T := 57) rfl rfl rfl Try.underlying57 rfl c1 rfl, trivial⟩, ?_⟩
                go_wp2_with (at_mapUpdate; refine wpList_update_wl (f := fun n : Int => Value.int .i64 n) (L := L2) (k := x) (kp ++ ([k] ++ old.drop (i + 1))) rfl rfl rfl rfl rfl (HMP9.out) Try.underlying57 keysI ?_)
                intro w11 hm11 hf11 hs11
                have h12 := ((H11.out.bring 6).mapped hm11 hf11).ord 9 [1, 7, 0, 2, 3, 4, 5, 6, 8]
                have h14 := (Has.layKey (k := x) (L := L2) (h12.nvLen HL3.out)).ord 8 [2, 5, 6, 1, 0, 3, 4, 7]
                have H15 := Lib.hid h14
                clear h12 h14 H11 H9 HMP9 hm11 hf11 hs11 c1 cl
                go_wp2
                refine Mid.intro ⟨trivial, Strict.intro rfl ?_⟩
                go_wp2
                go_ret
                refine ⟨false, CV'.set k (cval, c'), put L2 x (.slice (some ⟨g, 0, none⟩) (kp.length + 1) (i + 1), kp ++ ([k] ++ old.drop (i + 1))), tr2, dn', rfl, eng_close (mb := mb) (cv := cv) (uv := uv) (vv := vv) (tv := tv2) ?_, H1.out.2.2.trans HPRE.out, (fun e => by cases e), fun _ => ?_⟩
                · exact H15.out.step (by (repeat first | exact Fr.refl _ _ | assumption | apply Fr.n | apply Fr.d | apply Fr.a | refine Fr.s ?_ (.inr (by simp; try omega)) _))
                · rw [List.map_set, wl_upd, ← List.append_assoc]
                  exact HV1.out
              · have hoc2 : ¬ oc = i + 1 := fun e => hoc e.symm
                go_upto_region 13 with fail
                refine wp_region_segs [([0, 1, 2, 3, 4, 5, 6, 7, 8, 9, 10], [3]), ([11], [])] (by kernel_rfl) (by kernel_rfl) ?_
                (simp only [wpSegs, pick, Array.getD_eq_getD_getElem?, List.getElem?_toArray, List.getElem?_cons_succ, List.getElem?_cons_zero, Option.getD_some])
                go_wp2_with (at_builtin; refine inner_has (W := W) (size := 1) (bytes := 8) (z := .int .i64 0) (e := 3) (g := g) (n := n) (cap := oc) (j := kp.length + 1) (m := n - (i + 1)) (news := nv (old.drop (i + 1))) rfl rfl Try.underlying25 (by kernel_rfl) rfl rfl (H9.out.step (by (repeat first | exact Fr.refl _ _ | assumption | apply Fr.n | apply Fr.d | apply Fr.a | refine Fr.s ?_ (.inr (by simp; try omega)) _))) ?l1 ?l2 (nv_one _) (by omega) ?_)
                case l1 => have h1 := HON9.out; simp only [List.length_drop, nv_length, Nat.mul_one] at h1 ⊢; exact h1
                case l2 =>
                  intro j u hj
                  (try rw [addr_add])
                  have h1 := HBN.out.2.2
                  rw [← h1] at hj
                  unfold nv at hj
                  rw [List.map_drop, List.getElem?_drop] at hj
                  exact owns_cell (owns_of_block H9.out.row (fun q _ => by first | rfl | simp)) rfl hj
                intro w10 h10 hf10 hs10
                clear hf10 c1 cl
                have h11 := h10.rowCut (m := kp.length + 1 + (n - (i + 1))) (by omega)
                rw [Nat.mul_one, nv_conf _ HBN.out.2.1 HON9.out] at h11
                have hl3 : kp.length + 1 + (n - (i + 1)) = (kp ++ ([k] ++ old.drop (i + 1))).length := by
                  have h1 := HON9.out
                  simp only [List.length_append, List.length_cons, List.length_nil, h1]; omega
                have hb := (h11.bring 1).blk
                have c1 : _ = some _ := heap_eq_cell hb 1
                have cl := lt_of_block hb
                have HMP9 := Lib.hid (h11.bring 6).map
                have H11 := Lib.hid h11
                have HL3 := Lib.hid hl3
                clear h10 h11 hb hl3
                go_wp2
                refine Mid.intro ⟨⟨again_cell (T := 57) rfl rfl rfl Try.underlying57 rfl c1 rfl, trivial⟩, ?_⟩
                go_wp2_with (at_mapUpdate; refine wpList_update_wl (f := fun n : Int => Value.int .i64 n) (L := L2) (k := x) (kp ++ ([k] ++ old.drop (i + 1))) rfl rfl rfl rfl rfl (HMP9.out) Try.underlying57 keysI ?_)
                intro w11 hm11 hf11 hs11
                have h12 := ((H11.out.bring 6).mapped hm11 hf11).ord 9 [1, 7, 0, 2, 3, 4, 5, 6, 8]
                have h14 := (Has.layKey (k := x) (L := L2) (h12.nvLen HL3.out)).ord 8 [2, 5, 6, 1, 0, 3, 4, 7]
                have H15 := Lib.hid h14
                clear h12 h14 H11 H9 HMP9 hm11 hf11 hs11 c1 cl
                go_wp2
                refine Mid.intro ⟨trivial, Strict.intro rfl ?_⟩
                go_wp2
                go_ret
                refine ⟨false, CV'.set k (cval, c'), put L2 x (.slice (some ⟨g, 0, none⟩) (kp.length + 1 + (n - (i + 1))) oc, kp ++ ([k] ++ old.drop (i + 1))), tr2, dn', rfl, eng_close (mb := mb) (cv := cv) (uv := uv) (vv := vv) (tv := tv2) ?_, H1.out.2.2.trans HPRE.out, (fun e => by cases e), fun _ => ?_⟩
                · exact H15.out.step (by (repeat first | exact Fr.refl _ _ | assumption | apply Fr.n | apply Fr.d | apply Fr.a | refine Fr.s ?_ (.inr (by simp; try omega)) _))
                · rw [List.map_set, wl_upd, ← List.append_assoc]
                  exact HV1.out
        · obtain rfl : i = n := by omega
          have holdl : old.length = i := by rw [← hold]; exact HN.out
          have hkn : kp.length ≤ i := hk
          rw [List.drop_of_length_le (by omega)] at hVI
          have HF := Lib.hid (hVI.final HQ.out H1.out.1.hpcs)
          have HPRE := Lib.hid hVI.pre
          have hb := (hH.bring 0).blk
          have c1 : _ = some _ := heap_eq_cell hb 1
          have cl := lt_of_block hb
          have hro : Has W wr (Hp.row 3 1 (.slice oa kp.length oc) kp.length (nv kp) :: (visL p V CV' L' x mb cv uv vv tv' tr' dn' em ++ (Hp.row 3 1 uv us.length (iv us) :: Ps))) := by
            have h8 := hH.bring 7
            cases oa with
            | none =>
              have h0 := HON.out rfl
              obtain ⟨rfl, rfl⟩ := h0
              obtain rfl : kp = [] := List.eq_nil_of_length_eq_zero (by omega)
              have : buf = [] := List.eq_nil_of_length_eq_zero hbuf.1
              subst this
              exact h8
            | some ad =>
              obtain ⟨g, rfl⟩ := HOA.out ad rfl
              have h9 := Has.rowCut (m := kp.length) h8 (by omega)
              have e1 : (nv buf).take (kp.length * 1) = nv kp := by rw [Nat.mul_one]; unfold nv; rw [← List.map_take, hbuf.2.1]
              rw [e1] at h9
              exact h9
          have H9 := Lib.hid hro
          have HMP := Lib.hid (hro.bring 6).map
          clear hro hH hVI hbuf hk hb HI hold HN HOA HON
          go_wp2_with (at_mapUpdate; refine wpList_update_wl (f := fun n : Int => Value.int .i64 n) (L := L') (k := x) kp rfl rfl rfl rfl rfl (HMP.out) Try.underlying57 keysI ?_)
          intro w9 hm9 hf9 hs9
          have h10 := ((H9.out.bring 6).mapped hm9 hf9).ord 9 [1, 7, 0, 2, 3, 4, 5, 6, 8]
          have h12 := (Has.layKey (k := x) (L := L') (l := kp) h10).ord 8 [2, 5, 6, 1, 0, 3, 4, 7]
          have H12 := Lib.hid h12
          have hb := h12.blk
          clear c1 cl
          have c6 : _ = some _ := heap_eq_cell hb 6
          have z6 := heap_eq_frozen hb 6
          have cl := lt_of_block hb
          clear h10 h12 H9 hm9 HMP hb
          go_wp2
          go_roundg (V - (dn' + 1))
          case measure => omega
          case rel =>
            refine ⟨CV', put L' x (.slice oa kp.length oc, kp), tr', dn' + 1, Nat.le_refl _, Lib.hid ⟨?_, by have := HPRE.out.length_le; omega, H1.out.2.2.trans HPRE.out⟩, Lib.hid (eng_close (mb := mb) (cv := cv) (uv := uv) (vv := vv) (tv := tv') ?_)⟩
            · rw [wl_upd]; exact HF.out
            · simp only [engL, List.cons_append, List.nil_append]
              have h5 := H12.out.blkSet 6 (.int .i64 ((dn' + 1 : Nat) : Int))
              exact h5.step (by (repeat first | exact Fr.refl _ _ | assumption | apply Fr.n | apply Fr.d | apply Fr.a | refine Fr.s ?_ (.inr (by simp; try omega)) _))
    · obtain rfl : dn' = tr1.length := by omega
      clear h hb ht0 ht1
      go_wp2
      (refine wp_region_text (by kernel_rfl) (by kernel_rfl) ?_)
      go_wp2
      refine Strict.intro rfl ?_
      go_wp2
      go_ret
      exact ⟨true, CV1, L1, tr1, tr1.length, rfl, H2.out.step (by (repeat first | exact Fr.refl _ _ | assumption | apply Fr.n | apply Fr.d | apply Fr.a | refine Fr.s ?_ (.inr (by simp; try omega)) _)), H1.out.2.2, fun _ => ⟨H1.out.1, rfl⟩, (fun e => by cases e)⟩
end Go.Proofs.Ytbpaadpocihahaa
end

section
/- refute: undo. -/
namespace Go.Proofs.Ytbpaadpocihahaa
open Go Go.RowKit Go.Proofs.Rg Go.Proofs.Mp Go.Proofs.Hp Go.Proofs.Sv Go.Proofs.Rp
set_option linter.unusedVariables false
set_option linter.unusedSimpArgs false
/-- a function's body, entered by a call or by a deferred call -/
theorem both_of_wp {P : Program} {f : FuncId} {fn : Func} {c : Code} {args : Array Value} {w : World} {R : Ending → World → Prop} (hf : P.funcs[f]? = some fn) (hb : fn.body = some c)
    (h : c.wp P (bodyPost P fn R) { tmps := args ++ Array.replicate (fn.ntmps - args.size) undef, defers := [] } w) : Calls P f args w R ∧ ∀ u, CallsD P f args u w fun e u' w' => u' = u ∧ R e w' :=
  ⟨calls_of_wp hf hb h, fun u => callsD_of_wp hf hb h⟩
theorem run_max2 {x m : Int} (h : max x (-x) = m) (w : World) : (Builtin.max_ #[3, 3] 3 #[.int .i64 x, .int .i64 (-x)]).run Try.prog w = .ok (.int .i64 m) w := by
  subst h
  unfold Builtin.max_
  simp [Builtin.max2]
  omega
/-- the things while variables are struck -/
def undoL (p V : Nat) (CV : List (Value × List Int)) (L : List (Int × (Value × List Nat))) (mb : Nat) (cv uv vv tv : Value) (tr : List Int) (dn : Nat) (us : List Int) (em : Bool) (n i : Nat) : List Res :=
  [blk p (.cells #[cv, .map (some mb), uv, .bool em, vv, tv, .int .i64 (dn : Int)] 60 (0, 0)),
   Hp.row 25 1 cv CV.length (CV.map (·.1)), bun (CV.map rowC), mapT mb (fun n : Int => Value.int .i64 n) (fun q : Value × List Nat => q.1) L, bun (L.map (rowI 3)),
   Hp.row 77 1 vv (V + 1) (valz V tr (((tr.drop n).take i).map Int.natAbs)), Hp.row 3 1 tv tr.length (iv tr), Hp.row 3 1 uv us.length (iv us)]
set_option maxHeartbeats 8000000 in
set_option maxRecDepth 100000 in
theorem undo_both {W w : World} {Ps : List Res} {p V : Nat} {CV : List (Value × List Int)} {L : List (Int × (Value × List Nat))} {tr : List Int} {dn : Nat} {us : List Int} {em : Bool} (h : Has W w (engR p V CV L tr dn us em :: Ps)) (ht : TrOk V tr) (hV : V ≤ 65536) {n : Nat} (hn : n ≤ tr.length) :
    Calls Try.prog 47 #[.pointer (some ⟨p, 0, none⟩), .int .i64 (n : Int)] w (fun e w' => e = .returned (.tuple #[]) ∧ Has W w' (engR p V CV L (tr.take n) n us em :: Ps)) ∧ ∀ u, CallsD Try.prog 47 #[.pointer (some ⟨p, 0, none⟩), .int .i64 (n : Int)] u w fun e u' w' => u' = u ∧ e = .returned (.tuple #[]) ∧ Has W w' (engR p V CV L (tr.take n) n us em :: Ps) := by
  obtain ⟨mb, cv, uv, vv, tv, h⟩ := eng_open h
  simp only [engL, List.cons_append, List.nil_append] at h
  have hl := tr_len ht
  obtain ⟨ta, tc, rfl, ht0, ht1⟩ := owns_form2 (h.bring 6).row
  obtain ⟨gv0, capv, rfl, hgv, _⟩ := owns_form (h.bring 5).row
  obtain ⟨gv, rfl⟩ := hgv (by omega)
  have hb := h.blk
  have c5 : _ = some _ := heap_eq_cell hb 5
  have z5 := heap_eq_frozen hb 5
  have z6 := heap_eq_frozen hb 6
  have cl := lt_of_block hb
  have HT := Lib.hid ht
  have H := Lib.hid h
  cases ta with
  | none =>
    obtain ⟨h0, rfl⟩ := ht0 rfl
    have hnil : tr = [] := List.eq_nil_of_length_eq_zero h0
    subst hnil
    obtain rfl : n = 0 := by simpa using hn
    clear h hb ht ht0 ht1 h0 hgv hl hn
    simp only [List.length_nil] at c5
    refine both_of_wp Try.func47 rfl ?_
    simp only [Try.ntmps47, List.size_toArray, List.length_cons, List.length_nil, Nat.reduceAdd, Nat.reduceSub, Array.replicate_succ, Array.replicate_zero, List.push_toArray, List.append_toArray, List.nil_append, List.cons_append]
    go_wp2
    go_loopg [13] 0 (fun gg z wr => z = .int .i64 0 ∧ Hid (Fr [] w wr))
    case atStart => exact ⟨rfl, Lib.hid (by (repeat first | exact Fr.refl _ _ | assumption | apply Fr.n | apply Fr.d | apply Fr.a | refine Fr.s ?_ (.inr (by simp; try omega)) _))⟩
    case round =>
      obtain ⟨rfl, HF⟩ := hrel
      have h1 := H.out.step HF.out
      have hb := h1.blk
      clear c5 z5 z6 cl
      have c5 : _ = some _ := heap_eq_cell hb 5
      have z5 := heap_eq_frozen hb 5
      have c6 : _ = some _ := heap_eq_cell hb 6
      have z6 := heap_eq_frozen hb 6
      have cl := lt_of_block hb
      have H1 := Lib.hid h1
      clear h1 hb H HF
      go_wp2
      go_end0
      have h9 := ((H1.out.blkSet 5 (.slice none 0 0)).blkSet 6 (.int .i64 ((0 : Nat) : Int)))
      refine ⟨rfl, eng_close (mb := mb) (cv := cv) (uv := uv) (vv := .slice (some ⟨gv, 0, none⟩) (V + 1) capv) (tv := .slice none 0 0) ?_⟩
      exact h9.step (by (repeat first | exact Fr.refl _ _ | assumption | apply Fr.n | apply Fr.d | apply Fr.a | refine Fr.s ?_ (.inr (by simp; try omega)) _))
  | some ad =>
    obtain ⟨tg, rfl⟩ := ht1 ad rfl
    have htc := owns_cap (h.bring 6).row
    obtain ⟨m, hm⟩ : ∃ m, tr.length - n = m := ⟨_, rfl⟩
    have H0 := Lib.hid (show Has W w (undoL p V CV L mb cv uv (.slice (some ⟨gv, 0, none⟩) (V + 1) capv) (.slice (some ⟨tg, 0, none⟩) tr.length tc) tr dn us em n 0 ++ Ps) from by
      unfold undoL
      rw [List.take_zero, List.map_nil, valz_nil]
      exact h)
    clear h hb ht ht0 ht1 hgv H
    by_cases hnc : n = tc
    · obtain rfl : m = 0 := by omega
      subst hnc
      refine both_of_wp Try.func47 rfl ?_
      simp only [Try.ntmps47, List.size_toArray, List.length_cons, List.length_nil, Nat.reduceAdd, Nat.reduceSub, Array.replicate_succ, Array.replicate_zero, List.push_toArray, List.append_toArray, List.nil_append, List.cons_append]
      go_wp2
      clear c5
      go_loopg [13] 0 (fun gg z wr => ∃ i : Nat, i = 0 ∧ z = .int .i64 0 ∧ Hid (Has W wr (undoL p V CV L mb cv uv (.slice (some ⟨gv, 0, none⟩) (V + 1) capv) (.slice (some ⟨tg, 0, none⟩) tr.length n) tr dn us em n i ++ Ps)))
      case atStart => exact ⟨0, rfl, rfl, Lib.hid (H0.out.step (by (repeat first | exact Fr.refl _ _ | assumption | apply Fr.n | apply Fr.d | apply Fr.a | refine Fr.s ?_ (.inr (by simp; try omega)) _)))⟩
      case round =>
        obtain ⟨i, hi0, rfl, HI⟩ := hrel
        clear H0 cl
        have h1 := HI.out
        clear HI
        have hb := (h1.bring 0).blk
        have c5 : _ = some _ := heap_eq_cell hb 5
        have z5 := heap_eq_frozen hb 5
        have c6 : _ = some _ := heap_eq_cell hb 6
        have z6 := heap_eq_frozen hb 6
        have cl := lt_of_block hb
        have hti : ((tr.drop n).take i) = tr.drop n := List.take_of_length_le (by simp; omega)
        unfold undoL at h1
        rw [hti, valz_all HT.out] at h1
        simp only [List.cons_append, List.nil_append] at h1
        have H1 := Lib.hid h1
        clear h1 hb hti
        go_wp2
        go_end0
        have h9 := ((H1.out.blkSet 5 (.slice (some ⟨tg, 0, none⟩) n n)).blkSet 6 (.int .i64 (n : Int)))
        refine ⟨rfl, eng_close (mb := mb) (cv := cv) (uv := uv) (vv := .slice (some ⟨gv, 0, none⟩) (V + 1) capv) (tv := (.slice (some ⟨tg, 0, none⟩) n n)) ?_⟩
        have e1 : (tr.take n).length = n := by rw [List.length_take]; omega
        have e2 : iv (tr.take n) = (iv tr).take (n * 1) := by unfold iv; rw [Nat.mul_one, List.map_take]
        simp only [engL, List.cons_append, List.nil_append]
        rw [e1, e2]
        have h10 := ((h9.bring 6).rowCut (m := n) (by omega)).ord 8 [1, 2, 3, 4, 5, 6, 0, 7]
        exact h10.step (by (repeat first | exact Fr.refl _ _ | assumption | apply Fr.n | apply Fr.d | apply Fr.a | refine Fr.s ?_ (.inr (by simp; try omega)) _))
    · have hnc2 : ¬ tc = n := fun e => hnc e.symm
      refine both_of_wp Try.func47 rfl ?_
      simp only [Try.ntmps47, List.size_toArray, List.length_cons, List.length_nil, Nat.reduceAdd, Nat.reduceSub, Array.replicate_succ, Array.replicate_zero, List.push_toArray, List.append_toArray, List.nil_append, List.cons_append]
      go_wp2
      clear c5
      go_loopg [13] m (fun gg z wr => ∃ i : Nat, i ≤ m ∧ m - i ≤ gg ∧ z = .int .i64 (i : Int) ∧ Hid (Has W wr (undoL p V CV L mb cv uv (.slice (some ⟨gv, 0, none⟩) (V + 1) capv) (.slice (some ⟨tg, 0, none⟩) tr.length tc) tr dn us em n i ++ Ps)))
      case atStart => exact ⟨0, Nat.zero_le _, by omega, rfl, Lib.hid (H0.out.step (by (repeat first | exact Fr.refl _ _ | assumption | apply Fr.n | apply Fr.d | apply Fr.a | refine Fr.s ?_ (.inr (by simp; try omega)) _)))⟩
      case round =>
        obtain ⟨i, hi, hgg, rfl, HI⟩ := hrel
        clear H0 cl
        have h1 := HI.out
        by_cases hin : i < m
        · obtain ⟨x, hx⟩ : ∃ x, tr[n + i]? = some x := ⟨_, List.getElem?_eq_getElem (by omega)⟩
          have hxm := HT.out.1 x (List.mem_of_getElem? hx)
          obtain ⟨v, hv⟩ : ∃ v, x.natAbs = v := ⟨_, rfl⟩
          have h6 := (h1.bring 6).row
          have h5 := (h1.bring 5).row
          have hb := (h1.bring 0).blk
          have hcx := owns_cell h6 rfl (iv_get hx)
          have hcl := owns_lt h6 rfl
          have c4 : _ = some _ := heap_eq_cell hb 4
          have cl := lt_of_block hb
          have hvl : v < (valz V tr (((tr.drop n).take i).map Int.natAbs)).length := by rw [valz_len]; omega
          obtain ⟨y, hy⟩ : ∃ y, (valz V tr (((tr.drop n).take i).map Int.natAbs))[v]? = some y := ⟨_, List.getElem?_eq_getElem hvl⟩
          have hcv := owns_cell h5 rfl hy
          have hzv := owns_frozen h5 rfl v
          have hvlt := owns_lt h5 rfl
          have hmx := fun w => run_max2 (x := x) (m := (v : Int)) (by omega) w
          have hw1 : IntKind.i64.wrap (-x) = -x := IntWalk.i64_in _ (by omega)
          have hvV : v < V + 1 := by omega
          have htk : (((tr.drop n).take i).map Int.natAbs) ++ [v] = ((tr.drop n).take (i + 1)).map Int.natAbs := by
            rw [List.take_add_one, List.getElem?_drop, hx, List.map_append]
            simp [hv]
          have H1 := Lib.hid (((h1.bring 5).rowSet hvl (.int .i8 0)))
          rw [valz_set, htk] at H1
          clear h1 h6 h5 hb htk hxm hvl hy hx hv HI
          go_wp2
          go_roundg (m - (i + 1))
          case measure => omega
          case rel => exact ⟨i + 1, hin, Nat.le_refl _, by simp, Lib.hid ((H1.out.ord 8 [1, 2, 3, 4, 5, 0, 6, 7]).step (by (repeat first | exact Fr.refl _ _ | assumption | apply Fr.n | apply Fr.d | apply Fr.a | refine Fr.s ?_ (.inr (by simp; try omega)) _)))⟩
        · obtain rfl : i = m := by omega
          clear HI
          have hb := (h1.bring 0).blk
          have c5 : _ = some _ := heap_eq_cell hb 5
          have z5 := heap_eq_frozen hb 5
          have c6 : _ = some _ := heap_eq_cell hb 6
          have z6 := heap_eq_frozen hb 6
          have cl := lt_of_block hb
          have hti : ((tr.drop n).take i) = tr.drop n := List.take_of_length_le (by simp; omega)
          unfold undoL at h1
          rw [hti, valz_all HT.out] at h1
          simp only [List.cons_append, List.nil_append] at h1
          have H1 := Lib.hid h1
          clear h1 hb hti
          go_wp2
          go_end0
          have h9 := ((H1.out.blkSet 5 (.slice (some ⟨tg, 0, none⟩) n tc)).blkSet 6 (.int .i64 (n : Int)))
          refine ⟨rfl, eng_close (mb := mb) (cv := cv) (uv := uv) (vv := .slice (some ⟨gv, 0, none⟩) (V + 1) capv) (tv := (.slice (some ⟨tg, 0, none⟩) n tc)) ?_⟩
          have e1 : (tr.take n).length = n := by rw [List.length_take]; omega
          have e2 : iv (tr.take n) = (iv tr).take (n * 1) := by unfold iv; rw [Nat.mul_one, List.map_take]
          simp only [engL, List.cons_append, List.nil_append]
          rw [e1, e2]
          have h10 := ((h9.bring 6).rowCut (m := n) (by omega)).ord 8 [1, 2, 3, 4, 5, 6, 0, 7]
          exact h10.step (by (repeat first | exact Fr.refl _ _ | assumption | apply Fr.n | apply Fr.d | apply Fr.a | refine Fr.s ?_ (.inr (by simp; try omega)) _))
theorem undo_calls {W w : World} {Ps : List Res} {p V : Nat} {CV : List (Value × List Int)} {L : List (Int × (Value × List Nat))} {tr : List Int} {dn : Nat} {us : List Int} {em : Bool} (h : Has W w (engR p V CV L tr dn us em :: Ps)) (ht : TrOk V tr) (hV : V ≤ 65536) {n : Nat} (hn : n ≤ tr.length) :
    Calls Try.prog 47 #[.pointer (some ⟨p, 0, none⟩), .int .i64 (n : Int)] w fun e w' => e = .returned (.tuple #[]) ∧ Has W w' (engR p V CV L (tr.take n) n us em :: Ps) := (undo_both h ht hV hn).1
end Go.Proofs.Ytbpaadpocihahaa
end
