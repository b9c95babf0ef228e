/- Own texts of this claim, part 9: no condition. -/
import Derived.Deep.LoopGhost
import Derived.Test.YtbpaadpocihahaaZM6
import Derived.Test.YtbpaadpocihahaaZM7
set_option linter.unusedVariables false
set_option linter.unusedSimpArgs false
section
/- refute: whether a clause follows. -/
namespace Go.Proofs.Ytbpaadpocihahaa
open Go Go.RowKit Go.Proofs.Rg Go.Proofs.Mp Go.Proofs.Hp Go.Proofs.Sv Go.Proofs.Rp
set_option linter.unusedVariables false
set_option linter.unusedSimpArgs false
/-- a row of ints that can be read wherever some things are -/
def IntsSrc (W : World) (Ps : List Res) (a : Option Addr) (c : Nat) (l : List Int) : Prop := ∀ w Qs, Has W w Qs → (∀ P ∈ Ps, P ∈ Qs) → IntsAt w (.slice a l.length c) l
theorem IntsSrc.base {W : World} {Ps : List Res} {a : Option Addr} {c : Nat} {l : List Int} (h : IntsAt W (.slice a l.length c) l) : IntsSrc W Ps a c l := fun w Qs hw _ => h.fr hw.fr
theorem IntsSrc.more {W : World} {Ps Rs : List Res} {a : Option Addr} {c : Nat} {l : List Int} (h : IntsSrc W Ps a c l) (hs : ∀ P ∈ Ps, P ∈ Rs) : IntsSrc W Rs a c l := fun w Qs hw hP => h w Qs hw fun P hp => hP P (hs P hp)
theorem IntsSrc.nil {W : World} {Ps : List Res} : IntsSrc W Ps none 0 [] := fun w Qs _ _ => ⟨rfl, none, 0, rfl, fun h => absurd h (by simp)⟩
def FollowsPost (W : World) (Ps : List Res) (V : Nat) (F : List (List Int)) (p : Nat) (us : List Int) (em : Bool) (c : List Int) (e : Ending) (w' : World) : Prop :=
  ∃ CV' L', e = .returned (.bool (folB F c)) ∧ Has W w' (engR p V CV' L' [] 0 us em :: Ps) ∧ Eng V F (CV'.map (·.2)) (wl L') us em
theorem neg_take (c : List Int) (i : Nat) : neg (c.take i) = (neg c).take i := by unfold neg; rw [List.map_take]
theorem neg_length (c : List Int) : (neg c).length = c.length := by simp [neg]
theorem neg_next {c : List Int} {i : Nat} {x : Int} (h : c[i]? = some x) : (neg c).take (i + 1) = (neg c).take i ++ [-x] := by
  rw [List.take_add_one]
  congr 1
  unfold neg
  rw [List.getElem?_map, h]; rfl
theorem us_next {us : List Int} {i : Nat} {x : Int} (h : us[i]? = some x) : us.take (i + 1) = us.take i ++ [x] := by rw [List.take_add_one, h]; rfl
theorem app_take (A us : List Int) (i : Nat) : A ++ us = (A ++ us.take i) ++ us.drop i := by rw [List.append_assoc, List.take_append_drop]
set_option maxHeartbeats 8000000 in
set_option maxRecDepth 100000 in
theorem follows_calls {W w : World} {Ps : List Res} {p V : Nat} {CV : List (Value × List Int)} {L : List (Int × (Value × List Nat))} {us : List Int} {em : Bool} (h : Has W w (engR p V CV L [] 0 us em :: Ps)) (hV : V ≤ 65536)
    {F : List (List Int)} (hE : Eng V F (CV.map (·.2)) (wl L) us em) (hS : F.length ≤ 900000 ∧ ∀ c ∈ F, c.length ≤ 1000000) {a : Option Addr} {cc : Nat} {c : List Int} (hc : IntsSrc W Ps a cc c) (hl : c.length ≤ 1000000) (hcV : ∀ x ∈ c, x ≠ 0 ∧ x.natAbs ≤ V) :
    Calls Try.prog 27 #[.pointer (some ⟨p, 0, none⟩), .slice a c.length cc] w (FollowsPost W Ps V F p us em c) := by
  obtain ⟨n, hn⟩ : ∃ n, c.length = n := ⟨_, rfl⟩
  have HN := Lib.hid hn
  have HE := Lib.hid hE
  have HS := Lib.hid hS
  have HCS := Lib.hid hc
  have HCV := Lib.hid hcV
  have H := Lib.hid h
  obtain ⟨mb, cv, uv, vv, tv, h⟩ := eng_open h
  simp only [engL, List.cons_append, List.nil_append] at h
  have hb := h.blk
  have c3 : _ = some _ := heap_eq_cell hb 3
  have cl := lt_of_block hb
  rw [hn] at hl ⊢
  have hul : us.length ≤ 900000 := by rw [hE.hus]; exact Nat.le_trans (ones_len F) hS.1
  clear h hb hE hS hc hcV hn
  cases em with
  | true =>
    go_enter_defers Try.func27, Try.ntmps27
    go_wp2
    refine leaves_cons (f := 47) (args := #[.pointer (some ⟨p, 0, none⟩), .int .i64 0]) (by simp) (by simp [go_sem]) ?_
    refine CallsD.mono ((undo_both (n := 0) (H.out.step (by (repeat first | exact Fr.refl _ _ | assumption | apply Fr.n | apply Fr.d | apply Fr.a | refine Fr.s ?_ (.inr (by simp; try omega)) _))) ⟨by simp, by simp⟩ hV (Nat.zero_le _)).2 _) ?_
    rintro e u' wz ⟨rfl, rfl, hz⟩
    rw [List.take_zero] at hz
    exact ⟨_, results_tmp rfl _ _ _, CV, L, by rw [HE.out.empty rfl]; rfl, hz, HE.out⟩
  | false =>
    go_enter_defers Try.func27, Try.ntmps27
    go_wp2
    clear c3 cl
    go_loopg [16] n (fun gg z wr => ∃ (i : Nat) (tr : List Int), i ≤ n ∧ n - i ≤ gg ∧ z = .int .i64 (i : Int) ∧ Hid (setAll [] ((neg c).take i) = some tr) ∧ Hid (Has W wr (engR p V CV L tr 0 us false :: Ps)))
    case atStart => exact ⟨0, [], Nat.zero_le _, by omega, rfl, Lib.hid rfl, Lib.hid (H.out.step (by (repeat first | exact Fr.refl _ _ | assumption | apply Fr.n | apply Fr.d | apply Fr.a | refine Fr.s ?_ (.inr (by simp; try omega)) _)))⟩
    case round =>
      obtain ⟨i, tr, hi, hgg, rfl, HT, HI⟩ := hrel
      clear H
      have htk := setAll_some (V := V) (fun x hx => neg_V HCV.out x (List.mem_of_mem_take hx)) ⟨by simp, by simp⟩ HT.out
      have HTK := Lib.hid htk
      clear htk
      by_cases hin : i < n
      · obtain ⟨x, hx⟩ : ∃ x, c[i]? = some x := ⟨_, List.getElem?_eq_getElem (by rw [HN.out]; exact hin)⟩
        have hxV := HCV.out x (List.mem_of_getElem? hx)
        have hI := HCS.out _ _ HI.out (fun P hP => by simp [hP])
        rw [HN.out] at hI
        obtain ⟨g, off, rfl, hgl, hcx⟩ := IntsAt.get (by rw [HN.out]; exact hI) hx
        have hw1 : IntKind.i64.wrap (-x) = -x := IntWalk.i64_in _ (by omega)
        have HX := Lib.hid hx
        have HXV := Lib.hid (show -x ≠ 0 ∧ (-x).natAbs ≤ V from by omega)
        clear hI hx hxV
        go_wp2_with fail
        refine (set_calls (HI.out.step (by (repeat first | exact Fr.refl _ _ | assumption | apply Fr.n | apply Fr.d | apply Fr.a | refine Fr.s ?_ (.inr (by simp; try omega)) _))) HTK.out.1 hV HXV.out.1 HXV.out.2).mono ?_
        rintro e w2 ⟨rfl, h2⟩
        have hsn := setAll_snoc (x := -x) HT.out
        rw [← neg_next HX.out] at hsn
        have hok := setF_ok HTK.out.1 HXV.out
        obtain ⟨sr, hsr⟩ : ∃ sr, setF tr (-x) = sr := ⟨_, rfl⟩
        rw [hsr] at h2 hsn hok ⊢
        have HOK := Lib.hid hok
        clear hok
        have H2 := Lib.hid h2
        clear h2 hsr hcx hgl hw1
        obtain ⟨t2, b⟩ := sr
        cases b with
        | true =>
          have HSN := Lib.hid hsn
          clear hsn
          go_wp2
          go_roundg (n - (i + 1))
          case measure => omega
          case rel => exact ⟨i + 1, t2, hin, Nat.le_refl _, by simp, HSN, Lib.hid (H2.out.step (by (repeat first | exact Fr.refl _ _ | assumption | apply Fr.n | apply Fr.d | apply Fr.a | refine Fr.s ?_ (.inr (by simp; try omega)) _)))⟩
        | false =>
          have HF := Lib.hid (HE.out.clash (c := c) (l := (neg c).take (i + 1)) (r := (neg c).drop (i + 1) ++ us) (by rw [← List.append_assoc, List.take_append_drop]) hsn)
          clear hsn
          go_wp2
          refine leaves_cons (f := 47) (args := #[.pointer (some ⟨p, 0, none⟩), .int .i64 0]) (by simp) (by simp [go_sem]) ?_
          refine CallsD.mono ((undo_both (n := 0) (H2.out.step (by (repeat first | exact Fr.refl _ _ | assumption | apply Fr.n | apply Fr.d | apply Fr.a | refine Fr.s ?_ (.inr (by simp; try omega)) _))) HOK.out hV (Nat.zero_le _)).2 _) ?_
          rintro e u' wz ⟨rfl, rfl, hz⟩
          rw [List.take_zero] at hz
          exact ⟨_, results_tmp rfl _ _ _, CV, L, by rw [HF.out]; rfl, hz, HE.out⟩
      · obtain rfl : i = n := by omega
        have hall : setAll [] (neg c) = some tr := by
          have := HT.out
          rwa [List.take_of_length_le (by rw [neg_length, HN.out]; exact Nat.le_refl _)] at this
        have HALL := Lib.hid hall
        obtain ⟨mb, cv, uv, vv, tv, h⟩ := eng_open HI.out
        simp only [engL, List.cons_append, List.nil_append] at h
        have hb := h.blk
        have c2 : _ = some _ := heap_eq_cell hb 2
        have cl := lt_of_block hb
        obtain ⟨ua, uc, rfl, hu0, hu1⟩ := owns_form2 (h.bring 7).row
        have H0 := Lib.hid h
        obtain ⟨m, hm⟩ : ∃ m, us.length = m := ⟨_, rfl⟩
        rw [hm] at c2 hul
        have HM := Lib.hid hm
        clear h hb hall HT hu0 hu1 hm HI
        go_wp2
        clear c2 cl
        go_loopg [31] m (fun gg z wr => ∃ (i : Nat) (t : List Int) (tv2 : Value), i ≤ m ∧ m - i ≤ gg ∧ z = .int .i64 (i : Int) ∧ Hid (setAll [] (neg c ++ us.take i) = some t) ∧ Hid (Has W wr (engL p V CV L mb cv (.slice ua us.length uc) vv tv2 t 0 us false ++ Ps)))
        case atStart => exact ⟨0, tr, tv, Nat.zero_le _, by omega, rfl, Lib.hid (by rw [List.take_zero, List.append_nil]; exact HALL.out), Lib.hid (H0.out.step (by (repeat first | exact Fr.refl _ _ | assumption | apply Fr.n | apply Fr.d | apply Fr.a | refine Fr.s ?_ (.inr (by simp; try omega)) _)))⟩
        case round =>
          obtain ⟨j, t, tv2, hj, hgg, rfl, HT, HI⟩ := hrel
          clear H0 HALL HTK
          have htk := setAll_some (V := V) (fun x hx => by
            rcases List.mem_append.1 hx with hx | hx
            · exact neg_V HCV.out x hx
            · exact HE.out.usV x (List.mem_of_mem_take hx)) ⟨by simp, by simp⟩ HT.out
          have HTK := Lib.hid htk
          clear htk
          by_cases hjm : j < m
          · obtain ⟨x, hx⟩ : ∃ x, us[j]? = some x := ⟨_, List.getElem?_eq_getElem (by rw [HM.out]; exact hjm)⟩
            have hxV := HE.out.usV x (List.mem_of_getElem? hx)
            obtain ⟨g, off, rfl, hgl, hcx⟩ := IntsAt.get (HI.out.bring 7).rowReads hx
            have HX := Lib.hid hx
            have HXV := Lib.hid hxV
            clear hx hxV
            go_wp2_with fail
            refine (set_gen ((HI.out.step (by (repeat first | exact Fr.refl _ _ | assumption | apply Fr.n | apply Fr.d | apply Fr.a | refine Fr.s ?_ (.inr (by simp; try omega)) _))).ord 8 [0, 5, 6, 1, 2, 3, 4, 7]) HTK.out.1 hV HXV.out.1 HXV.out.2).mono ?_
            rintro e w2 ⟨rfl, tv3, h2⟩
            have h2 := h2.ord 8 [0, 3, 4, 5, 6, 1, 2, 7]
            have hsn := setAll_snoc (x := x) HT.out
            rw [List.append_assoc, ← us_next HX.out] at hsn
            have hok := setF_ok HTK.out.1 HXV.out
            obtain ⟨sr, hsr⟩ : ∃ sr, setF t x = sr := ⟨_, rfl⟩
            rw [hsr] at h2 hsn hok ⊢
            have HOK := Lib.hid hok
            have H2 := Lib.hid h2
            clear h2 hsr hcx hgl hok
            obtain ⟨t2, b⟩ := sr
            cases b with
            | true =>
              have HSN := Lib.hid hsn
              clear hsn
              go_wp2
              go_roundg (m - (j + 1))
              case measure => omega
              case rel => exact ⟨j + 1, t2, tv3, hjm, Nat.le_refl _, by simp, HSN, Lib.hid (H2.out.step (by (repeat first | exact Fr.refl _ _ | assumption | apply Fr.n | apply Fr.d | apply Fr.a | refine Fr.s ?_ (.inr (by simp; try omega)) _)))⟩
            | false =>
              have HF := Lib.hid (HE.out.clash (c := c) (l := neg c ++ us.take (j + 1)) (r := us.drop (j + 1)) (app_take _ _ _) hsn)
              have H3 := Lib.hid (show Has W w2 (engR p V CV L t2 0 us false :: Ps) from eng_close (mb := mb) (cv := cv) (uv := _) (vv := vv) (tv := tv3) H2.out)
              clear hsn H2
              go_wp2
              refine leaves_cons (f := 47) (args := #[.pointer (some ⟨p, 0, none⟩), .int .i64 0]) (by simp) (by simp [go_sem]) ?_
              refine CallsD.mono ((undo_both (n := 0) (H3.out.step (by (repeat first | exact Fr.refl _ _ | assumption | apply Fr.n | apply Fr.d | apply Fr.a | refine Fr.s ?_ (.inr (by simp; try omega)) _))) HOK.out hV (Nat.zero_le _)).2 _) ?_
              rintro e u' wz ⟨rfl, rfl, hz⟩
              rw [List.take_zero] at hz
              exact ⟨_, results_tmp rfl _ _ _, CV, L, by rw [HF.out]; rfl, hz, HE.out⟩
          · obtain rfl : j = m := by omega
            have hall : setAll [] (neg c ++ us) = some t := by
              have := HT.out
              rwa [List.take_of_length_le (by rw [HM.out]; exact Nat.le_refl _)] at this
            have HALL := Lib.hid hall
            have H3 := Lib.hid (show Has W wr (engR p V CV L t 0 us false :: Ps) from eng_close (mb := mb) (cv := cv) (uv := _) (vv := vv) (tv := tv2) HI.out)
            have HCO := Lib.hid (HE.out.core (neg_V HCV.out) hall)
            clear hall HI HT
            go_wp2_with fail
            refine (propagate_calls (H3.out.step (by (repeat first | exact Fr.refl _ _ | assumption | apply Fr.n | apply Fr.d | apply Fr.a | refine Fr.s ?_ (.inr (by simp; try omega)) _))) hV HCO.out (Nat.zero_le _) (Der.closed _ _) ⟨Nat.le_trans (bigs_len F) HS.out.1, bigs_clen HS.out.2⟩).mono ?_
            rintro e w2 ⟨ok, CV2, L2, tr2, dn2, rfl, h2, hpr, hyes, hno⟩
            have H2 := Lib.hid h2
            cases ok with
            | true =>
              obtain ⟨hco, rfl⟩ := hyes rfl
              have HNB := Lib.hid (show folB F c = false from by
                cases hb : folB F c with
                | false => rfl
                | true => exact absurd (folB_iff.1 hb) (HE.out.calm rfl (fun x hx => hpr.subset ((HTK.out.2.2 x).2 (.inr (by
                    rw [List.take_of_length_le (by rw [HM.out]; exact Nat.le_refl _)]; exact hx)))) hco))
              have HE2 := Lib.hid (HE.out.of_core hco)
              have HTR := Lib.hid hco.htr
              clear h2 hyes hno hpr hco H3
              go_wp2
              refine leaves_cons (f := 47) (args := #[.pointer (some ⟨p, 0, none⟩), .int .i64 0]) (by simp) (by simp [go_sem]) ?_
              refine CallsD.mono ((undo_both (n := 0) (H2.out.step (by (repeat first | exact Fr.refl _ _ | assumption | apply Fr.n | apply Fr.d | apply Fr.a | refine Fr.s ?_ (.inr (by simp; try omega)) _))) HTR.out hV (Nat.zero_le _)).2 _) ?_
              rintro e u' wz ⟨rfl, rfl, hz⟩
              rw [List.take_zero] at hz
              exact ⟨_, results_tmp rfl _ _ _, CV2, L2, by rw [HNB.out]; rfl, hz, HE2.out⟩
            | false =>
              have hco := hno rfl
              have HNB := Lib.hid (show folB F c = true from folB_iff.2 (HE.out.conf hco))
              have HE2 := Lib.hid (HE.out.of_conf hco)
              have HTR := Lib.hid hco.htr
              clear h2 hyes hno hpr hco H3
              go_wp2
              refine leaves_cons (f := 47) (args := #[.pointer (some ⟨p, 0, none⟩), .int .i64 0]) (by simp) (by simp [go_sem]) ?_
              refine CallsD.mono ((undo_both (n := 0) (H2.out.step (by (repeat first | exact Fr.refl _ _ | assumption | apply Fr.n | apply Fr.d | apply Fr.a | refine Fr.s ?_ (.inr (by simp; try omega)) _))) HTR.out hV (Nat.zero_le _)).2 _) ?_
              rintro e u' wz ⟨rfl, rfl, hz⟩
              rw [List.take_zero] at hz
              exact ⟨_, results_tmp rfl _ _ _, CV2, L2, by rw [HNB.out]; rfl, hz, HE2.out⟩
end Go.Proofs.Ytbpaadpocihahaa
end

section
/- The reference of refute: has, negated, contradicts, open. -/
namespace Go.Proofs.Ytbpaadpocihahaa
open Go Go.RowKit Go.Proofs.Rg Go.Proofs.Mp Go.Proofs.Hp Go.Proofs.Sv Go.Proofs.Rp
set_option linter.unusedVariables false
set_option linter.unusedSimpArgs false
set_option maxHeartbeats 4000000 in
theorem has43_calls {w : World} {a : Option Addr} {c : Nat} {l : List Int} {x : Int} (h : IntsAt w (.slice a l.length c) l) (hl : l.length ≤ 9000000) :
    Calls Try.prog 66 #[.slice a l.length c, .int .i64 x] w fun e w' => e = .returned (.bool (l.contains x)) ∧ w' = w := by
  have HI := Lib.hid h
  obtain ⟨n, hn⟩ : ∃ n, l.length = n := ⟨_, rfl⟩
  rw [hn] at hl ⊢
  have HN := Lib.hid hn
  clear h hn
  go_enter Try.func66, Try.ntmps66
  go_wp2
  go_loopg [5] n (fun gg z wr => ∃ i : Nat, i ≤ n ∧ n - i ≤ gg ∧ z = .int .i64 (i : Int) ∧ wr = w ∧ Hid (x ∉ l.take i))
  case atStart => exact ⟨0, Nat.zero_le _, by omega, rfl, rfl, Lib.hid (by simp)⟩
  case round =>
    obtain ⟨i, hi, hg, rfl, rfl, HA⟩ := hrel
    by_cases hin : i < n
    · obtain ⟨y, hy⟩ : ∃ y, l[i]? = some y := ⟨_, List.getElem?_eq_getElem (by rw [HN.out]; exact hin)⟩
      have hI := HI.out
      obtain ⟨g, off, rfl, hgl, hc⟩ := IntsAt.get hI hy
      have htk : l.take (i + 1) = l.take i ++ [y] := by rw [List.take_add_one, hy]; rfl
      have HTK := Lib.hid htk
      have HY := Lib.hid hy
      clear hI hy htk
      by_cases hyx : y = x
      · subst hyx
        have HC := Lib.hid (show l.contains y = true from by simpa using List.mem_of_getElem? HY.out)
        go_wp2
        go_ret
        exact ⟨by rw [HC.out]; rfl, rfl⟩
      · have hb : (y == x) = false := by simpa using hyx
        go_wp2
        go_roundg (n - (i + 1))
        case measure => omega
        case rel => exact ⟨i + 1, hin, Nat.le_refl _, by simp, rfl, Lib.hid (by rw [HTK.out]; simp only [List.mem_append, List.mem_singleton]; exact fun e => e.elim HA.out fun e => hyx e.symm)⟩
    · obtain rfl : i = n := by omega
      have HC := Lib.hid (show l.contains x = false from by
        have := HA.out
        rw [List.take_of_length_le (by rw [HN.out]; exact Nat.le_refl _)] at this
        cases hc : l.contains x with
        | false => rfl
        | true => exact absurd (List.contains_iff_mem.1 hc) this)
      clear HA
      go_wp2
      go_ret
      exact ⟨by rw [HC.out]; rfl, rfl⟩
set_option maxHeartbeats 4000000 in
theorem has40_calls {w : World} {a : Option Addr} {c : Nat} {l : List Int} {x : Int} (h : IntsAt w (.slice a l.length c) l) (hl : l.length ≤ 9000000) :
    Calls Try.prog 64 #[.slice a l.length c, .int .i64 x] w fun e w' => e = .returned (.bool (l.contains x)) ∧ w' = w := by
  have HI := Lib.hid h
  obtain ⟨n, hn⟩ : ∃ n, l.length = n := ⟨_, rfl⟩
  rw [hn] at hl ⊢
  have HN := Lib.hid hn
  clear h hn
  go_enter Try.func64, Try.ntmps64
  go_wp2
  go_loopg [5] n (fun gg z wr => ∃ i : Nat, i ≤ n ∧ n - i ≤ gg ∧ z = .int .i64 (i : Int) ∧ wr = w ∧ Hid (x ∉ l.take i))
  case atStart => exact ⟨0, Nat.zero_le _, by omega, rfl, rfl, Lib.hid (by simp)⟩
  case round =>
    obtain ⟨i, hi, hg, rfl, rfl, HA⟩ := hrel
    by_cases hin : i < n
    · obtain ⟨y, hy⟩ : ∃ y, l[i]? = some y := ⟨_, List.getElem?_eq_getElem (by rw [HN.out]; exact hin)⟩
      have hI := HI.out
      obtain ⟨g, off, rfl, hgl, hc⟩ := IntsAt.get hI hy
      have htk : l.take (i + 1) = l.take i ++ [y] := by rw [List.take_add_one, hy]; rfl
      have HTK := Lib.hid htk
      have HY := Lib.hid hy
      clear hI hy htk
      by_cases hyx : y = x
      · subst hyx
        have HC := Lib.hid (show l.contains y = true from by simpa using List.mem_of_getElem? HY.out)
        go_wp2
        go_ret
        exact ⟨by rw [HC.out]; rfl, rfl⟩
      · have hb : (y == x) = false := by simpa using hyx
        go_wp2
        go_roundg (n - (i + 1))
        case measure => omega
        case rel => exact ⟨i + 1, hin, Nat.le_refl _, by simp, rfl, Lib.hid (by rw [HTK.out]; simp only [List.mem_append, List.mem_singleton]; exact fun e => e.elim HA.out fun e => hyx e.symm)⟩
    · obtain rfl : i = n := by omega
      have HC := Lib.hid (show l.contains x = false from by
        have := HA.out
        rw [List.take_of_length_le (by rw [HN.out]; exact Nat.le_refl _)] at this
        cases hc : l.contains x with
        | false => rfl
        | true => exact absurd (List.contains_iff_mem.1 hc) this)
      clear HA
      go_wp2
      go_ret
      exact ⟨by rw [HC.out]; rfl, rfl⟩
/-- negations, as int reckons them -/
def negW (c : List Int) : List Int := c.map fun x => wrap64 (-x)
theorem negW_neg {c : List Int} {V : Nat} (hV : V ≤ 65536) (h : ∀ x ∈ c, x ≠ 0 ∧ x.natAbs ≤ V) : negW c = neg c := by
  unfold negW neg
  refine List.map_congr_left fun x hx => ?_
  have := h x hx
  exact IntWalk.wrap64_in _ (by omega)
theorem negW_next {c : List Int} {i : Nat} {x : Int} (h : c[i]? = some x) : iv (negW (c.take (i + 1))) = iv (negW (c.take i)) ++ [.int .i64 (wrap64 (-x))] := by
  rw [List.take_add_one, h]
  simp [negW, iv]
set_option maxHeartbeats 4000000 in
theorem negated_calls {W w : World} {Ps : List Res} (h : Has W w Ps) {a : Option Addr} {c : Nat} {l : List Int} (hr : IntsSrc W Ps a c l) (hl : l.length ≤ 1000000) :
    Calls Try.prog 29 #[.slice a l.length c] w fun e w' => ∃ va vc, e = .returned (.slice va l.length vc) ∧ Has W w' (Hp.row 3 1 (.slice va l.length vc) l.length (iv (negW l)) :: Ps) := by
  have HS := Lib.hid hr
  have H := Lib.hid (h.nilRow 3 1)
  obtain ⟨n, hn⟩ : ∃ n, l.length = n := ⟨_, rfl⟩
  rw [hn] at hl ⊢
  have HN := Lib.hid hn
  clear h hr hn
  go_enter Try.func29, Try.ntmps29
  go_wp2
  go_loopg [3, 4] n (fun gg z3 z4 wr => ∃ (i : Nat) (va : Option Addr) (vc : Nat), i ≤ n ∧ n - i ≤ gg ∧ z4 = .int .i64 (i : Int) ∧ z3 = .slice va i vc ∧ Hid (Has W wr (Hp.row 3 1 (.slice va i vc) i (iv (negW (l.take i))) :: Ps)))
  case atStart => exact ⟨0, none, 0, Nat.zero_le _, by omega, rfl, rfl, Lib.hid (H.out.step (by (repeat first | exact Fr.refl _ _ | assumption | apply Fr.n | apply Fr.d | apply Fr.a | refine Fr.s ?_ (.inr (by simp; try omega)) _)))⟩
  case round =>
    obtain ⟨i, va, vc, hi, hg, rfl, rfl, HH⟩ := hrel
    clear H
    by_cases hin : i < n
    · obtain ⟨y, hy⟩ : ∃ y, l[i]? = some y := ⟨_, List.getElem?_eq_getElem (by rw [HN.out]; exact hin)⟩
      have hI := HS.out _ _ HH.out (fun P hP => List.mem_cons_of_mem _ hP)
      obtain ⟨g, off, rfl, hgl, hc⟩ := IntsAt.get hI hy
      have hmaxl : (1000001 : Nat) ≤ maxLen := by decide
      have HLL := Lib.hid (show i + 1 ≤ maxLen ∧ (i + 1) * 8 ≤ 140737488355328 from by omega)
      have HY := Lib.hid hy
      clear hy hmaxl hI
      go_wp2_with (at_builtin; refine append_has (W := W) (size := 1) (bytes := 8) (z := .int .i64 0) (e := 3) (n := i) (xs := iv (negW (l.take i))) (news := [.int .i64 (wrap64 (-y))]) rfl rfl Try.underlying25 (by kernel_rfl) rfl (by decide) rfl rfl (HH.out.step (by (repeat first | exact Fr.refl _ _ | assumption | apply Fr.n | apply Fr.d | apply Fr.a | refine Fr.s ?_ (.inr (by simp; try omega)) _))) (by (repeat first | rw [if_pos (by omega)] | rw [if_neg (by omega)] | rw [hp_drew] | rw [hp_drewN] | rw [hp_alloc_size] | rw [hp_setCell_size] | rw [hp_alloc] | rw [hp_setCell] | rw [oMS] | rw [upd_cells] | rw [lSZ] | rw [lSS] | rfl)) rfl (by simp [Value.oneCell']) HLL.out.1 HLL.out.2 ?_)
      intro g2 cap2 w2 h2 hf2 hg2
      rw [← negW_next HY.out] at h2
      have H2 := Lib.hid h2
      clear h2 hf2 hg2 HH hgl hc
      go_wp2
      go_roundg (n - (i + 1))
      case measure => omega
      case rel => exact ⟨i + 1, some ⟨g2, 0, none⟩, cap2, hin, Nat.le_refl _, by simp, rfl, Lib.hid (H2.out.step (by (repeat first | exact Fr.refl _ _ | assumption | apply Fr.n | apply Fr.d | apply Fr.a | refine Fr.s ?_ (.inr (by simp; try omega)) _)))⟩
    · obtain rfl : i = n := by omega
      have h2 := HH.out
      rw [List.take_of_length_le (by rw [HN.out]; exact Nat.le_refl _)] at h2
      have H2 := Lib.hid h2
      clear h2 HH
      go_wp2
      go_ret
      exact ⟨va, vc, rfl, H2.out.step (by (repeat first | exact Fr.refl _ _ | assumption | apply Fr.n | apply Fr.d | apply Fr.a | refine Fr.s ?_ (.inr (by simp; try omega)) _))⟩
def contraB (l : List Int) : Bool := l.any fun x => l.contains (-x)
set_option maxHeartbeats 4000000 in
theorem contradicts_calls {w : World} {a : Option Addr} {c : Nat} {l : List Int} (h : IntsAt w (.slice a l.length c) l) (hl : l.length ≤ 9000000) (hV : ∀ x ∈ l, x.natAbs ≤ 65536) :
    Calls Try.prog 54 #[.slice a l.length c] w fun e w' => e = .returned (.bool (contraB l)) ∧ w' = w := by
  have HI := Lib.hid h
  have HV := Lib.hid hV
  have HH := Lib.hid (fun x => has43_calls (x := x) h hl)
  obtain ⟨n, hn⟩ : ∃ n, l.length = n := ⟨_, rfl⟩
  rw [hn] at hl HH ⊢
  have HN := Lib.hid hn
  clear h hn hV
  go_enter Try.func54, Try.ntmps54
  go_wp2
  go_loopg [3] n (fun gg z wr => ∃ i : Nat, i ≤ n ∧ n - i ≤ gg ∧ z = .int .i64 (i : Int) ∧ wr = w ∧ Hid (∀ x ∈ l.take i, l.contains (-x) = false))
  case atStart => exact ⟨0, Nat.zero_le _, by omega, rfl, rfl, Lib.hid (by simp)⟩
  case round =>
    obtain ⟨i, hi, hg, rfl, rfl, HA⟩ := hrel
    by_cases hin : i < n
    · obtain ⟨y, hy⟩ : ∃ y, l[i]? = some y := ⟨_, List.getElem?_eq_getElem (by rw [HN.out]; exact hin)⟩
      obtain ⟨g, off, rfl, hgl, hc⟩ := IntsAt.get HI.out hy
      have hyV := HV.out y (List.mem_of_getElem? hy)
      have hw1 : IntKind.i64.wrap (-y) = -y := IntWalk.i64_in _ (by omega)
      have htk : l.take (i + 1) = l.take i ++ [y] := by rw [List.take_add_one, hy]; rfl
      have HTK := Lib.hid htk
      have HY := Lib.hid hy
      obtain ⟨b, hb⟩ : ∃ b, l.contains (-y) = b := ⟨_, rfl⟩
      have HB := Lib.hid hb
      clear hy htk hyV hb
      go_wp2_with fail
      refine (HH.out (-y)).mono ?_
      rw [HB.out]
      rintro e w2 ⟨rfl, hw2⟩
      subst hw2
      cases b with
      | true =>
        have HC := Lib.hid (show contraB l = true from List.any_eq_true.2 ⟨y, List.mem_of_getElem? HY.out, HB.out⟩)
        go_wp2
        go_ret
        exact ⟨by rw [HC.out]; rfl, rfl⟩
      | false =>
        go_wp2
        go_roundg (n - (i + 1))
        case measure => omega
        case rel =>
          refine ⟨i + 1, hin, Nat.le_refl _, by simp, rfl, Lib.hid fun x hx => ?_⟩
          rw [HTK.out] at hx
          rcases List.mem_append.1 hx with hx | hx
          · exact HA.out x hx
          · simp at hx; rw [hx]; exact HB.out
    · obtain rfl : i = n := by omega
      have HC := Lib.hid (show contraB l = false from by
        have := HA.out
        rw [List.take_of_length_le (by rw [HN.out]; exact Nat.le_refl _)] at this
        unfold contraB
        rw [List.any_eq_false]
        intro x hx
        rw [this x hx]; exact Bool.false_ne_true)
      clear HA
      go_wp2
      go_ret
      exact ⟨by rw [HC.out]; rfl, rfl⟩
/-- what open says of the literals of a clause -/
def OpenI (c all : List Int) (n : Nat) (last : Int) : Prop :=
  (∀ y ∈ c, y ∉ all) ∧ ((n = 0 ∧ last = 0 ∧ ∀ y ∈ c, -y ∈ all) ∨ (n = 1 ∧ last ∈ c ∧ -last ∉ all ∧ ∀ y ∈ c, y ≠ last → -y ∈ all) ∨ (2 ≤ n ∧ last ∈ c ∧ -last ∉ all ∧ ∃ y ∈ c, ∃ z ∈ c, y ≠ z ∧ -y ∉ all ∧ -z ∉ all))
/-- open's answer -/
def OpenR (c all : List Int) (k : Nat) (last : Int) : Prop :=
  (k = 2 ∧ ∃ y ∈ c, y ∈ all) ∨ (k ≤ 2 ∧ OpenI c all k last)
theorem OpenI.skip {c all : List Int} {n : Nat} {last x : Int} (h : OpenI c all n last) (hx : x ∉ all) (hn : -x ∈ all) : OpenI (c ++ [x]) all n last := by
  obtain ⟨h1, h2⟩ := h
  refine ⟨fun y hy => ?_, ?_⟩
  · rcases List.mem_append.1 hy with hy | hy
    · exact h1 y hy
    · simp at hy; rw [hy]; exact hx
  · rcases h2 with ⟨a, b, d⟩ | ⟨a, b, d, e⟩ | ⟨a, b, d, y, hy, z, hz, e⟩
    · refine .inl ⟨a, b, fun y hy => ?_⟩
      rcases List.mem_append.1 hy with hy | hy
      · exact d y hy
      · simp at hy; rw [hy]; exact hn
    · refine .inr (.inl ⟨a, by simp [b], d, fun y hy hne => ?_⟩)
      rcases List.mem_append.1 hy with hy | hy
      · exact e y hy hne
      · simp at hy; rw [hy]; exact hn
    · exact .inr (.inr ⟨a, by simp [b], d, y, by simp [hy], z, by simp [hz], e⟩)
theorem OpenI.same {c all : List Int} {n : Nat} {last : Int} (h : OpenI c all n last) (hx : last ∉ all) (hn : -last ∉ all) (h0 : last ≠ 0) : OpenI (c ++ [last]) all n last := by
  obtain ⟨h1, h2⟩ := h
  refine ⟨fun y hy => ?_, ?_⟩
  · rcases List.mem_append.1 hy with hy | hy
    · exact h1 y hy
    · simp at hy; rw [hy]; exact hx
  · rcases h2 with ⟨a, b, d⟩ | ⟨a, b, d, e⟩ | ⟨a, b, d, y, hy, z, hz, e⟩
    · exact absurd b h0
    · refine .inr (.inl ⟨a, by simp [b], d, fun y hy hne => ?_⟩)
      rcases List.mem_append.1 hy with hy | hy
      · exact e y hy hne
      · simp at hy; exact absurd hy hne
    · exact .inr (.inr ⟨a, by simp [b], d, y, by simp [hy], z, by simp [hz], e⟩)
theorem OpenI.next {c all : List Int} {n : Nat} {last x : Int} (h : OpenI c all n last) (hx : x ∉ all) (hn : -x ∉ all) (hne : x ≠ last) : OpenI (c ++ [x]) all (n + 1) x := by
  obtain ⟨h1, h2⟩ := h
  refine ⟨fun y hy => ?_, ?_⟩
  · rcases List.mem_append.1 hy with hy | hy
    · exact h1 y hy
    · simp at hy; rw [hy]; exact hx
  · rcases h2 with ⟨a, b, d⟩ | ⟨a, b, d, e⟩ | ⟨a, b, d, y, hy, z, hz, e⟩
    · refine .inr (.inl ⟨by omega, by simp, hn, fun y hy hne => ?_⟩)
      rcases List.mem_append.1 hy with hy | hy
      · exact d y hy
      · simp at hy; exact absurd hy hne
    · exact .inr (.inr ⟨by omega, by simp, hn, last, by simp [b], x, by simp, fun e => hne e.symm, d, hn⟩)
    · exact .inr (.inr ⟨by omega, by simp, hn, y, by simp [hy], z, by simp [hz], e⟩)
theorem OpenI.min {c all : List Int} {n : Nat} {last : Int} (h : OpenI c all n last) : OpenR c all (min n 2) last := by
  refine .inr ⟨Nat.min_le_right _ _, h.1, ?_⟩
  rcases h.2 with ⟨a, b, d⟩ | ⟨a, b, d, e⟩ | ⟨a, b, d, e⟩
  · exact .inl ⟨by omega, b, d⟩
  · exact .inr (.inl ⟨by omega, b, d, e⟩)
  · exact .inr (.inr ⟨by omega, b, d, e⟩)
end Go.Proofs.Ytbpaadpocihahaa
end

section
/- refute: clauses and lists of clauses compared. -/
namespace Go.Proofs.Ytbpaadpocihahaa
open Go Go.RowKit Go.Proofs.Rg Go.Proofs.Mp Go.Proofs.Hp Go.Proofs.Sv Go.Proofs.Rp
set_option linter.unusedVariables false
set_option linter.unusedSimpArgs false
theorem take_eq_of {α : Type} {l m : List α} {i : Nat} {x y : α} (hl : l[i]? = some x) (hm : m[i]? = some y) (h : l.take i = m.take i) : l.take (i + 1) = m.take (i + 1) ↔ x = y := by
  rw [List.take_add_one, List.take_add_one, hl, hm, h]
  simp
theorem not_eq_of {α : Type} {l m : List α} {i : Nat} {x y : α} (hl : l[i]? = some x) (hm : m[i]? = some y) (h : x ≠ y) : l ≠ m := by
  rintro rfl
  rw [hl] at hm
  exact h (Option.some.inj hm)
set_option maxHeartbeats 4000000 in
theorem REqual_calls {w : World} {la ma : Option Addr} {lc mc : Nat} {l m : List Int} (hl : IntsAt w (.slice la l.length lc) l) (hm : IntsAt w (.slice ma m.length mc) m) (hll : l.length ≤ 9000000) :
    Calls Try.prog 19 #[.slice la l.length lc, .slice ma m.length mc] w fun e w' => e = .returned (.bool (decide (l = m))) ∧ Fr [] w w' := by
  obtain ⟨B, hB⟩ : ∃ B, decide (l = m) = B := ⟨_, rfl⟩
  have HB := Lib.hid hB
  rw [hB]
  by_cases hlen : l.length = m.length
  · have HL := Lib.hid (And.intro hl hm)
    obtain ⟨n, hn⟩ : ∃ n, l.length = n := ⟨_, rfl⟩
    rw [← hlen, hn]
    rw [hn] at hll
    have HN := Lib.hid (And.intro hn (hlen.symm.trans hn))
    have hbn : ((n : Int) != (n : Int)) = false := by simp
    clear hl hm hn hB hlen
    go_enter Try.func19, Try.ntmps19
    go_wp2
    go_loopg [5] n (fun gg z wr => ∃ i : Nat, i ≤ n ∧ n - i ≤ gg ∧ z = .int .i64 (i : Int) ∧ Hid (Fr [] w wr) ∧ Hid (l.take i = m.take i))
    case atStart => exact ⟨0, Nat.zero_le _, by omega, rfl, Lib.hid (by (repeat first | exact Fr.refl _ _ | assumption | apply Fr.n | apply Fr.d | apply Fr.a | refine Fr.s ?_ (.inr (by simp; try omega)) _)), Lib.hid (by simp)⟩
    case round =>
      obtain ⟨i, hi, hg, rfl, HW, HE⟩ := hrel
      by_cases hin : i < n
      · obtain ⟨x, hx⟩ : ∃ x, l[i]? = some x := ⟨_, List.getElem?_eq_getElem (by rw [HN.out.1]; exact hin)⟩
        obtain ⟨y, hy⟩ : ∃ y, m[i]? = some y := ⟨_, List.getElem?_eq_getElem (by rw [HN.out.2]; exact hin)⟩
        obtain ⟨g, off, rfl, hgl, hc⟩ := IntsAt.get (HL.out.1.fr HW.out) hx
        obtain ⟨g2, off2, rfl, hgl2, hc2⟩ := IntsAt.get (HL.out.2.fr HW.out) hy
        have HT := Lib.hid (take_eq_of hx hy HE.out)
        have HNE := Lib.hid (not_eq_of hx hy)
        clear hx hy
        obtain ⟨D, hD⟩ : ∃ D, (x != y) = D := ⟨_, rfl⟩
        have HD := Lib.hid hD
        cases D with
        | false =>
          go_wp2
          (refine wp_region_text (by kernel_rfl) (by kernel_rfl) ?_)
          go_wp2
          refine Strict.intro rfl ?_
          go_wp2
          go_roundg (n - (i + 1))
          case measure => omega
          case rel => exact ⟨i + 1, hin, Nat.le_refl _, by simp, Lib.hid (HW.out.trans0 (by (repeat first | exact Fr.refl _ _ | assumption | apply Fr.n | apply Fr.d | apply Fr.a | refine Fr.s ?_ (.inr (by simp; try omega)) _))), Lib.hid (HT.out.2 (by simpa using HD.out))⟩
        | true =>
          have HF := Lib.hid (show B = false from by rw [← HB.out]; simpa using HNE.out (by simpa using HD.out))
          go_wp2
          (refine wp_region_text (by kernel_rfl) (by kernel_rfl) ?_)
          go_wp2
          refine Strict.intro rfl ?_
          go_wp2
          go_ret
          exact ⟨by rw [HF.out]; rfl, HW.out.trans0 (by (repeat first | exact Fr.refl _ _ | assumption | apply Fr.n | apply Fr.d | apply Fr.a | refine Fr.s ?_ (.inr (by simp; try omega)) _))⟩
      · obtain rfl : i = n := by omega
        have HF := Lib.hid (show B = true from by
          have h1 := HE.out
          rw [List.take_of_length_le (by rw [HN.out.1]; exact Nat.le_refl _), List.take_of_length_le (by rw [HN.out.2]; exact Nat.le_refl _)] at h1
          rw [← HB.out]; simpa using h1)
        go_wp2
        go_ret
        exact ⟨by rw [HF.out]; rfl, HW.out⟩
  · have b1 : ((l.length : Int) != (m.length : Int)) = true := by simp; omega
    have HF := Lib.hid (show B = false from by rw [← hB, decide_eq_false_iff_not]; rintro rfl; exact hlen rfl)
    clear hB hl hm hlen
    go_enter Try.func19, Try.ntmps19
    go_wp2
    go_ret
    exact ⟨by rw [HF.out]; rfl, by (repeat first | exact Fr.refl _ _ | assumption | apply Fr.n | apply Fr.d | apply Fr.a | refine Fr.s ?_ (.inr (by simp; try omega)) _)⟩
set_option maxHeartbeats 4000000 in
theorem RSame_calls {w : World} {V U : Int} {la ma : Option Addr} {lc mc : Nat} {l m : List (List Int)} (hl : FormAt w la lc l) (hm : FormAt w ma mc m) (hll : l.length ≤ 9000000) (hle : ∀ r ∈ l, r.length ≤ 9000000) (hV : V = U) :
    Calls Try.prog 36 #[.agg #[.int .i64 V, .slice la l.length lc], .agg #[.int .i64 U, .slice ma m.length mc]] w fun e w' => e = .returned (.bool (decide (l = m))) ∧ Fr [] w w' := by
  obtain rfl := hV
  obtain ⟨B, hB⟩ : ∃ B, decide (l = m) = B := ⟨_, rfl⟩
  have HB := Lib.hid hB
  have hbv : (V != V) = false := by simp
  rw [hB]
  by_cases hlen : l.length = m.length
  · have HL := Lib.hid (And.intro hl hm)
    have HLE := Lib.hid hle
    obtain ⟨n, hn⟩ : ∃ n, l.length = n := ⟨_, rfl⟩
    rw [← hlen, hn]
    rw [hn] at hll
    have HN := Lib.hid (And.intro hn (hlen.symm.trans hn))
    have hbn : ((n : Int) != (n : Int)) = false := by simp
    clear hl hm hn hB hlen hle
    have h2 := ((Has.nil (Fr.refl [] w)).newBlk (.cells #[.int .i64 V, .slice la n lc] 24 (0, 0))).newBlk (.cells #[.int .i64 V, .slice ma n mc] 24 (0, 0))
    simp only [hp_alloc_size] at h2
    have HH := Lib.hid h2
    clear h2
    go_enter Try.func36, Try.ntmps36
    go_wp2
    go_loopg [5] n (fun gg z wr => ∃ i : Nat, i ≤ n ∧ n - i ≤ gg ∧ z = .int .i64 (i : Int) ∧ Hid (Has w wr [Hp.blk (w.heap.size + 1) (.cells #[.int .i64 V, .slice ma n mc] 24 (0, 0)), Hp.blk w.heap.size (.cells #[.int .i64 V, .slice la n lc] 24 (0, 0))]) ∧ Hid (l.take i = m.take i))
    case atStart => exact ⟨0, Nat.zero_le _, by omega, rfl, Lib.hid (HH.out.step (by (repeat first | exact Fr.refl _ _ | assumption | apply Fr.n | apply Fr.d | apply Fr.a | refine Fr.s ?_ (.inr (by simp; try omega)) _))), Lib.hid (by simp)⟩
    case round =>
      obtain ⟨i, hi, hg, rfl, HW, HE⟩ := hrel
      clear HH
      have hb := HW.out.blk
      have c0 : _ = some _ := heap_eq_cell hb 0
      have c1 : _ = some _ := heap_eq_cell hb 1
      have cl := lt_of_block hb
      have hb := (HW.out.bring 1).blk
      have d0 : _ = some _ := heap_eq_cell hb 0
      have d1 : _ = some _ := heap_eq_cell hb 1
      have dl := lt_of_block hb
      clear hb
      by_cases hin : i < n
      · obtain ⟨x, hx⟩ : ∃ x, l[i]? = some x := ⟨_, List.getElem?_eq_getElem (by rw [HN.out.1]; exact hin)⟩
        obtain ⟨y, hy⟩ : ∃ y, m[i]? = some y := ⟨_, List.getElem?_eq_getElem (by rw [HN.out.2]; exact hin)⟩
        obtain ⟨g, off, ra, rc, hae, hgl, hc, hbx⟩ := RowsAt.row (HL.out.1.fr HW.out.fr).1 hx
        subst hae
        obtain ⟨g2, off2, ra2, rc2, hae, hgl2, hc2, hby⟩ := RowsAt.row (HL.out.2.fr HW.out.fr).1 hy
        subst hae
        have HT := Lib.hid (take_eq_of hx hy HE.out)
        have HNE := Lib.hid (not_eq_of hx hy)
        have HBC := Lib.hid (fun w' (hf : Fr [] wr w') => REqual_calls (hbx.fr hf) (hby.fr hf) (HLE.out x (List.mem_of_getElem? hx)))
        clear hx hy hbx hby
        obtain ⟨D, hD⟩ : ∃ D, decide (x = y) = D := ⟨_, rfl⟩
        rw [hD] at HBC
        have HD := Lib.hid hD
        clear hD
        go_wp2
        (refine wp_region_text (by kernel_rfl) (by kernel_rfl) ?_)
        go_wp2_with fail
        refine (HBC.out _ (by (repeat first | exact Fr.refl _ _ | assumption | apply Fr.n | apply Fr.d | apply Fr.a | refine Fr.s ?_ (.inr (by simp; try omega)) _))).mono ?_
        rintro e w5 ⟨rfl, hf5⟩
        have HF5 := Lib.hid (HW.out.step (Fr.trans0 (by (repeat first | exact Fr.refl _ _ | assumption | apply Fr.n | apply Fr.d | apply Fr.a | refine Fr.s ?_ (.inr (by simp; try omega)) _)) hf5))
        clear hf5 HBC hc hc2 hgl hgl2 c0 c1 d0 d1 cl dl
        cases D with
        | true =>
          go_wp2
          refine Strict.intro rfl ?_
          go_wp2
          go_roundg (n - (i + 1))
          case measure => omega
          case rel => exact ⟨i + 1, hin, Nat.le_refl _, by simp, Lib.hid (HF5.out.step (by (repeat first | exact Fr.refl _ _ | assumption | apply Fr.n | apply Fr.d | apply Fr.a | refine Fr.s ?_ (.inr (by simp; try omega)) _))), Lib.hid (HT.out.2 (by simpa using HD.out))⟩
        | false =>
          have HF := Lib.hid (show B = false from by rw [← HB.out]; simpa using HNE.out (by simpa using HD.out))
          go_wp2
          refine Strict.intro rfl ?_
          go_wp2
          go_ret
          exact ⟨by rw [HF.out]; rfl, HF5.out.fr.trans0 (by (repeat first | exact Fr.refl _ _ | assumption | apply Fr.n | apply Fr.d | apply Fr.a | refine Fr.s ?_ (.inr (by simp; try omega)) _))⟩
      · obtain rfl : i = n := by omega
        have HF := Lib.hid (show B = true from by
          have h1 := HE.out
          rw [List.take_of_length_le (by rw [HN.out.1]; exact Nat.le_refl _), List.take_of_length_le (by rw [HN.out.2]; exact Nat.le_refl _)] at h1
          rw [← HB.out]; simpa using h1)
        go_wp2
        go_ret
        exact ⟨by rw [HF.out]; rfl, HW.out.fr.trans0 (by (repeat first | exact Fr.refl _ _ | assumption | apply Fr.n | apply Fr.d | apply Fr.a | refine Fr.s ?_ (.inr (by simp; try omega)) _))⟩
  · have b1 : ((l.length : Int) != (m.length : Int)) = true := by simp; omega
    have HF := Lib.hid (show B = false from by rw [← hB, decide_eq_false_iff_not]; rintro rfl; exact hlen rfl)
    clear hB hl hm hlen
    go_enter Try.func36, Try.ntmps36
    go_wp2
    go_ret
    exact ⟨by rw [HF.out]; rfl, by (repeat first | exact Fr.refl _ _ | assumption | apply Fr.n | apply Fr.d | apply Fr.a | refine Fr.s ?_ (.inr (by simp; try omega)) _)⟩
/-- what law 43 takes for equal -/
theorem same_calls {w : World} {la ma : Option Addr} {lc mc : Nat} {l m : List (List Int)} (hl : FormAt w la lc l) (hm : FormAt w ma mc m) (hll : l.length ≤ 9000000) (hle : ∀ r ∈ l, r.length ≤ 9000000) :
    Calls Try.prog 18 #[.slice la l.length lc, .slice ma m.length mc] w fun e w' => e = .returned (.bool (decide (l = m))) ∧ Fr [] w w' := by
  obtain ⟨n1, hn1⟩ : ∃ n, l.length = n := ⟨_, rfl⟩
  obtain ⟨n2, hn2⟩ : ∃ n, m.length = n := ⟨_, rfl⟩
  have HS := Lib.hid (fun w' (hf : Fr [] w w') => RSame_calls (V := 0) (U := 0) (hl.fr hf) (hm.fr hf) hll hle rfl)
  rw [hn1, hn2] at HS ⊢
  clear hl hm hll hle hn1 hn2
  go_enter Try.func18, Try.ntmps18
  go_wp2_with fail
  refine (HS.out _ (Fr.refl [] _)).mono ?_
  rintro e w1 ⟨rfl, hf⟩
  have HF := Lib.hid hf
  clear HS hf
  go_wp2
  go_ret
  exact ⟨rfl, HF.out⟩
end Go.Proofs.Ytbpaadpocihahaa
end

section
/- Law 43: few. -/
namespace Go.Proofs.Ytbpaadpocihahaa
open Go Go.RowKit Go.Proofs.Rg Go.Proofs.Mp Go.Proofs.Hp Go.Proofs.Sv Go.Proofs.Rp
set_option linter.unusedVariables false
set_option linter.unusedSimpArgs false
def le20 (r : List Int) : Bool := decide (r.length ≤ 20)
def fewF (cs p : List (List Int)) : Bool := decide (cs.length ≤ 40) && (decide (p.length ≤ 12) && (cs.all le20 && p.all le20))
theorem fewF_iff {cs p : List (List Int)} : fewF cs p = true ↔ cs.length ≤ 40 ∧ p.length ≤ 12 ∧ (∀ r ∈ cs, r.length ≤ 20) ∧ ∀ r ∈ p, r.length ≤ 20 := by
  unfold fewF le20
  simp
set_option maxHeartbeats 8000000 in
theorem few_calls {w : World} {V : Int} {a pa : Option Addr} {c pc : Nat} {cs p : List (List Int)} (h : FormAt w a c cs) (hp : FormAt w pa pc p) :
    Calls Try.prog 8 #[.agg #[.int .i64 V, .slice a cs.length c], .slice pa p.length pc] w fun e w' => e = .returned (.bool (fewF cs p)) ∧ Fr [] w w' := by
  obtain ⟨B, hB⟩ : ∃ B, fewF cs p = B := ⟨_, rfl⟩
  have HB := Lib.hid hB
  rw [hB]
  by_cases h40 : cs.length ≤ 40
  case neg =>
    have b0 : decide ((cs.length : Int) > 40) = true := by simp; omega
    have b1 : decide (40 < cs.length) = true := by simp; omega
    have HF := Lib.hid (show B = false from by rw [← hB]; unfold fewF; simp [h40])
    clear h hp hB h40
    go_enter Try.func8, Try.ntmps8
    go_wp2
    go_ret
    exact ⟨by rw [HF.out]; rfl, by (repeat first | exact Fr.refl _ _ | assumption | apply Fr.n | apply Fr.d | apply Fr.a | refine Fr.s ?_ (.inr (by simp; try omega)) _)⟩
  obtain ⟨n, hn⟩ : ∃ n, cs.length = n := ⟨_, rfl⟩
  have HN := Lib.hid hn
  rw [hn] at h40 ⊢
  have b1 : decide (40 < n) = false := by simp; omega
  have b0 : decide ((n : Int) > 40) = false := by simp; omega
  by_cases h12 : p.length ≤ 12
  case neg =>
    have b2 : decide ((p.length : Int) > 12) = true := by simp; omega
    have b3 : decide (12 < p.length) = true := by simp; omega
    have HF := Lib.hid (show B = false from by rw [← hB]; unfold fewF; simp [h12])
    clear h hp hB h12 hn
    go_enter Try.func8, Try.ntmps8
    go_wp2
    go_ret
    exact ⟨by rw [HF.out]; rfl, by (repeat first | exact Fr.refl _ _ | assumption | apply Fr.n | apply Fr.d | apply Fr.a | refine Fr.s ?_ (.inr (by simp; try omega)) _)⟩
  obtain ⟨m, hm⟩ : ∃ n, p.length = n := ⟨_, rfl⟩
  have HM := Lib.hid hm
  rw [hm] at h12 ⊢
  have b3 : decide (12 < m) = false := by simp; omega
  have b2 : decide ((m : Int) > 12) = false := by simp; omega
  have HI := Lib.hid h
  have HP := Lib.hid hp
  have H0 := Lib.hid ((Has.nil (Fr.refl [] w)).newBlk (.cells #[.int .i64 V, .slice a n c] 24 (0, 0)))
  clear h hp hB hn hm
  go_enter Try.func8, Try.ntmps8
  go_wp2
  go_loopg [19] n (fun gg z wr => ∃ i : Nat, i ≤ n ∧ n - i ≤ gg ∧ z = .int .i64 (i : Int) ∧ Hid (Has w wr [Hp.blk w.heap.size (.cells #[.int .i64 V, .slice a n c] 24 (0, 0))]) ∧ Hid ((cs.take i).all le20 = true))
  case atStart => exact ⟨0, Nat.zero_le _, by omega, rfl, Lib.hid (H0.out.step (by (repeat first | exact Fr.refl _ _ | assumption | apply Fr.n | apply Fr.d | apply Fr.a | refine Fr.s ?_ (.inr (by simp; try omega)) _))), Lib.hid rfl⟩
  case round =>
    obtain ⟨i, hi, hg, rfl, HW, HA⟩ := hrel
    clear H0
    by_cases hin : i < n
    · obtain ⟨r, hr⟩ : ∃ r, cs[i]? = some r := ⟨_, List.getElem?_eq_getElem (by rw [HN.out]; exact hin)⟩
      obtain ⟨g, off, ra, rc, hae, hgl, hc, hri⟩ := (HI.out.fr HW.out.fr).1.row hr
      subst hae
      have HTK := Lib.hid (show cs.take (i + 1) = cs.take i ++ [r] from by rw [List.take_add_one, hr]; rfl)
      have HR := Lib.hid hr
      have hb := HW.out.blk
      have c0 : _ = some _ := heap_eq_cell hb 0
      have c1 : _ = some _ := heap_eq_cell hb 1
      have cl := lt_of_block hb
      obtain ⟨k, hk⟩ : ∃ k, r.length = k := ⟨_, rfl⟩
      rw [hk] at hc
      have HK := Lib.hid hk
      clear hr hb hri hk
      by_cases h20 : k ≤ 20
      · have b4 : decide (20 < k) = false := by simp; omega
        have b5 : decide ((k : Int) > 20) = false := by simp; omega
        go_wp2
        go_roundg (n - (i + 1))
        case measure => omega
        case rel => exact ⟨i + 1, hin, Nat.le_refl _, by simp, Lib.hid (HW.out.step (by (repeat first | exact Fr.refl _ _ | assumption | apply Fr.n | apply Fr.d | apply Fr.a | refine Fr.s ?_ (.inr (by simp; try omega)) _))), Lib.hid (by rw [HTK.out, List.all_append, HA.out]; simp [le20, HK.out, h20])⟩
      · have b4 : decide (20 < k) = true := by simp; omega
        have b5 : decide ((k : Int) > 20) = true := by simp; omega
        have HF := Lib.hid (show B = false from by
          rw [← HB.out]
          cases hq : fewF cs p with
          | false => rfl
          | true =>
            have := (fewF_iff.1 hq).2.2.1 r (List.mem_of_getElem? HR.out)
            rw [HK.out] at this
            exact absurd this h20)
        go_wp2
        go_ret
        exact ⟨by rw [HF.out]; rfl, HW.out.fr.trans0 (by (repeat first | exact Fr.refl _ _ | assumption | apply Fr.n | apply Fr.d | apply Fr.a | refine Fr.s ?_ (.inr (by simp; try omega)) _))⟩
    · obtain rfl : i = n := by omega
      have hall := HA.out
      rw [List.take_of_length_le (by rw [HN.out]; exact Nat.le_refl _)] at hall
      have HALL := Lib.hid hall
      clear hall HA
      go_wp2
      go_loopg [32] m (fun gg z wr' => ∃ j : Nat, j ≤ m ∧ m - j ≤ gg ∧ z = .int .i64 (j : Int) ∧ Hid (Fr [] w wr') ∧ Hid ((p.take j).all le20 = true))
      case atStart => exact ⟨0, Nat.zero_le _, by omega, rfl, Lib.hid (HW.out.fr.trans0 (by (repeat first | exact Fr.refl _ _ | assumption | apply Fr.n | apply Fr.d | apply Fr.a | refine Fr.s ?_ (.inr (by simp; try omega)) _))), Lib.hid rfl⟩
      case round =>
        obtain ⟨j, hj, hgj, rfl, HX, HA⟩ := hrel
        by_cases hjn : j < m
        · obtain ⟨r, hr⟩ : ∃ r, p[j]? = some r := ⟨_, List.getElem?_eq_getElem (by rw [HM.out]; exact hjn)⟩
          obtain ⟨g, off, ra, rc, hae, hgl, hc, hri⟩ := (HP.out.fr HX.out).1.row hr
          subst hae
          have HTK := Lib.hid (show p.take (j + 1) = p.take j ++ [r] from by rw [List.take_add_one, hr]; rfl)
          have HR := Lib.hid hr
          obtain ⟨k, hk⟩ : ∃ k, r.length = k := ⟨_, rfl⟩
          rw [hk] at hc
          have HK := Lib.hid hk
          clear hr hri hk
          by_cases h20 : k ≤ 20
          · have b4 : decide (20 < k) = false := by simp; omega
            have b5 : decide ((k : Int) > 20) = false := by simp; omega
            go_wp2
            go_roundg (m - (j + 1))
            case measure => omega
            case rel => exact ⟨j + 1, hjn, Nat.le_refl _, by simp, Lib.hid (HX.out.trans0 (by (repeat first | exact Fr.refl _ _ | assumption | apply Fr.n | apply Fr.d | apply Fr.a | refine Fr.s ?_ (.inr (by simp; try omega)) _))), Lib.hid (by rw [HTK.out, List.all_append, HA.out]; simp [le20, HK.out, h20])⟩
          · have b4 : decide (20 < k) = true := by simp; omega
            have b5 : decide ((k : Int) > 20) = true := by simp; omega
            have HF := Lib.hid (show B = false from by
              rw [← HB.out]
              cases hq : fewF cs p with
              | false => rfl
              | true =>
                have := (fewF_iff.1 hq).2.2.2 r (List.mem_of_getElem? HR.out)
                rw [HK.out] at this
                exact absurd this h20)
            go_wp2
            go_ret
            exact ⟨by rw [HF.out]; rfl, HX.out.trans0 (by (repeat first | exact Fr.refl _ _ | assumption | apply Fr.n | apply Fr.d | apply Fr.a | refine Fr.s ?_ (.inr (by simp; try omega)) _))⟩
        · obtain rfl : j = m := by omega
          have hal2 := HA.out
          rw [List.take_of_length_le (by rw [HM.out]; exact Nat.le_refl _)] at hal2
          have HF := Lib.hid (show B = true from by
            rw [← HB.out]
            unfold fewF
            rw [HN.out, HM.out, HALL.out, hal2]
            simp [h40, h12])
          clear hal2
          go_wp2
          go_ret
          exact ⟨by rw [HF.out]; rfl, HX.out.trans0 (by (repeat first | exact Fr.refl _ _ | assumption | apply Fr.n | apply Fr.d | apply Fr.a | refine Fr.s ?_ (.inr (by simp; try omega)) _))⟩
end Go.Proofs.Ytbpaadpocihahaa
end

section
/- The reference's Eval. -/
namespace Go.Proofs.Ytbpaadpocihahaa
open Go Go.RowKit Go.Proofs.Rg Go.Proofs.Mp Go.Proofs.Hp Go.Proofs.Sv
set_option linter.unusedVariables false
set_option linter.unusedSimpArgs false
def bv (l : List Bool) : List Value := l.map Value.bool
theorem bv_length (l : List Bool) : (bv l).length = l.length := by simp [bv]
def BoolsAt (w : World) (v : Value) (l : List Bool) : Prop := Reads w v l.length 1 (bv l)
theorem BoolsAt.fr {w w' : World} {v : Value} {l : List Bool} (h : BoolsAt w v l) (hf : Fr [] w w') : BoolsAt w' v l := Reads.fr h hf
theorem bv_get {l : List Bool} {i : Nat} {x : Bool} (h : l[i]? = some x) : (bv l)[i]? = some (.bool x) := by unfold bv; rw [List.getElem?_map, h]; rfl
theorem BoolsAt.get {w : World} {a : Option Addr} {c : Nat} {l : List Bool} (h : BoolsAt w (.slice a l.length c) l) {i : Nat} {x : Bool} (hx : l[i]? = some x) : ∃ g off, a = some ⟨g, off, none⟩ ∧ g < w.heap.size ∧ w.cell? ⟨g, off + i, none⟩ = some (.bool x) := by
  obtain ⟨_, a', c', he, hp⟩ := h
  cases he
  obtain ⟨g, off, ha, hg, hc⟩ := hp (by have := (List.getElem?_eq_some_iff.1 hx).1; omega)
  exact ⟨g, off, ha, hg, hc i _ (bv_get hx)⟩
/-- values that can be read wherever some things are -/
def BoolsSrc (W : World) (Ps : List Res) (a : Option Addr) (c : Nat) (l : List Bool) : Prop := ∀ w Qs, Has W w Qs → (∀ P ∈ Ps, P ∈ Qs) → BoolsAt w (.slice a l.length c) l ∧ l.length ≤ c
theorem BoolsSrc.base {W : World} {Ps : List Res} {a : Option Addr} {c : Nat} {l : List Bool} (h : BoolsAt W (.slice a l.length c) l) (hc : l.length ≤ c) : BoolsSrc W Ps a c l := fun w Qs hw _ => ⟨h.fr hw.fr, hc⟩
theorem BoolsSrc.nil {W : World} {Ps : List Res} : BoolsSrc W Ps none 0 [] := fun w Qs hw _ => ⟨⟨rfl, none, 0, rfl, fun h => absurd h (by simp)⟩, by simp⟩
theorem BoolsSrc.more {W : World} {Ps Rs : List Res} {a : Option Addr} {c : Nat} {l : List Bool} (h : BoolsSrc W Ps a c l) (hs : ∀ P ∈ Ps, P ∈ Rs) : BoolsSrc W Rs a c l := fun w Qs hw hP => h w Qs hw fun P hp => hP P (hs P hp)
theorem BoolsSrc.row {W : World} {Ps : List Res} {a : Option Addr} {c n : Nat} {l : List Bool} (hn : l.length = n) (hm : Hp.row 4 1 (.slice a n c) n (bv l) ∈ Ps) : BoolsSrc W Ps a c l := fun w Qs hw hP => by
  subst hn
  obtain ⟨q1, q2, rfl⟩ := List.append_of_mem (hP _ hm)
  have h := hw.perm (List.perm_middle)
  have h2 := h.rowReads
  exact ⟨h2, owns_cap h.row⟩
theorem take_any {r : List Int} {k : Nat} {x : Int} (hx : r[k]? = some x) (p : Int → Bool) : (r.take (k + 1)).any p = ((r.take k).any p || p x) := by
  rw [List.take_add_one, hx, List.any_append]; simp
def EvPost (w : World) (V : Int) (cs : List (List Int)) (l : List Bool) (e : Ending) (w' : World) : Prop :=
  (¬ (rightF V cs = true ∧ (l.length : Int) = V) ∧ e = .returned (.tuple #[.bool false, .int .i64 2]) ∨ rightF V cs = true ∧ (l.length : Int) = V ∧ e = .returned (.tuple #[.bool (hold cs l), .int .i64 0])) ∧ Fr [] w w'
set_option maxHeartbeats 8000000 in
theorem REval_calls {w : World} {V : Int} {a : Option Addr} {c : Nat} {cs : List (List Int)} (h : FormAt w a c cs) (hs : ∀ r ∈ cs, r.length ≤ 1000000) {la : Option Addr} {lc : Nat} {l : List Bool} (hl : BoolsAt w (.slice la l.length lc) l) (hll : l.length ≤ 70000) :
    Calls Try.prog 42 #[.agg #[.int .i64 V, .slice a cs.length c], .slice la l.length lc] w (EvPost w V cs l) := by
  have HI := Lib.hid h
  have HS := Lib.hid hs
  have HL := Lib.hid hl
  obtain ⟨n, hn⟩ : ∃ n, cs.length = n := ⟨_, rfl⟩
  obtain ⟨nl, hnl⟩ : ∃ n, l.length = n := ⟨_, rfl⟩
  have HRC := Lib.hid (fun w' (hf : Fr [] w w') => R40Right_calls (V := V) (h.fr hf))
  rw [hn] at HRC ⊢
  have hnl2 := hnl
  rw [hnl] at hll ⊢
  have HN := Lib.hid (And.intro hn hnl)
  clear h hs hl hn hnl hnl2
  go_enter Try.func42, Try.ntmps42
  go_wp2_with fail
  refine (HRC.out _ (by (repeat first | exact Fr.refl _ _ | assumption | apply Fr.n | apply Fr.d | apply Fr.a | refine Fr.s ?_ (.inl (by simp)) _))).mono ?_
  rintro e w1 ⟨rfl, hf1⟩
  obtain ⟨bb, hbb⟩ : ∃ b, w.heap.size = b := ⟨_, rfl⟩
  have hfr : Fr [] w w1 := Fr.trans0 (by (repeat first | exact Fr.refl _ _ | assumption | apply Fr.n | apply Fr.d | apply Fr.a | refine Fr.s ?_ (.inl (by simp)) _)) hf1
  have v0 : w1.cell? ⟨bb, 0, none⟩ = some (.int .i64 V) := (hf1.cell (p := ⟨bb, 0, none⟩) (by rw [← hbb]; simp) (by simp)).trans (by rw [← hbb]; simp)
  have v1 : w1.cell? ⟨bb, 1, none⟩ = some (.slice a n c) := (hf1.cell (p := ⟨bb, 1, none⟩) (by rw [← hbb]; simp) (by simp)).trans (by rw [← hbb]; simp)
  have vl : bb < w1.heap.size := Nat.lt_of_lt_of_le (by rw [← hbb]; simp) hf1.size
  rw [hbb]
  have HF1 := Lib.hid hfr
  obtain ⟨R, hR⟩ : ∃ R, rightF V cs = R := ⟨_, rfl⟩
  rw [hR]
  have HR := Lib.hid hR
  clear hf1 hfr hbb hR HRC
  cases R with
  | false =>
    go_wp2
    go_ret2
    exact ⟨.inl ⟨fun h => absurd h.1 (by rw [HR.out]; simp), rfl⟩, HF1.out⟩
  | true =>
    by_cases h2 : (nl : Int) = V
    case neg =>
      have b2 : ((nl : Int) != V) = true := by simpa using h2
      have HE := Lib.hid h2
      clear h2
      go_wp2
      go_ret2
      exact ⟨.inl ⟨fun h => HE.out (by rw [← HN.out.2]; exact h.2), rfl⟩, HF1.out⟩
    subst h2
    have b2 : ((nl : Int) != (nl : Int)) = false := by simp
    obtain ⟨hcl, hV, hlit⟩ := rightF_len HR.out
    rw [HN.out.1] at hcl
    obtain ⟨RR, hRR⟩ : ∃ R, hold cs l = R := ⟨_, rfl⟩
    have HH := Lib.hid hRR
    have HZ := Lib.hid (And.intro HS.out hlit)
    clear hlit hRR
    go_wp2
    go_loopg [6] n (fun gg z wr => ∃ i : Nat, i ≤ n ∧ n - i ≤ gg ∧ z = .int .i64 (i : Int) ∧ wr = w1 ∧ Hid ((cs.take i).all (fun c => c.any (opn l)) = true))
    case atStart => exact ⟨0, Nat.zero_le _, by omega, rfl, rfl, Lib.hid rfl⟩
    case round =>
      obtain ⟨i, hi, hg, rfl, hwr, HA⟩ := hrel
      subst wr
      by_cases hin : i < n
      · obtain ⟨r, hr⟩ : ∃ r, cs[i]? = some r := ⟨_, List.getElem?_eq_getElem (by rw [HN.out.1]; exact hin)⟩
        obtain ⟨g, off, ra, rc, hae, hgl, hc, hri⟩ := (HI.out.fr HF1.out).1.row hr
        subst hae
        have hrl := HZ.out.1 r (List.mem_of_getElem? hr)
        have htk : cs.take (i + 1) = cs.take i ++ [r] := by rw [List.take_add_one, hr]; rfl
        have HTK := Lib.hid htk
        have HRI := Lib.hid (And.intro hri hr)
        have HRZ := Lib.hid (HZ.out.2 r (List.mem_of_getElem? hr))
        obtain ⟨m, hm⟩ : ∃ m, r.length = m := ⟨_, rfl⟩
        rw [hm] at hrl hc
        have HM := Lib.hid hm
        clear htk hri hr hm
        go_wp2
        go_loopg [7, 8] m (fun gg z6 z wr => ∃ (k : Nat) (ob : Bool), k ≤ m ∧ m - k ≤ gg ∧ z6 = .bool ob ∧ z = .int .i64 (k : Int) ∧ wr = w1 ∧ Hid ((r.take k).any (opn l) = ob))
        case atStart => exact ⟨0, false, Nat.zero_le _, by omega, rfl, rfl, rfl, Lib.hid rfl⟩
        case round =>
          obtain ⟨k, ob, hk, hgk, rfl, rfl, hwr, HB⟩ := hrel
          subst wr
          by_cases hkm : k < m
          · obtain ⟨x, hx⟩ : ∃ x, r[k]? = some x := ⟨_, List.getElem?_eq_getElem (by rw [HM.out]; exact hkm)⟩
            obtain ⟨g2, off2, rfl, hgl2, hc2⟩ := IntsAt.get HRI.out.1 hx
            have HTA := Lib.hid (take_any hx (opn l))
            obtain ⟨hx0, hx6⟩ := HRZ.out x (List.mem_of_getElem? hx)
            have hw1 : IntKind.i64.wrap (-x) = -x := IntWalk.i64_in _ (by omega)
            obtain ⟨v, hv⟩ : ∃ v, x.natAbs = v := ⟨_, rfl⟩
            have hmx : max x (-x) = ((v : Nat) : Int) := by omega
            have HV := Lib.hid hv
            have HX := Lib.hid hx
            rw [hv] at hx6
            have hv1 : 1 ≤ v := by omega
            clear hx hx0 hv
            cases ob with
            | true =>
              go_wp2
              go_roundg (m - (k + 1))
              case measure => omega
              case rel => exact ⟨k + 1, true, hkm, Nat.le_refl _, rfl, by simp, rfl, Lib.hid (by rw [HTA.out, HB.out]; rfl)⟩
            | false =>
              obtain ⟨j, rfl⟩ : ∃ j, v = j + 1 := ⟨v - 1, by omega⟩
              have b1 : decide ((nl : Int) < (j : Int) + 1) = false := by simp; omega
              obtain ⟨b, hb⟩ : ∃ b, l[j]? = some b := ⟨_, List.getElem?_eq_getElem (by rw [HN.out.2]; omega)⟩
              have hLb := HL.out
              rw [HN.out.2] at hLb
              obtain ⟨g3, off3, rfl, hgl3, hc3⟩ := BoolsAt.get (by rw [HN.out.2]; exact hLb.fr HF1.out) hb
              obtain ⟨px, hpx⟩ : ∃ p, decide (x > 0) = p := ⟨_, rfl⟩
              have HO := Lib.hid (show opn l x = (b == px) by
                unfold opn litT
                rw [HN.out.2, HV.out, Nat.add_sub_cancel, List.getD_eq_getElem?_getD, hb, ← hpx]
                simp; omega)
              clear hLb hb
              go_wp2
              go_roundg (m - (k + 1))
              case measure => omega
              case rel => exact ⟨k + 1, b == px, hkm, Nat.le_refl _, rfl, by simp, rfl, Lib.hid (by rw [HTA.out, HB.out, HO.out]; rfl)⟩
          · obtain rfl : k = m := by omega
            have hall := HB.out
            rw [List.take_of_length_le (by rw [HM.out]; exact Nat.le_refl _)] at hall
            have HALL := Lib.hid hall
            clear hall HB
            cases ob with
            | true =>
              go_wp2
              go_roundg (n - (i + 1))
              case measure => omega
              case rel => exact ⟨i + 1, hin, Nat.le_refl _, by simp, rfl, Lib.hid (by rw [HTK.out, List.all_append, HA.out]; simp [HALL.out])⟩
            | false =>
              have hres : RR = false := by
                rw [← HH.out]
                unfold hold
                rw [List.all_eq_false]
                exact ⟨r, List.mem_of_getElem? HRI.out.2, by rw [HALL.out]; simp⟩
              have HRES := Lib.hid hres
              clear hres
              go_wp2
              go_ret2
              exact ⟨.inr ⟨HR.out, by rw [HN.out.2], by rw [HH.out, HRES.out]; rfl⟩, HF1.out⟩
      · obtain rfl : i = n := by omega
        have hall := HA.out
        rw [List.take_of_length_le (by rw [HN.out.1]; exact Nat.le_refl _)] at hall
        have HALL := Lib.hid (show RR = true from HH.out.symm.trans hall)
        clear hall HA
        go_wp2
        go_ret2
        exact ⟨.inr ⟨HR.out, by rw [HN.out.2], by rw [HH.out, HALL.out]; rfl⟩, HF1.out⟩
end Go.Proofs.Ytbpaadpocihahaa
end
