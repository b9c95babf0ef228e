/- Own texts of this claim, part 29: no condition. -/
import Derived.Test.YtjidldfnlejdhaaZM18
import Derived.Test.YtjidldfnlejdhaaZM23
set_option linter.unusedVariables false
set_option linter.unusedSimpArgs false
section
/- The reference's Eval. -/
namespace Go.Proofs.Ytjidldfnlejdhaa
open Go Go.RowKit Go.Proofs.Rg Go.Proofs.Mp Go.Proofs.Hp Go.Proofs.Sv
set_option linter.unusedVariables false
set_option linter.unusedSimpArgs false
def EvPost (w : World) (V : Int) (cs : List (List Int)) (l : List Bool) (e : Ending) (w' : World) : Prop :=
  (¬ (rightF V cs = true ∧ (l.length : Int) = V) ∧ e = .returned (.tuple #[.bool false, .int .i64 2]) ∨ rightF V cs = true ∧ (l.length : Int) = V ∧ e = .returned (.tuple #[.bool (hold cs l), .int .i64 0])) ∧ Fr [] w w'
set_option maxHeartbeats 8000000 in
theorem REval_calls {w : World} {V : Int} {a : Option Addr} {c : Nat} {cs : List (List Int)} (h : FormAt w a c cs) (hs : ∀ r ∈ cs, r.length ≤ 1000000) {la : Option Addr} {lc : Nat} {l : List Bool} (hl : BoolsAt w (.slice la l.length lc) l) (hll : l.length ≤ 70000) :
    Calls Try.prog 25 #[.agg #[.int .i64 V, .slice a cs.length c], .slice la l.length lc] w (EvPost w V cs l) := by
  have HI := Lib.hid h
  have HS := Lib.hid hs
  have HL := Lib.hid hl
  obtain ⟨n, hn⟩ : ∃ n, cs.length = n := ⟨_, rfl⟩
  obtain ⟨nl, hnl⟩ : ∃ n, l.length = n := ⟨_, rfl⟩
  have HRC := Lib.hid (fun w' (hf : Fr [] w w') => R40Right_calls (V := V) (h.fr hf))
  rw [hn] at HRC ⊢
  have hnl2 := hnl
  rw [hnl] at hll ⊢
  have HN := Lib.hid (And.intro hn hnl)
  clear h hs hl hn hnl hnl2
  go_enter Try.func25, Try.ntmps25
  go_wp2_with fail
  refine (HRC.out _ (by (repeat first | exact Fr.refl _ _ | assumption | apply Fr.n | apply Fr.d | apply Fr.a | refine Fr.s ?_ (.inl (by simp)) _))).mono ?_
  rintro e w1 ⟨rfl, hf1⟩
  obtain ⟨bb, hbb⟩ : ∃ b, w.heap.size = b := ⟨_, rfl⟩
  have hfr : Fr [] w w1 := Fr.trans0 (by (repeat first | exact Fr.refl _ _ | assumption | apply Fr.n | apply Fr.d | apply Fr.a | refine Fr.s ?_ (.inl (by simp)) _)) hf1
  have v0 : w1.cell? ⟨bb, 0, none⟩ = some (.int .i64 V) := (hf1.cell (p := ⟨bb, 0, none⟩) (by rw [← hbb]; simp) (by simp)).trans (by rw [← hbb]; simp)
  have v1 : w1.cell? ⟨bb, 1, none⟩ = some (.slice a n c) := (hf1.cell (p := ⟨bb, 1, none⟩) (by rw [← hbb]; simp) (by simp)).trans (by rw [← hbb]; simp)
  have vl : bb < w1.heap.size := Nat.lt_of_lt_of_le (by rw [← hbb]; simp) hf1.size
  rw [hbb]
  have HF1 := Lib.hid hfr
  obtain ⟨R, hR⟩ : ∃ R, rightF V cs = R := ⟨_, rfl⟩
  rw [hR]
  have HR := Lib.hid hR
  clear hf1 hfr hbb hR HRC
  cases R with
  | false =>
    go_wp2
    go_ret2
    exact ⟨.inl ⟨fun h => absurd h.1 (by rw [HR.out]; simp), rfl⟩, HF1.out⟩
  | true =>
    by_cases h2 : (nl : Int) = V
    case neg =>
      have b2 : ((nl : Int) != V) = true := by simpa using h2
      have HE := Lib.hid h2
      clear h2
      go_wp2
      go_ret2
      exact ⟨.inl ⟨fun h => HE.out (by rw [← HN.out.2]; exact h.2), rfl⟩, HF1.out⟩
    subst h2
    have b2 : ((nl : Int) != (nl : Int)) = false := by simp
    obtain ⟨hcl, hV, hlit⟩ := rightF_len HR.out
    rw [HN.out.1] at hcl
    obtain ⟨RR, hRR⟩ : ∃ R, hold cs l = R := ⟨_, rfl⟩
    have HH := Lib.hid hRR
    have HZ := Lib.hid (And.intro HS.out hlit)
    clear hlit hRR
    go_wp2
    go_loopg [6] n (fun gg z wr => ∃ i : Nat, i ≤ n ∧ n - i ≤ gg ∧ z = .int .i64 (i : Int) ∧ wr = w1 ∧ Hid ((cs.take i).all (fun c => c.any (opn l)) = true))
    case atStart => exact ⟨0, Nat.zero_le _, by omega, rfl, rfl, Lib.hid rfl⟩
    case round =>
      obtain ⟨i, hi, hg, rfl, hwr, HA⟩ := hrel
      subst wr
      by_cases hin : i < n
      · obtain ⟨r, hr⟩ : ∃ r, cs[i]? = some r := ⟨_, List.getElem?_eq_getElem (by rw [HN.out.1]; exact hin)⟩
        obtain ⟨g, off, ra, rc, hae, hgl, hc, hri⟩ := (HI.out.fr HF1.out).1.row hr
        subst hae
        have hrl := HZ.out.1 r (List.mem_of_getElem? hr)
        have htk : cs.take (i + 1) = cs.take i ++ [r] := by rw [List.take_add_one, hr]; rfl
        have HTK := Lib.hid htk
        have HRI := Lib.hid (And.intro hri hr)
        have HRZ := Lib.hid (HZ.out.2 r (List.mem_of_getElem? hr))
        obtain ⟨m, hm⟩ : ∃ m, r.length = m := ⟨_, rfl⟩
        rw [hm] at hrl hc
        have HM := Lib.hid hm
        clear htk hri hr hm
        go_wp2
        go_loopg [7, 8] m (fun gg z6 z wr => ∃ (k : Nat) (ob : Bool), k ≤ m ∧ m - k ≤ gg ∧ z6 = .bool ob ∧ z = .int .i64 (k : Int) ∧ wr = w1 ∧ Hid ((r.take k).any (opn l) = ob))
        case atStart => exact ⟨0, false, Nat.zero_le _, by omega, rfl, rfl, rfl, Lib.hid rfl⟩
        case round =>
          obtain ⟨k, ob, hk, hgk, rfl, rfl, hwr, HB⟩ := hrel
          subst wr
          by_cases hkm : k < m
          · obtain ⟨x, hx⟩ : ∃ x, r[k]? = some x := ⟨_, List.getElem?_eq_getElem (by rw [HM.out]; exact hkm)⟩
            obtain ⟨g2, off2, rfl, hgl2, hc2⟩ := IntsAt.get HRI.out.1 hx
            have HTA := Lib.hid (take_any hx (opn l))
            obtain ⟨hx0, hx6⟩ := HRZ.out x (List.mem_of_getElem? hx)
            have hw1 : IntKind.i64.wrap (-x) = -x := IntWalk.i64_in _ (by omega)
            obtain ⟨v, hv⟩ : ∃ v, x.natAbs = v := ⟨_, rfl⟩
            have hmx : max x (-x) = ((v : Nat) : Int) := by omega
            have HV := Lib.hid hv
            have HX := Lib.hid hx
            rw [hv] at hx6
            have hv1 : 1 ≤ v := by omega
            clear hx hx0 hv
            cases ob with
            | true =>
              go_wp2
              go_roundg (m - (k + 1))
              case measure => omega
              case rel => exact ⟨k + 1, true, hkm, Nat.le_refl _, rfl, by simp, rfl, Lib.hid (by rw [HTA.out, HB.out]; rfl)⟩
            | false =>
              obtain ⟨j, rfl⟩ : ∃ j, v = j + 1 := ⟨v - 1, by omega⟩
              have b1 : decide ((nl : Int) < (j : Int) + 1) = false := by simp; omega
              obtain ⟨b, hb⟩ : ∃ b, l[j]? = some b := ⟨_, List.getElem?_eq_getElem (by rw [HN.out.2]; omega)⟩
              have hLb := HL.out
              rw [HN.out.2] at hLb
              obtain ⟨g3, off3, rfl, hgl3, hc3⟩ := BoolsAt.get (by rw [HN.out.2]; exact hLb.fr HF1.out) hb
              obtain ⟨px, hpx⟩ : ∃ p, decide (x > 0) = p := ⟨_, rfl⟩
              have HO := Lib.hid (show opn l x = (b == px) by
                unfold opn litT
                rw [HN.out.2, HV.out, Nat.add_sub_cancel, List.getD_eq_getElem?_getD, hb, ← hpx]
                simp; omega)
              clear hLb hb
              go_wp2
              go_roundg (m - (k + 1))
              case measure => omega
              case rel => exact ⟨k + 1, b == px, hkm, Nat.le_refl _, rfl, by simp, rfl, Lib.hid (by rw [HTA.out, HB.out, HO.out]; rfl)⟩
          · obtain rfl : k = m := by omega
            have hall := HB.out
            rw [List.take_of_length_le (by rw [HM.out]; exact Nat.le_refl _)] at hall
            have HALL := Lib.hid hall
            clear hall HB
            cases ob with
            | true =>
              go_wp2
              go_roundg (n - (i + 1))
              case measure => omega
              case rel => exact ⟨i + 1, hin, Nat.le_refl _, by simp, rfl, Lib.hid (by rw [HTK.out, List.all_append, HA.out]; simp [HALL.out])⟩
            | false =>
              have hres : RR = false := by
                rw [← HH.out]
                unfold hold
                rw [List.all_eq_false]
                exact ⟨r, List.mem_of_getElem? HRI.out.2, by rw [HALL.out]; simp⟩
              have HRES := Lib.hid hres
              clear hres
              go_wp2
              go_ret2
              exact ⟨.inr ⟨HR.out, by rw [HN.out.2], by rw [HH.out, HRES.out]; rfl⟩, HF1.out⟩
      · obtain rfl : i = n := by omega
        have hall := HA.out
        rw [List.take_of_length_le (by rw [HN.out.1]; exact Nat.le_refl _)] at hall
        have HALL := Lib.hid (show RR = true from HH.out.symm.trans hall)
        clear hall HA
        go_wp2
        go_ret2
        exact ⟨.inr ⟨HR.out, by rw [HN.out.2], by rw [HH.out, HALL.out]; rfl⟩, HF1.out⟩
end Go.Proofs.Ytjidldfnlejdhaa
end

section
/- Law SolveSatisfies, walked. -/
namespace Go.Proofs.Ytjidldfnlejdhaa
open Go Go.RowKit Go.Proofs.Rg Go.Proofs.Mp Go.Proofs.Hp Go.Proofs.Sv
set_option linter.unusedVariables false
set_option linter.unusedSimpArgs false
/-- the answers of Eval after First -/
theorem eval_yes {V : Int} {cs : List (List Int)} {x : List Bool} (h0 : EF V cs = 0) (h : FF V cs = some x) : rightF V cs = true ∧ (x.length : Int) = V ∧ hold cs x = true := by
  have h1 := h0
  unfold EF at h1
  split at h1
  · cases h1
  case isFalse hg =>
    rw [not_or, Bool.not_eq_false] at hg
    obtain ⟨N, rfl⟩ : ∃ N : Nat, V = N := ⟨V.toNat, by omega⟩
    have hr : rightF N cs = true := by simpa using hg.2
    rw [(EF_of hr).2] at h
    have hm := List.mem_of_head? h
    obtain ⟨hx, hs⟩ := List.mem_filter.1 hm
    have hl := ext_one_len hx
    exact ⟨hr, by rw [hl], by rw [hold_full (by rw [hl]; exact (rightF_len hr).2.2)]; exact hs⟩
theorem eval_no {V : Int} {cs : List (List Int)} {x : List Bool} (h0 : EF V cs = 0) (h : FF V cs = none) (hx : rightF V cs = true) (hl : (x.length : Int) = V) : hold cs x = false := by
  subst hl
  rw [(EF_of hx).2, List.head?_eq_none_iff] at h
  rw [hold_full (rightF_len hx).2.2]
  rw [Bool.eq_false_iff]
  intro hs
  have : x ∈ Sols x.length cs := List.mem_filter.2 ⟨ext_all _ _ rfl, hs⟩
  rw [h] at this
  simp at this
theorem EvPost.yes {w : World} {V : Int} {cs : List (List Int)} {x : List Bool} {e : Ending} {w' : World} (h : EvPost w V cs x e w') (h0 : EF V cs = 0) (hF : FF V cs = some x) : e = .returned (.tuple #[.bool true, .int .i64 0]) ∧ Fr [] w w' := by
  obtain ⟨h1, h2, h3⟩ := eval_yes h0 hF
  rcases h with ⟨⟨hn, _⟩ | ⟨_, _, rfl⟩, hf⟩
  · exact absurd ⟨h1, h2⟩ hn
  · exact ⟨by rw [h3], hf⟩
theorem EvPost.no {w : World} {V : Int} {cs : List (List Int)} {x : List Bool} {e : Ending} {w' : World} (h : EvPost w V cs x e w') (h0 : EF V cs = 0) (hF : FF V cs = none) : (∃ k, e = .returned (.tuple #[.bool false, .int .i64 k])) ∧ Fr [] w w' := by
  rcases h with ⟨⟨hn, rfl⟩ | ⟨h1, h2, rfl⟩, hf⟩
  · exact ⟨⟨_, rfl⟩, hf⟩
  · exact ⟨⟨0, by rw [eval_no h0 hF h1 h2]⟩, hf⟩
set_option maxHeartbeats 8000000 in
theorem SolveSatisfies_calls (haw : AwakeOk) {w : World} {V : Int} {a : Option Addr} {c : Nat} {cs : List (List Int)} (h : FormAt w a c cs) {la : Option Addr} {lc : Nat} {l : List Bool} (hl : BoolsAt w (.slice la l.length lc) l) :
    Calls Try.prog 8 #[.agg #[.int .i64 V, .slice a cs.length c], .slice la l.length lc] w fun e w' => e = .returned (.bool true) ∧ Fr [] w w' := by
  have HAW := Lib.hid haw
  have HT := Lib.hid (fun w' (hf : Fr [] w w') => tiny_calls (V := V) (h.fr hf))
  obtain ⟨m, hm⟩ : ∃ m, cs.length = m := ⟨_, rfl⟩
  obtain ⟨ln, hln⟩ : ∃ m, l.length = m := ⟨_, rfl⟩
  have HP := Lib.hid (fun (hs : smallF V cs = true) w' (hf : Fr [] w w') => @First_u w' V a c cs (h.fr hf) hs)
  have HE1 := Lib.hid (fun (hs : smallF V cs = true) w' (hf : Fr [] w w') xa xc x (hx : BoolsAt w' (.slice xa x.length xc) x) (hxl : x.length ≤ 70000) => @REval_calls w' V a c cs (h.fr hf) (tiny_len hs).2 xa xc x hx hxl)
  have HE2 := Lib.hid (fun (hs : smallF V cs = true) (hll : ln ≤ 20) w' (hf : Fr [] w w') => @REval_calls w' V a c cs (h.fr hf) (tiny_len hs).2 la lc l (hl.fr hf) (by omega))
  have HLN := Lib.hid hln
  rw [hm] at HT HP HE1 HE2 ⊢
  rw [hln] at HE2 ⊢
  clear h haw hm hl hln
  go_enter Try.func8, Try.ntmps8
  go_wp2_with fail
  refine (HT.out _ (by (repeat first | exact Fr.refl _ _ | assumption | apply Fr.n | apply Fr.d | apply Fr.a | refine Fr.s ?_ (.inl (by simp)) _))).mono ?_
  rintro e w1 ⟨rfl, hf1⟩
  obtain ⟨fb, hfb⟩ : ∃ b, w.heap.size = b := ⟨_, rfl⟩
  have hfr : Fr [] w w1 := Fr.trans0 (by (repeat first | exact Fr.refl _ _ | assumption | apply Fr.n | apply Fr.d | apply Fr.a | refine Fr.s ?_ (.inl (by simp)) _)) hf1
  have v0 : w1.cell? ⟨fb, 0, none⟩ = some (.int .i64 V) := (hf1.cell (p := ⟨fb, 0, none⟩) (by rw [← hfb]; simp) (by simp)).trans (by rw [← hfb]; simp)
  have v1 : w1.cell? ⟨fb, 1, none⟩ = some (.slice a m c) := (hf1.cell (p := ⟨fb, 1, none⟩) (by rw [← hfb]; simp) (by simp)).trans (by rw [← hfb]; simp)
  have vl : fb < w1.heap.size := Nat.lt_of_lt_of_le (by rw [← hfb]; simp) hf1.size
  rw [hfb]
  have HF1 := Lib.hid hfr
  obtain ⟨T, hT⟩ : ∃ T, tinyF V cs = T := ⟨_, rfl⟩
  rw [hT]
  have HTT := Lib.hid hT
  clear hf1 hfr hfb hT HT
  cases T with
  | false =>
    go_wp2_with fail
    refine (HAW.out _).mono ?_
    rintro e w9 ⟨rfl, hf9⟩
    have HF9 := Lib.hid hf9
    clear hf9
    go_wp2
    go_ret
    exact ⟨rfl, HF1.out.trans0 HF9.out⟩
  | true =>
    by_cases h20 : ln > 20
    · have b0 : decide ((ln : Int) > 20) = true := by simp; omega
      go_wp2_with fail
      refine (HAW.out _).mono ?_
      rintro e w9 ⟨rfl, hf9⟩
      have HF9 := Lib.hid hf9
      clear hf9
      go_wp2
      go_ret
      exact ⟨rfl, HF1.out.trans0 HF9.out⟩
    have b0 : decide ((ln : Int) > 20) = false := by simp; omega
    have H20 := Lib.hid (show ln ≤ 20 by omega)
    have HS := Lib.hid (show smallF V cs = true by have := HTT.out; unfold tinyF at this; simp only [Bool.and_eq_true] at this; exact this.1)
    clear h20
    go_wp2_with fail
    refine (HP.out HS.out _ HF1.out).mono ?_
    rintro e w2 ⟨oa, oc, rfl, hb2, hf2⟩
    obtain ⟨E, hE⟩ : ∃ E, EF V cs = E := ⟨_, rfl⟩
    obtain ⟨F, hF⟩ : ∃ E, FF V cs = E := ⟨_, rfl⟩
    rw [hF] at hb2 ⊢
    rw [hE]
    have HE := Lib.hid hE
    have HFF := Lib.hid hF
    have HB2 := Lib.hid hb2
    have HF2 := Lib.hid (HF1.out.trans0 hf2)
    have v0 := (hf2.cell (p := ⟨fb, 0, none⟩) vl (by simp)).trans v0
    have v1 := (hf2.cell (p := ⟨fb, 1, none⟩) vl (by simp)).trans v1
    have vl := Nat.lt_of_lt_of_le vl hf2.size
    clear hf2 hb2
    by_cases he : E = 0
    case neg =>
      have b1 : (E != 0) = true := by simpa using he
      clear he hE hF
      go_wp2_with fail
      refine (HAW.out _).mono ?_
      rintro e w9 ⟨rfl, hf9⟩
      have HF9 := Lib.hid hf9
      clear hf9
      go_wp2
      go_ret
      exact ⟨rfl, HF2.out.trans0 HF9.out⟩
    subst he
    clear hE hF
    cases F with
    | some x =>
      have hxl := FF_len (V := V) (cs := cs)
      rw [HFF.out, Option.getD_some] at hxl
      have HXL := Lib.hid hxl
      clear hxl
      simp only [Option.getD_some, Option.isSome_some] at HB2 ⊢
      have HEV := Lib.hid (HE1.out HS.out _ HF2.out _ _ x HB2.out HXL.out)
      obtain ⟨xl, hx⟩ : ∃ n, x.length = n := ⟨_, rfl⟩
      rw [hx] at HEV ⊢
      clear hx
      go_wp2_with fail
      refine HEV.out.mono ?_
      rintro e w3 h3
      obtain ⟨rfl, hf3⟩ := h3.yes HE.out HFF.out
      have HF3 := Lib.hid (HF2.out.trans0 hf3)
      clear hf3 h3
      go_wp2_with fail
      refine (HAW.out _).mono ?_
      rintro e w9 ⟨rfl, hf9⟩
      have HF9 := Lib.hid hf9
      clear hf9
      go_wp2
      go_ret
      exact ⟨rfl, HF3.out.trans0 HF9.out⟩
    | none =>
      simp only [Option.getD_none, Option.isSome_none, List.length_nil] at HB2 ⊢
      go_wp2_with fail
      refine (HE2.out HS.out H20.out _ HF2.out).mono ?_
      rintro e w3 h3
      obtain ⟨⟨k, rfl⟩, hf3⟩ := h3.no HE.out HFF.out
      have HF3 := Lib.hid (HF2.out.trans0 hf3)
      clear hf3 h3
      go_wp2_with fail
      refine (HAW.out _).mono ?_
      rintro e w9 ⟨rfl, hf9⟩
      have HF9 := Lib.hid hf9
      clear hf9
      go_wp2
      go_ret
      exact ⟨rfl, HF3.out.trans0 HF9.out⟩
end Go.Proofs.Ytjidldfnlejdhaa
end
