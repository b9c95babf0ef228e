/- Own texts of this claim, part 27: no condition. -/
import Derived.Test.YtjidldfnlejdhaaZM23
set_option linter.unusedVariables false
set_option linter.unusedSimpArgs false
section
/- Law SolveOrder: what Next answers on the rows of All; the rows with room. -/
namespace Go.Proofs.Ytjidldfnlejdhaa
open Go Go.RowKit Go.Proofs.Rg Go.Proofs.Mp Go.Proofs.Hp Go.Proofs.Sv
set_option linter.unusedVariables false
set_option linter.unusedSimpArgs false
/-- rows of bools that lie in slices with room -/
def CRowsAt (w : World) (v : Value) (L : List (List Bool)) : Prop :=
  ∃ vs, Reads w v L.length 1 vs ∧ ∀ (i : Nat) (r : List Bool), L[i]? = some r → ∃ ua uc, vs[i]? = some (.slice ua r.length uc) ∧ r.length ≤ uc ∧ BoolsAt w (.slice ua r.length uc) r
theorem CRowsAt.fr {w w' : World} {v : Value} {L : List (List Bool)} (h : CRowsAt w v L) (hf : Fr [] w w') : CRowsAt w' v L := by
  obtain ⟨vs, h1, h2⟩ := h
  refine ⟨vs, h1.fr hf, fun i r hi => ?_⟩
  obtain ⟨ua, uc, h3, h4, h5⟩ := h2 i r hi
  exact ⟨ua, uc, h3, h4, h5.fr hf⟩
theorem rows_memC {W w : World} {Ps : List Res} {oa : Option Addr} {oc : Nat} {OV : List (Value × List Bool)} {L : List (List Bool)} (hO : OV.map (·.2) = L) (h : Has W w Ps) (h1 : Hp.row 25 1 (.slice oa L.length oc) L.length (OV.map (·.1)) ∈ Ps) (h2 : bun (OV.map rowB) ∈ Ps) : CRowsAt w (.slice oa L.length oc) L := by
  refine ⟨OV.map (·.1), ?_, fun i r hi => ?_⟩
  · obtain ⟨q1, q2, e⟩ := List.append_of_mem h1
    rw [e] at h
    exact (h.perm List.perm_middle).rowReads
  · rw [← hO, List.getElem?_map] at hi
    obtain ⟨q, hq, rfl⟩ := Option.map_eq_some_iff.1 hi
    obtain ⟨q1, q2, e⟩ := List.append_of_mem h2
    rw [e] at h
    have h3 := (h.perm List.perm_middle).unbun
    obtain ⟨q3, q4, e2⟩ := List.append_of_mem (List.mem_map_of_mem (f := rowB) (List.mem_of_getElem? hq))
    rw [e2, List.append_assoc, List.cons_append] at h3
    have h4 := h3.perm List.perm_middle
    obtain ⟨qv, ql⟩ := q
    unfold rowB at h4
    simp only at h4 ⊢
    obtain ⟨ua, uc, rfl, _⟩ := owns_form2 h4.row
    exact ⟨ua, uc, by rw [List.getElem?_map, hq]; rfl, owns_cap h4.row, h4.rowReads⟩
def AllC (w : World) (V : Int) (cs : List (List Int)) (n most : Int) (e : Ending) (w' : World) : Prop :=
  ∃ oa oc k, e = .returned (.tuple #[.slice oa k oc, .int .i64 (EA V cs n most)]) ∧ (EA V cs n most = 0 → k = (LA V cs n most).length ∧ CRowsAt w' (.slice oa k oc) (LA V cs n most)) ∧ Fr [] w w'
section
variable {w : World} {V : Int} {a : Option Addr} {c : Nat} {cs : List (List Int)} {n most : Int} {e : Ending} {w' : World}
theorem AllC.of {N : Nat} (h : AllPost w [] N cs n most e w') : AllC w (N : Int) cs n most e w' := by
  unfold AllC
  rcases h with ⟨hg, rfl, h⟩ | ⟨hg, hm, rfl, h⟩ | ⟨hg, OV, vo, h1, h2, rfl, h⟩
  · have e1 : EA (N : Int) cs n most = 2 := by unfold EA; rw [if_pos (.inr hg)]
    rw [e1]
    exact ⟨none, 0, 0, rfl, fun h => absurd h (by decide), h.fr⟩
  · have e1 : EA (N : Int) cs n most = 14 := by
      unfold EA
      rw [if_neg (by rw [not_or]; exact ⟨by omega, by rw [Int.toNat_natCast, hg]; simp⟩), if_pos (by rw [Int.toNat_natCast]; exact hm)]
    rw [e1]
    exact ⟨none, 0, 0, rfl, fun h => absurd h (by decide), h.fr⟩
  · have h3 : (firsts n.toNat (Sols N cs)).length ≤ most.toNat := by rw [← h1, List.length_map]; exact h2
    have e1 : EA (N : Int) cs n most = 0 := by
      unfold EA
      rw [if_neg (by rw [not_or]; exact ⟨by omega, by rw [Int.toNat_natCast, hg]; simp⟩), if_neg (by rw [Int.toNat_natCast]; omega)]
    have e2 : LA (N : Int) cs n most = firsts n.toNat (Sols N cs) := by unfold LA; rw [if_pos e1, Int.toNat_natCast]
    rw [e1, e2]
    obtain ⟨oa, oc, rfl, _⟩ := owns_form2 h.row
    have e3 : OV.length = (firsts n.toNat (Sols N cs)).length := by rw [← h1, List.length_map]
    rw [e3] at h ⊢
    exact ⟨oa, oc, _, rfl, fun _ => ⟨rfl, rows_memC h1 h (by simp) (by simp)⟩, h.fr⟩
theorem All_c (hF : FormAt w a c cs) (hs : smallF V cs = true) : Calls Try.prog 16 #[.agg #[.int .i64 V, .slice a cs.length c], .int .i64 n, .int .i64 most] w (AllC w V cs n most) := by
  have hz := Has.nil (Fr.refl [] w)
  by_cases hV : V < 0
  · refine (All_neg hz hF hV).mono fun e w' ⟨he, h⟩ => ?_
    have e1 : EA V cs n most = 2 := by unfold EA; rw [if_pos (.inl hV)]
    unfold AllC
    rw [e1]
    exact ⟨none, 0, 0, he, fun h => absurd h (by decide), h.fr⟩
  · obtain ⟨N, rfl⟩ : ∃ N : Nat, V = N := ⟨V.toNat, by omega⟩
    exact (All_calls hz (FormSrc.base hF) (tiny_len hs).2).mono fun e w' h => AllC.of h
theorem order_next (h0 : EA V cs n most = 0) {i : Nat} {r : List Bool} (hr : (LA V cs n most)[i]? = some r) : EN V cs n r = 0 ∧ FN V cs n r = (LA V cs n most)[i + 1]? ∧ r.length ≤ 70000 := by
  have hLA : LA V cs n most = firsts n.toNat (Sols V.toNat cs) := by unfold LA; rw [if_pos h0]
  unfold EA at h0
  split at h0
  · cases h0
  case isFalse hg =>
    rw [not_or, Bool.not_eq_false] at hg
    obtain ⟨hrt, h1, h2, h3, h4⟩ := goodA_iff.1 hg.2
    obtain ⟨N, rfl⟩ : ∃ N : Nat, V = N := ⟨V.toNat, by omega⟩
    obtain ⟨k, rfl⟩ : ∃ k : Nat, n = k := ⟨n.toNat, by omega⟩
    rw [Int.toNat_natCast] at hrt h2 hLA
    rw [Int.toNat_natCast] at hLA
    obtain ⟨_, hV, hl⟩ := rightF_len hrt
    have hkN : k ≤ N := by omega
    have hLA2 : LA (N : Int) cs (k : Int) most = (ext k []).filter (okL cs N) := by rw [hLA]; unfold Sols; exact firsts_eq hl hkN
    rw [hLA2] at hr ⊢
    have hlen : r.length = k := ext_one_len (List.mem_filter.1 (List.mem_of_getElem? hr)).1
    have hgn : goodN N cs (k : Int) r = true := by unfold goodN; rw [hrt, hlen]; simp; omega
    have e1 : EN (N : Int) cs (k : Int) r = 0 := by unfold EN; rw [if_neg (by rw [not_or]; exact ⟨by omega, by rw [Int.toNat_natCast, hgn]; simp⟩)]
    refine ⟨e1, ?_, by omega⟩
    unfold FN
    rw [if_pos e1, Int.toNat_natCast, hlen]
    exact (nextR_order hl hkN hr).symm
end
end Go.Proofs.Ytjidldfnlejdhaa
end

section
/- Law SolveOrder, walked. -/
namespace Go.Proofs.Ytjidldfnlejdhaa
open Go Go.RowKit Go.Proofs.Rg Go.Proofs.Mp Go.Proofs.Hp Go.Proofs.Sv
set_option linter.unusedVariables false
set_option linter.unusedSimpArgs false
theorem CRowsAt.row {w : World} {a : Option Addr} {c i : Nat} {L : List (List Bool)} {r : List Bool} (h : CRowsAt w (.slice a L.length c) L) (hi : L[i]? = some r) :
    ∃ g off ua uc, a = some ⟨g, off, none⟩ ∧ g < w.heap.size ∧ w.cell? ⟨g, off + i, none⟩ = some (.slice ua r.length uc) ∧ r.length ≤ uc ∧ BoolsAt w (.slice ua r.length uc) r := by
  obtain ⟨vs, ⟨_, a', c', he, hp⟩, h2⟩ := h
  cases he
  obtain ⟨ua, uc, h3, h4, h5⟩ := h2 i r hi
  obtain ⟨g, off, ha, hg, hc⟩ := hp (by have := (List.getElem?_eq_some_iff.1 hi).1; omega)
  exact ⟨g, off, ua, uc, ha, hg, hc i _ h3, h4, h5⟩
set_option maxHeartbeats 8000000 in
theorem SolveOrder_calls (haw : AwakeOk) {w : World} {V : Int} {nn : Nat} (hnn : nn < 256) {a : Option Addr} {c : Nat} {cs : List (List Int)} (h : FormAt w a c cs) :
    Calls Try.prog 6 #[.agg #[.int .i64 V, .slice a cs.length c], .int .u8 (nn : Int)] w fun e w' => e = .returned (.bool true) ∧ Fr [] w w' := by
  have HAW := Lib.hid haw
  have HT := Lib.hid (fun w' (hf : Fr [] w w') => tiny_calls (V := V) (h.fr hf))
  obtain ⟨m, hm⟩ : ∃ m, cs.length = m := ⟨_, rfl⟩
  have HP := Lib.hid (fun (hs : smallF V cs = true) w' (hf : Fr [] w w') n => @All_c w' V a c cs n 262144 (h.fr hf) hs)
  have HQ := Lib.hid (fun (hs : smallF V cs = true) w' (hf : Fr [] w w') n (r : List Bool) ua uc (hb : BoolsAt w' (.slice ua r.length uc) r) (hc : r.length ≤ uc) (hl : r.length ≤ 70000) => @Next_u w' V a c cs n r (h.fr hf) hs ua uc hb hc hl)
  have hwn : IntKind.i64.wrap (nn : Int) = (nn : Int) := IntWalk.i64_in _ (by omega)
  have hn10 : Int.tmod (nn : Int) 10 = ((nn % 10 : Nat) : Int) := by rw [Int.tmod_eq_emod_of_nonneg (by omega)]; omega
  obtain ⟨K, hK⟩ : ∃ K, nn % 10 = K := ⟨_, rfl⟩
  rw [hK] at hn10
  rw [hm] at HT HP HQ ⊢
  have hwK : IntKind.i64.wrap (K : Int) = (K : Int) := IntWalk.i64_in _ (by omega)
  clear h haw hm hK
  go_enter Try.func6, Try.ntmps6
  go_wp2_with fail
  refine (HT.out _ (by (repeat first | exact Fr.refl _ _ | assumption | apply Fr.n | apply Fr.d | apply Fr.a | refine Fr.s ?_ (.inl (by simp)) _))).mono ?_
  rintro e w1 ⟨rfl, hf1⟩
  obtain ⟨fb, hfb⟩ : ∃ b, w.heap.size = b := ⟨_, rfl⟩
  have hfr : Fr [] w w1 := Fr.trans0 (by (repeat first | exact Fr.refl _ _ | assumption | apply Fr.n | apply Fr.d | apply Fr.a | refine Fr.s ?_ (.inl (by simp)) _)) hf1
  have v0 : w1.cell? ⟨fb, 0, none⟩ = some (.int .i64 V) := (hf1.cell (p := ⟨fb, 0, none⟩) (by rw [← hfb]; simp) (by simp)).trans (by rw [← hfb]; simp)
  have v1 : w1.cell? ⟨fb, 1, none⟩ = some (.slice a m c) := (hf1.cell (p := ⟨fb, 1, none⟩) (by rw [← hfb]; simp) (by simp)).trans (by rw [← hfb]; simp)
  have vl : fb < w1.heap.size := Nat.lt_of_lt_of_le (by rw [← hfb]; simp) hf1.size
  rw [hfb]
  have HF1 := Lib.hid hfr
  obtain ⟨T, hT⟩ : ∃ T, tinyF V cs = T := ⟨_, rfl⟩
  rw [hT]
  have HTT := Lib.hid hT
  clear hf1 hfr hfb hT HT
  cases T with
  | false =>
    go_wp2_with fail
    refine (HAW.out _).mono ?_
    rintro e w9 ⟨rfl, hf9⟩
    have HF9 := Lib.hid hf9
    clear hf9
    go_wp2
    go_ret
    exact ⟨rfl, HF1.out.trans0 HF9.out⟩
  | true =>
    have HS := Lib.hid (show smallF V cs = true by have := HTT.out; unfold tinyF at this; simp only [Bool.and_eq_true] at this; exact this.1)
    go_wp2_with fail
    refine (HP.out HS.out _ HF1.out (K : Int)).mono ?_
    rintro e w2 ⟨oa, oc, k, rfl, hk, hf2⟩
    obtain ⟨E, hE⟩ : ∃ E, EA V cs (K : Int) 262144 = E := ⟨_, rfl⟩
    rw [hE] at hk ⊢
    have HE := Lib.hid hE
    have HKK := Lib.hid hk
    have HF2 := Lib.hid (HF1.out.trans0 hf2)
    have v0 := (hf2.cell (p := ⟨fb, 0, none⟩) vl (by simp)).trans v0
    have v1 := (hf2.cell (p := ⟨fb, 1, none⟩) vl (by simp)).trans v1
    have vl := Nat.lt_of_lt_of_le vl hf2.size
    clear hf2 hk hwn hn10 hwK
    by_cases he : E = 0
    case neg =>
      have b1 : (E != 0) = true := by simpa using he
      clear he hE
      go_wp2_with fail
      refine (HAW.out _).mono ?_
      rintro e w9 ⟨rfl, hf9⟩
      have HF9 := Lib.hid hf9
      clear hf9
      go_wp2
      go_ret
      exact ⟨rfl, HF2.out.trans0 HF9.out⟩
    subst he
    obtain ⟨hkl, hrows⟩ := HKK.out rfl
    obtain ⟨L, hL⟩ : ∃ L, LA V cs (K : Int) 262144 = L := ⟨_, rfl⟩
    rw [hL] at hkl hrows
    have HL := Lib.hid hL
    have hk6 : k ≤ 1000000 := by
      have := (LA_len (V := V) (cs := cs) (n := (K : Int)) (most := 262144)).1
      rw [hL] at this
      omega
    have HR := Lib.hid hrows
    have HKL := Lib.hid hkl
    clear hE hkl hrows hL HKK
    go_wp2
    go_loopg [30] k (fun gg z wr => ∃ i : Nat, i ≤ k ∧ k - i ≤ gg ∧ z = .int .i64 (i : Int) ∧ Hid (Fr [] w2 wr))
    case atStart => exact ⟨0, Nat.zero_le _, by omega, rfl, Lib.hid (Fr.refl [] _)⟩
    case round =>
      obtain ⟨i, hi, hg, rfl, HW⟩ := hrel
      have u0 := (HW.out.cell (p := ⟨fb, 0, none⟩) vl (by simp)).trans v0
      have u1 := (HW.out.cell (p := ⟨fb, 1, none⟩) vl (by simp)).trans v1
      have ul := Nat.lt_of_lt_of_le vl HW.out.size
      by_cases hik : i < k
      · obtain ⟨r, hr⟩ : ∃ r, L[i]? = some r := ⟨_, List.getElem?_eq_getElem (by rw [← HKL.out]; exact hik)⟩
        obtain ⟨g, off, ua, uc, hoa, hgl, hcell, hruc, hrb⟩ := CRowsAt.row (by have := HR.out.fr HW.out; rw [HKL.out] at this; exact this) hr
        subst hoa
        obtain ⟨x1, x2, x3⟩ := order_next (r := r) HE.out (by rw [HL.out]; exact hr)
        rw [HL.out] at x2
        have HX := Lib.hid (And.intro x1 x2)
        have HCALL := Lib.hid (fun w' (hf : Fr [] wr w') => HQ.out HS.out w' (HF2.out.trans0 (HW.out.trans0 hf)) (K : Int) r ua uc (hrb.fr hf) hruc x3)
        obtain ⟨rl, hrl⟩ : ∃ n, r.length = n := ⟨_, rfl⟩
        rw [hrl] at HCALL hcell
        clear x1 x2 hruc hrb hr hrl
        go_wp2
        (refine wp_region_text (by kernel_rfl) (by kernel_rfl) ?_)
        go_wp2_with fail
        refine (HCALL.out _ (by (repeat first | exact Fr.refl _ _ | assumption | apply Fr.n | apply Fr.d | apply Fr.a | refine Fr.s ?_ (.inr (by simp; try omega)) _))).mono ?_
        rintro e w3 ⟨xa, xc, rfl, hx3, hf3⟩
        rw [HX.out.2] at hx3
        rw [HX.out.1, HX.out.2]
        have HF3 := Lib.hid (HW.out.trans0 (Fr.trans0 (by (repeat first | exact Fr.refl _ _ | assumption | apply Fr.n | apply Fr.d | apply Fr.a | refine Fr.s ?_ (.inr (by simp; try omega)) _)) hf3))
        clear hf3 HCALL u0 u1 ul hgl hcell
        by_cases hi1 : i + 1 < k
        case neg =>
          have hnone : L[i + 1]? = none := List.getElem?_eq_none (by rw [← HKL.out]; omega)
          rw [hnone]
          have b1 : decide ((i : Int) + 1 < (k : Int)) = false := by simp; omega
          simp only [Option.getD_none, Option.isSome_none, List.length_nil]
          clear hx3 hnone
          go_wp2
          refine Strict.intro rfl ?_
          go_wp2
          go_roundg (k - (i + 1))
          case measure => omega
          case rel => exact ⟨i + 1, hik, Nat.le_refl _, by simp, HF3⟩
        obtain ⟨r2, hr2⟩ : ∃ r, L[i + 1]? = some r := ⟨_, List.getElem?_eq_getElem (by rw [← HKL.out]; exact hi1)⟩
        rw [hr2] at hx3 ⊢
        obtain ⟨g2, off2, ya, yc, hoa2, hgl2, hcell2, _, hyb⟩ := CRowsAt.row (by have := HR.out.fr HF3.out; rw [HKL.out] at this; exact this) hr2
        simp only [Option.some.injEq, Addr.mk.injEq, and_true] at hoa2
        obtain ⟨rfl, rfl⟩ := hoa2
        obtain ⟨_, _, x3⟩ := order_next (r := r2) HE.out (by rw [HL.out]; exact hr2)
        simp only [Option.getD_some, Option.isSome_some] at hx3 ⊢
        obtain ⟨l2, hl2⟩ : ∃ n, r2.length = n := ⟨_, rfl⟩
        have HBS := Lib.hid (fun w' (hf : Fr [] w3 w') => bools_same hl2 (hx3.fr hf) (hyb.fr hf) x3)
        rw [hl2] at hcell2 ⊢
        have b1 : decide ((i : Int) + 1 < (k : Int)) = true := by simp; omega
        clear hx3 hyb hr2 hl2 x3
        go_wp2
        refine Strict.intro rfl ?_
        go_wp2_with fail
        refine (HBS.out _ (by (repeat first | exact Fr.refl _ _ | assumption | apply Fr.n | apply Fr.d | apply Fr.a | refine Fr.s ?_ (.inr (by simp; try omega)) _))).mono ?_
        rintro e w4 ⟨rfl, hf4⟩
        have HF4 := Lib.hid (HF3.out.trans0 (Fr.trans0 (by (repeat first | exact Fr.refl _ _ | assumption | apply Fr.n | apply Fr.d | apply Fr.a | refine Fr.s ?_ (.inr (by simp; try omega)) _)) hf4))
        clear hf4 hgl2 hcell2 HBS
        go_wp2
        go_roundg (k - (i + 1))
        case measure => omega
        case rel => exact ⟨i + 1, hik, Nat.le_refl _, by simp, HF4⟩
      · obtain rfl : i = k := by omega
        clear u0 u1 ul
        go_wp2_with fail
        refine (HAW.out _).mono ?_
        rintro e w9 ⟨rfl, hf9⟩
        have HF9 := Lib.hid hf9
        clear hf9
        go_wp2
        go_ret
        exact ⟨rfl, HF2.out.trans0 (HW.out.trans0 HF9.out)⟩
end Go.Proofs.Ytjidldfnlejdhaa
end
