/- Own texts of this claim, part 26: no condition. -/
import Derived.Test.YtjidldfnlejdhaaZM23
import Derived.Test.YtjidldfnlejdhaaZM6
set_option linter.unusedVariables false
set_option linter.unusedSimpArgs false
section
/- Count and its reference: what both give; law SolveCount, walked. -/
namespace Go.Proofs.Ytjidldfnlejdhaa
open Go Go.RowKit Go.Proofs.Rg Go.Proofs.Mp Go.Proofs.Hp Go.Proofs.Sv Go.Proofs.Bn
set_option linter.unusedVariables false
set_option linter.unusedSimpArgs false
def EC (V : Int) (cs : List (List Int)) : Int := if V < 0 ∨ rightF V.toNat cs = false then 2 else if cntF V.toNat cs < limB then 0 else 6
def NC (V : Int) (cs : List (List Int)) : Nat := if EC V cs = 0 then cntF V.toNat cs else 0
def CountU (w : World) (V : Int) (cs : List (List Int)) (e : Ending) (w' : World) : Prop :=
  ∃ a c, e = .returned (.tuple #[.agg #[.bool false, .slice a (zd ((NC V cs : Nat) : Int)).length c], .int .i64 (EC V cs)]) ∧ BigZ w' (fun _ => True) (.agg #[.bool false, .slice a (zd ((NC V cs : Nat) : Int)).length c]) ((NC V cs : Nat) : Int) ∧ Fr [] w w'
theorem NC_lt (V : Int) (cs : List (List Int)) : NC V cs < limB := by
  unfold NC
  split
  case isFalse => unfold limB; exact Nat.pos_of_ne_zero (by simp)
  case isTrue h =>
    unfold EC at h
    split at h
    · cases h
    · split at h
      case isTrue hc => exact hc
      · cases h
section
variable {w : World} {V : Int} {a : Option Addr} {c : Nat} {cs : List (List Int)} {e : Ending} {w' : World}
theorem CountU.mk {oa : Option Addr} {oc N : Nat} {E : Int} (h1 : EC V cs = E) (h2 : NC V cs = N) (he : e = .returned (.tuple #[.agg #[.bool false, .slice oa (zd (N : Int)).length oc], .int .i64 E])) (hb : BigZ w' (fun _ => True) (.agg #[.bool false, .slice oa (zd (N : Int)).length oc]) (N : Int)) (hf : Fr [] w w') : CountU w V cs e w' := by
  subst h1 h2
  exact ⟨oa, oc, he, hb, hf⟩
theorem CountU.zero {E : Int} (h1 : EC V cs = E) (hE : E ≠ 0) (he : e = .returned (.tuple #[.agg #[.bool false, .slice none 0 0], .int .i64 E])) (h : Has w w' []) : CountU w V cs e w' := by
  have h0 : (zd ((0 : Nat) : Int)).length = 0 := by rw [zd_none]; rfl
  have hb := nat_z (nat_zero h) (v := 0) (a := Option.none) (c := 0) (by simp)
  unfold bgv at hb
  refine CountU.mk (oa := Option.none) (oc := 0) (N := 0) h1 (by unfold NC; rw [if_neg (by omega)]) ?_ hb h.fr
  rw [h0]
  exact he
theorem CountU.err (hV : V < 0) (he : e = .returned (.tuple #[.agg #[.bool false, .slice none 0 0], .int .i64 2])) (h : Has w w' []) : CountU w V cs e w' :=
  CountU.zero (E := 2) (by unfold EC; rw [if_pos (.inl hV)]) (by decide) he h
theorem CountU.of {N : Nat} (h : CountPost w [] N cs e w') : CountU w (N : Int) cs e w' := by
  rcases h with ⟨hg, rfl, h⟩ | ⟨hg, hc, a, c, rfl, h⟩ | ⟨hg, hc, rfl, h⟩
  · exact CountU.zero (E := 2) (by unfold EC; rw [if_pos (.inr (by rw [Int.toNat_natCast]; exact hg))]) (by decide) rfl h
  · have e1 : EC (N : Int) cs = 0 := by unfold EC; rw [if_neg (by rw [not_or]; exact ⟨by omega, by rw [Int.toNat_natCast, hg]; simp⟩), if_pos (by rw [Int.toNat_natCast]; exact hc)]
    exact CountU.mk e1 (by unfold NC; rw [if_pos e1, Int.toNat_natCast]) rfl (nat_z h (by simp)) h.fr
  · exact CountU.zero (E := 6) (by unfold EC; rw [if_neg (by rw [not_or]; exact ⟨by omega, by rw [Int.toNat_natCast, hg]; simp⟩), if_neg (by rw [Int.toNat_natCast]; omega)]) (by decide) rfl h
theorem small_lits (hs : smallF V cs = true) (hr : rightF V cs = true) : ∀ r ∈ cs, ∀ x ∈ r, x.natAbs ≤ 1000 := by
  unfold smallF at hs
  rw [hr] at hs
  simp only [Bool.and_eq_true, decide_eq_true_eq, List.all_eq_true] at hs
  intro r hr2 x hx
  have := hs.2 r hr2
  unfold smallC at this
  simp only [Bool.not_true, Bool.false_or, Bool.and_eq_true, decide_eq_true_eq, List.all_eq_true] at this
  have := this.2 x hx
  omega
theorem Count_u (hF : FormAt w a c cs) (hs : smallF V cs = true) : Calls Try.prog 20 #[.agg #[.int .i64 V, .slice a cs.length c]] w (CountU w V cs) := by
  have hz := Has.nil (Fr.refl [] w)
  by_cases hV : V < 0
  · exact (Count_neg hz hF hV).mono fun e w' ⟨he, h⟩ => CountU.err hV he h
  · obtain ⟨N, rfl⟩ : ∃ N : Nat, V = N := ⟨V.toNat, by omega⟩
    exact (Count_calls hz (FormSrc.base hF) (tiny_len hs).2).mono fun e w' h => CountU.of h
theorem RCount_u (hF : FormAt w a c cs) (hs : smallF V cs = true) : Calls Try.prog 21 #[.agg #[.int .i64 V, .slice a cs.length c]] w (CountU w V cs) := by
  have hz := Has.nil (Fr.refl [] w)
  by_cases hV : V < 0
  · exact (RCount_neg hz hF hV).mono fun e w' ⟨he, h⟩ => CountU.err hV he h
  · obtain ⟨N, rfl⟩ : ∃ N : Nat, V = N := ⟨V.toNat, by omega⟩
    exact (RCount_calls hz (FormSrc.base hF) (tiny_len hs).2 fun hr => small_lits hs hr).mono fun e w' h => CountU.of h
theorem cmp_same {N k : Nat} (hk : (zd (N : Int)).length = k) (hN : N < limB) {xa ya : Option Addr} {xc yc : Nat} (h1 : BigZ w (fun _ => True) (.agg #[.bool false, .slice xa k xc]) (N : Int)) (h2 : BigZ w (fun _ => True) (.agg #[.bool false, .slice ya k yc]) (N : Int)) :
    Calls Try.prog 22 #[.agg #[.bool false, .slice xa k xc], .agg #[.bool false, .slice ya k yc]] w (fun e w' => e = .returned (.int .i64 0) ∧ Fr [] w w') := by
  have hz : Zok (N : Int) := by unfold Zok; unfold limB at hN; simpa using hN
  exact (RCompare_n h1 h2 hz hz).mono fun e w' ⟨he, hf⟩ => ⟨by rw [he]; unfold cmpI; simp, hf⟩
theorem right_same {N k : Nat} (hk : (zd (N : Int)).length = k) (hN : N < limB) {xa : Option Addr} {xc : Nat} (h1 : BigZ w (fun _ => True) (.agg #[.bool false, .slice xa k xc]) (N : Int)) :
    Calls Try.prog 23 #[.agg #[.bool false, .slice xa k xc]] w (fun e w' => e = .returned (.bool (RightB false (zd (N : Int)))) ∧ Fr [] w w') := by
  have hz : Zok (N : Int) := by unfold Zok; unfold limB at hN; simpa using hN
  subst hk
  obtain ⟨a', c', he, _, _, h3⟩ := h1
  injection he with he
  simp only [Array.mk.injEq, List.cons.injEq, Value.slice.injEq, and_true, true_and] at he
  obtain ⟨_, rfl, rfl⟩ := he
  exact RRight_calls h3 (by have := zd_len hz; omega)
end
end Go.Proofs.Ytjidldfnlejdhaa
end

section
/- Law SolveCount, walked. -/
namespace Go.Proofs.Ytjidldfnlejdhaa
open Go Go.RowKit Go.Proofs.Rg Go.Proofs.Mp Go.Proofs.Hp Go.Proofs.Sv Go.Proofs.Bn
set_option linter.unusedVariables false
set_option linter.unusedSimpArgs false
set_option maxHeartbeats 8000000 in
theorem SolveCount_calls (haw : AwakeOk) {w : World} {V : Int} {a : Option Addr} {c : Nat} {cs : List (List Int)} (h : FormAt w a c cs) :
    Calls Try.prog 5 #[.agg #[.int .i64 V, .slice a cs.length c]] w fun e w' => e = .returned (.bool true) ∧ Fr [] w w' := by
  have HAW := Lib.hid haw
  have HT := Lib.hid (fun w' (hf : Fr [] w w') => Small_calls (V := V) (h.fr hf))
  obtain ⟨m, hm⟩ : ∃ m, cs.length = m := ⟨_, rfl⟩
  have HP := Lib.hid (fun (hs : smallF V cs = true) w' (hf : Fr [] w w') => @Count_u w' V a c cs (h.fr hf) hs)
  have HQ := Lib.hid (fun (hs : smallF V cs = true) w' (hf : Fr [] w w') => @RCount_u w' V a c cs (h.fr hf) hs)
  rw [hm] at HT HP HQ ⊢
  clear h haw hm
  go_enter Try.func5, Try.ntmps5
  go_wp2_with fail
  refine (HT.out _ (by (repeat first | exact Fr.refl _ _ | assumption | apply Fr.n | apply Fr.d | apply Fr.a | refine Fr.s ?_ (.inl (by simp)) _))).mono ?_
  rintro e w1 ⟨rfl, hf1⟩
  obtain ⟨fb, hfb⟩ : ∃ b, w.heap.size = b := ⟨_, rfl⟩
  have hfr : Fr [] w w1 := Fr.trans0 (by (repeat first | exact Fr.refl _ _ | assumption | apply Fr.n | apply Fr.d | apply Fr.a | refine Fr.s ?_ (.inl (by simp)) _)) hf1
  have v0 : w1.cell? ⟨fb, 0, none⟩ = some (.int .i64 V) := (hf1.cell (p := ⟨fb, 0, none⟩) (by rw [← hfb]; simp) (by simp)).trans (by rw [← hfb]; simp)
  have v1 : w1.cell? ⟨fb, 1, none⟩ = some (.slice a m c) := (hf1.cell (p := ⟨fb, 1, none⟩) (by rw [← hfb]; simp) (by simp)).trans (by rw [← hfb]; simp)
  have vl : fb < w1.heap.size := Nat.lt_of_lt_of_le (by rw [← hfb]; simp) hf1.size
  rw [hfb]
  have HF1 := Lib.hid hfr
  obtain ⟨T, hT⟩ : ∃ T, smallF V cs = T := ⟨_, rfl⟩
  rw [hT]
  have HTT := Lib.hid hT
  clear hf1 hfr hfb hT HT
  cases T with
  | false =>
    go_wp2_with fail
    refine (HAW.out _).mono ?_
    rintro e w9 ⟨rfl, hf9⟩
    have HF9 := Lib.hid hf9
    clear hf9
    go_wp2
    go_ret
    exact ⟨rfl, HF1.out.trans0 HF9.out⟩
  | true =>
    go_wp2_with fail
    refine (HP.out HTT.out _ HF1.out).mono ?_
    rintro e w2 ⟨oa, oc, rfl, hb2, hf2⟩
    obtain ⟨E, hE⟩ : ∃ E, EC V cs = E := ⟨_, rfl⟩
    obtain ⟨N, hN⟩ : ∃ E, NC V cs = E := ⟨_, rfl⟩
    obtain ⟨k, hk⟩ : ∃ l, (zd (N : Int)).length = l := ⟨_, rfl⟩
    have HNL := Lib.hid (NC_lt V cs)
    rw [hE]
    rw [hN] at HNL hb2 ⊢
    rw [hk] at hb2 ⊢
    have HE := Lib.hid hE
    have HN := Lib.hid hN
    have HK := Lib.hid hk
    have HB2 := Lib.hid hb2
    have HF2 := Lib.hid (HF1.out.trans0 hf2)
    have v0 := (hf2.cell (p := ⟨fb, 0, none⟩) vl (by simp)).trans v0
    have v1 := (hf2.cell (p := ⟨fb, 1, none⟩) vl (by simp)).trans v1
    have vl := Nat.lt_of_lt_of_le vl hf2.size
    clear hf2 hb2 hE hN hk
    go_wp2_with fail
    refine (HQ.out HTT.out _ (HF2.out.trans0 (by (repeat first | exact Fr.refl _ _ | assumption | apply Fr.n | apply Fr.d | apply Fr.a | refine Fr.s ?_ (.inl (by simp)) _)))).mono ?_
    rintro e w3 ⟨pa, pc, rfl, hb3, hf3⟩
    rw [HE.out]
    rw [HN.out] at hb3 ⊢
    rw [HK.out] at hb3 ⊢
    obtain ⟨nb, hnb⟩ : ∃ b, w2.heap.size = b := ⟨_, rfl⟩
    have hf23 : Fr [] w2 w3 := Fr.trans0 (by (repeat first | exact Fr.refl _ _ | assumption | apply Fr.n | apply Fr.d | apply Fr.a | refine Fr.s ?_ (.inl (by simp)) _)) hf3
    have n0 : w3.cell? ⟨nb, 0, none⟩ = some (.bool false) := (hf3.cell (p := ⟨nb, 0, none⟩) (by rw [← hnb]; simp) (by simp)).trans (by rw [← hnb]; simp)
    have n1 : w3.cell? ⟨nb, 1, none⟩ = some (.slice oa k oc) := (hf3.cell (p := ⟨nb, 1, none⟩) (by rw [← hnb]; simp) (by simp)).trans (by rw [← hnb]; simp)
    have nl : nb < w3.heap.size := Nat.lt_of_lt_of_le (by rw [← hnb]; simp) hf3.size
    rw [hnb]
    have HB2b := Lib.hid (HB2.out.fr0 hf23)
    have HB3 := Lib.hid hb3
    have HF3 := Lib.hid (HF2.out.trans0 hf23)
    clear hf3 hb3 hf23 hnb HB2 v0 v1 vl
    go_wp2_with fail
    obtain ⟨tb, htb⟩ : ∃ b, w3.heap.size = b := ⟨_, rfl⟩
    have hfa : Fr [] w3 (w3.alloc (.cells #[.bool false, .slice pa k pc] 41 (0, 0))) := (Fr.refl [] w3).alloc _
    refine abs_world (fun w' => w'.cell? ⟨nb, 0, none⟩ = some (.bool false) ∧ w'.cell? ⟨nb, 1, none⟩ = some (.slice oa k oc) ∧ nb < w'.heap.size ∧ w'.cell? ⟨tb, 0, none⟩ = some (.bool false) ∧ w'.cell? ⟨tb, 1, none⟩ = some (.slice pa k pc) ∧ tb < w'.heap.size ∧ Fr [] w3 w') ⟨?_, ?_, ?_, ?_, ?_, ?_, hfa⟩ ?_
    · exact (hfa.cell (p := ⟨nb, 0, none⟩) nl (by simp)).trans n0
    · exact (hfa.cell (p := ⟨nb, 1, none⟩) nl (by simp)).trans n1
    · exact Nat.lt_of_lt_of_le nl hfa.size
    · rw [← htb]; simp
    · rw [← htb]; simp
    · rw [← htb]; simp
    rw [htb]
    clear hfa htb n0 n1 nl
    rintro wz ⟨n0, n1, nl, t0, t1, tl, hfz⟩
    have HZ := Lib.hid hfz
    have HCMP := Lib.hid (fun w' (hf : Fr [] wz w') => cmp_same HK.out HNL.out (HB2b.out.fr0 (hfz.trans0 hf)) (HB3.out.fr0 (hfz.trans0 hf)))
    obtain ⟨R, hR⟩ : ∃ R, RightB false (zd (N : Int)) = R := ⟨_, rfl⟩
    have HRA := Lib.hid (fun w' (hf : Fr [] wz w') => right_same HK.out HNL.out (HB2b.out.fr0 (hfz.trans0 hf)))
    have HRB := Lib.hid (fun w' (hf : Fr [] wz w') => right_same HK.out HNL.out (HB3.out.fr0 (hfz.trans0 hf)))
    rw [hR] at HRA HRB
    have bR : (R == R) = true := by simp
    have bE : (E == E) = true := by simp
    clear hfz hR
    go_region_held3 (fun w' => w'.cell? ⟨nb, 0, none⟩ = some (.bool false) ∧ w'.cell? ⟨nb, 1, none⟩ = some (.slice oa k oc) ∧ w'.cell? ⟨tb, 0, none⟩ = some (.bool false) ∧ w'.cell? ⟨tb, 1, none⟩ = some (.slice pa k pc)) (first | go_keep | exact ⟨kA0, kA1, kA2, kA3⟩ | exact ⟨kB0, kB1, kB2, kB3⟩ | exact ⟨kC0, kC1, kC2, kC3⟩ | exact ⟨kD0, kD1, kD2, kD3⟩)
      (first | (have hmk := kC0; clear hmk; go_at_call 10; refine (HAW.out _).mono ?_; rintro e wD ⟨rfl, hfD⟩; have hrD : Fr [] wz wD := Fr.trans0 (by (repeat first | exact Fr.refl _ _ | assumption | apply Fr.n | apply Fr.d | apply Fr.a | refine Fr.s ?_ (.inl (by simp)) _)) hfD; have kD0 := (hrD.cell (p := ⟨nb, 0, none⟩) nl (by simp)).trans n0; have kD1 := (hrD.cell (p := ⟨nb, 1, none⟩) nl (by simp)).trans n1; have kD2 := (hrD.cell (p := ⟨tb, 0, none⟩) tl (by simp)).trans t0; have kD3 := (hrD.cell (p := ⟨tb, 1, none⟩) tl (by simp)).trans t1) | (have hmk := kB0; clear hmk; go_at_call 23; refine (HRB.out _ ?_).mono ?_; (· (repeat first | exact Fr.refl _ _ | assumption | apply Fr.n | apply Fr.d | apply Fr.a | refine Fr.s ?_ (.inl (by simp)) _)); rintro e wC ⟨rfl, hfC⟩; have hrC : Fr [] wz wC := Fr.trans0 (by (repeat first | exact Fr.refl _ _ | assumption | apply Fr.n | apply Fr.d | apply Fr.a | refine Fr.s ?_ (.inl (by simp)) _)) hfC; have kC0 := (hrC.cell (p := ⟨nb, 0, none⟩) nl (by simp)).trans n0; have kC1 := (hrC.cell (p := ⟨nb, 1, none⟩) nl (by simp)).trans n1; have kC2 := (hrC.cell (p := ⟨tb, 0, none⟩) tl (by simp)).trans t0; have kC3 := (hrC.cell (p := ⟨tb, 1, none⟩) tl (by simp)).trans t1) | (have hmk := kA0; clear hmk; go_at_call 23; refine (HRA.out _ ?_).mono ?_; (· (repeat first | exact Fr.refl _ _ | assumption | apply Fr.n | apply Fr.d | apply Fr.a | refine Fr.s ?_ (.inl (by simp)) _)); rintro e wB ⟨rfl, hfB⟩; have hrB : Fr [] wz wB := Fr.trans0 (by (repeat first | exact Fr.refl _ _ | assumption | apply Fr.n | apply Fr.d | apply Fr.a | refine Fr.s ?_ (.inl (by simp)) _)) hfB; have kB0 := (hrB.cell (p := ⟨nb, 0, none⟩) nl (by simp)).trans n0; have kB1 := (hrB.cell (p := ⟨nb, 1, none⟩) nl (by simp)).trans n1; have kB2 := (hrB.cell (p := ⟨tb, 0, none⟩) tl (by simp)).trans t0; have kB3 := (hrB.cell (p := ⟨tb, 1, none⟩) tl (by simp)).trans t1) | (go_at_call 22; refine (HCMP.out _ ?_).mono ?_; (· (repeat first | exact Fr.refl _ _ | assumption | apply Fr.n | apply Fr.d | apply Fr.a | refine Fr.s ?_ (.inl (by simp)) _)); rintro e wA ⟨rfl, hfA⟩; have hrA : Fr [] wz wA := Fr.trans0 (by (repeat first | exact Fr.refl _ _ | assumption | apply Fr.n | apply Fr.d | apply Fr.a | refine Fr.s ?_ (.inl (by simp)) _)) hfA; have kA0 := (hrA.cell (p := ⟨nb, 0, none⟩) nl (by simp)).trans n0; have kA1 := (hrA.cell (p := ⟨nb, 1, none⟩) nl (by simp)).trans n1; have kA2 := (hrA.cell (p := ⟨tb, 0, none⟩) tl (by simp)).trans t0; have kA3 := (hrA.cell (p := ⟨tb, 1, none⟩) tl (by simp)).trans t1))
    go_wp2
    go_ret
    exact ⟨rfl, HF3.out.trans0 (HZ.out.trans0 hrD)⟩
end Go.Proofs.Ytjidldfnlejdhaa
end
