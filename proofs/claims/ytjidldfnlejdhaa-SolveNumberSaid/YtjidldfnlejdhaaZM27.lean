/- Own texts of this claim, part 28: no condition. -/
import Derived.Test.YtjidldfnlejdhaaZM25
set_option linter.unusedVariables false
set_option linter.unusedSimpArgs false
section
/- Law SolveNumber: what All and Count have to do with each other. -/
namespace Go.Proofs.Ytjidldfnlejdhaa
open Go Go.RowKit Go.Proofs.Rg Go.Proofs.Mp Go.Proofs.Hp Go.Proofs.Sv Go.Proofs.Bn
set_option linter.unusedVariables false
set_option linter.unusedSimpArgs false
theorem number_err {V : Int} {cs : List (List Int)} (h : V < 0 ∨ rightF V.toNat cs = false) : EA V cs V 262144 = 2 ∧ EC V cs = 2 := by
  constructor
  · unfold EA
    rcases h with h | h
    · rw [if_pos (.inl h)]
    · refine if_pos (.inr ?_)
      rw [Bool.eq_false_iff]
      intro hg
      have := (goodA_iff.1 hg).1
      rw [h] at this
      cases this
  · unfold EC
    rw [if_pos h]
theorem erase_nodup {α : Type} [BEq α] [LawfulBEq α] : ∀ {l : List α}, l.Nodup → l.eraseDups = l
  | [], _ => rfl
  | x :: l, h => by
    rw [List.eraseDups_cons]
    obtain ⟨h1, h2⟩ := List.nodup_cons.1 h
    have e : (l.filter fun y => !y == x) = l := List.filter_eq_self.2 fun y hy => by
      simp only [Bool.not_eq_true', beq_eq_false_iff_ne, ne_eq]
      intro he
      rw [he] at hy
      exact h1 hy
    rw [e, erase_nodup h2]
theorem firsts_all {N : Nat} {cs : List (List Int)} : firsts N (Sols N cs) = Sols N cs := by
  have e : (Sols N cs).map (List.take N) = Sols N cs := by
    have : ∀ l : List (List Bool), (∀ x ∈ l, x.length = N) → l.map (List.take N) = l := by
      intro l
      induction l with
      | nil => intro _; rfl
      | cons x l ih =>
        intro h
        rw [List.map_cons, ih fun y hy => h y (by simp [hy]), List.take_of_length_le (by rw [h x (by simp)]; exact Nat.le_refl _)]
    exact this _ fun x hx => ext_one_len (List.mem_filter.1 hx).1
  unfold firsts
  rw [e]
  exact erase_nodup ((ext_nodup N []).filter _)
theorem right_succ {N : Nat} {cs : List (List Int)} (h : rightF (N : Int) cs = true) (hN : N ≤ 9) : rightF ((N : Int) + 1) cs = true := by
  obtain ⟨h1, h2, h3⟩ := rightF_len h
  unfold rightF
  simp only [Bool.and_eq_true, Bool.not_eq_true', Bool.or_eq_false_iff, decide_eq_false_iff_not, List.all_eq_true]
  refine ⟨⟨⟨by omega, by omega⟩, by omega⟩, fun c hc x hx => ?_⟩
  have := h3 c hc x hx
  unfold okLit
  simp
  omega
theorem number_ok {V : Int} {cs : List (List Int)} (ht : tinyF V cs = true) (h : ¬ (V < 0 ∨ rightF V.toNat cs = false)) :
    ∃ S : Nat, EA V cs V 262144 = 0 ∧ EC V cs = 0 ∧ (LA V cs V 262144).length = S ∧ NC V cs = S ∧ EC (V + 1) cs = 0 ∧ NC (V + 1) cs = 2 * S ∧ S ≤ 512 ∧ smallF (V + 1) cs = true ∧ 0 ≤ V ∧ V ≤ 9 := by
  rw [not_or, Bool.not_eq_false] at h
  obtain ⟨N, rfl⟩ : ∃ N : Nat, V = N := ⟨V.toNat, by omega⟩
  have hr : rightF (N : Int) cs = true := by simpa using h.2
  unfold tinyF at ht
  rw [hr] at ht
  simp only [Bool.and_eq_true, Bool.not_true, Bool.or_false, decide_eq_true_eq] at ht
  obtain ⟨hs, h9⟩ := ht
  have hN : N ≤ 9 := by omega
  have hr1 := right_succ hr hN
  have hL : Lits N cs := (rightF_len hr).2.2
  have hS : (Sols N cs).length = cntF N cs := by unfold Sols cntF; rw [List.countP_eq_length_filter]
  have c1 : cntF N cs = numR cs N [] * 2 ^ (N - N) := cntF_numR hL (Nat.le_refl _)
  have c2 : cntF (N + 1) cs = numR cs N [] * 2 ^ (N + 1 - N) := cntF_numR hL (Nat.le_succ _)
  have c3 : cntF (N + 1) cs = 2 * cntF N cs := by
    rw [c1, c2, show N + 1 - N = 1 by omega, show N - N = 0 by omega]
    omega
  have hle : cntF N cs ≤ 512 := by
    unfold cntF
    refine Nat.le_trans List.countP_le_length ?_
    have : ∀ (k : Nat) (l : List Bool), (ext k l).length = 2 ^ k := by
      intro k
      induction k with
      | zero => intro l; rfl
      | succ k ih => intro l; rw [ext, List.length_append, ih, ih, Nat.pow_succ]; omega
    rw [this]
    exact Nat.le_trans (Nat.pow_le_pow_right (by omega) hN) (by decide)
  have hlim : 2048 ≤ limB := by
    have := (lim_pow 11).2 (by omega)
    omega
  have hg : goodA N cs (N : Int) 262144 = true := goodA_iff.2 ⟨hr, by omega, by omega, by omega, by omega⟩
  have e1 : EA (N : Int) cs N 262144 = 0 := by
    unfold EA
    rw [if_neg (by rw [not_or]; exact ⟨by omega, by rw [Int.toNat_natCast, hg]; simp⟩), if_neg (by rw [Int.toNat_natCast, firsts_all, hS]; omega)]
  have e2 : EC (N : Int) cs = 0 := by
    unfold EC
    rw [if_neg (by rw [not_or]; exact ⟨by omega, by rw [Int.toNat_natCast, hr]; simp⟩), if_pos (by rw [Int.toNat_natCast]; omega)]
  have en : ((N : Int) + 1).toNat = N + 1 := by omega
  have e3 : EC ((N : Int) + 1) cs = 0 := by
    unfold EC
    rw [en, if_neg (by rw [not_or]; exact ⟨by omega, by have : ((N + 1 : Nat) : Int) = (N : Int) + 1 := by omega
                                                        rw [this, hr1]; simp⟩), if_pos (by rw [c3]; omega)]
  refine ⟨cntF N cs, e1, e2, ?_, ?_, e3, ?_, hle, ?_, by omega, by omega⟩
  · unfold LA
    rw [if_pos e1, Int.toNat_natCast, firsts_all, hS]
  · unfold NC
    rw [if_pos e2, Int.toNat_natCast]
  · unfold NC
    rw [if_pos e3, en, c3]
  · unfold smallF at hs ⊢
    rw [hr] at hs
    rw [hr1]
    exact hs
end Go.Proofs.Ytjidldfnlejdhaa
end

section
/- Law SolveNumber, walked. -/
namespace Go.Proofs.Ytjidldfnlejdhaa
open Go Go.RowKit Go.Proofs.Rg Go.Proofs.Mp Go.Proofs.Hp Go.Proofs.Sv Go.Proofs.Bn
set_option linter.unusedVariables false
set_option linter.unusedSimpArgs false
theorem from_same {w : World} {S k : Nat} (hk : (zd (S : Int)).length = k) (hS : S ≤ 2000) : Calls Try.prog 24 #[.int .i64 (S : Int)] w fun e w' => ∃ a c, e = .returned (.agg #[.bool false, .slice a k c]) ∧ BigZ w' (fun _ => True) (.agg #[.bool false, .slice a k c]) (S : Int) ∧ Fr [] w w' := by
  subst hk
  exact (RFrom_n (Has.nil (Fr.refl [] w)) (x := S) (by omega)).mono fun e w' ⟨a, c, he, h⟩ => ⟨a, c, he, nat_z h (by simp), h.fr⟩
set_option maxHeartbeats 8000000 in
theorem SolveNumber_calls (haw : AwakeOk) {w : World} {V : Int} {a : Option Addr} {c : Nat} {cs : List (List Int)} (h : FormAt w a c cs) :
    Calls Try.prog 7 #[.agg #[.int .i64 V, .slice a cs.length c]] w fun e w' => e = .returned (.bool true) ∧ Fr [] w w' := by
  have HAW := Lib.hid haw
  have HT := Lib.hid (fun w' (hf : Fr [] w w') => tiny_calls (V := V) (h.fr hf))
  obtain ⟨m, hm⟩ : ∃ m, cs.length = m := ⟨_, rfl⟩
  have HP := Lib.hid (fun (hs : smallF V cs = true) w' (hf : Fr [] w w') => @All_u w' V a c cs V 262144 (h.fr hf) hs)
  have HQ := Lib.hid (fun (hs : smallF V cs = true) w' (hf : Fr [] w w') => @Count_u w' V a c cs (h.fr hf) hs)
  have HQ1 := Lib.hid (fun (hs : smallF (V + 1) cs = true) w' (hf : Fr [] w w') => @Count_u w' (V + 1) a c cs (h.fr hf) hs)
  rw [hm] at HT HP HQ HQ1 ⊢
  clear h haw hm
  go_enter Try.func7, Try.ntmps7
  go_wp2_with fail
  refine (HT.out _ (by (repeat first | exact Fr.refl _ _ | assumption | apply Fr.n | apply Fr.d | apply Fr.a | refine Fr.s ?_ (.inl (by simp)) _))).mono ?_
  rintro e w1 ⟨rfl, hf1⟩
  obtain ⟨fb, hfb⟩ : ∃ b, w.heap.size = b := ⟨_, rfl⟩
  have hfr : Fr [] w w1 := Fr.trans0 (by (repeat first | exact Fr.refl _ _ | assumption | apply Fr.n | apply Fr.d | apply Fr.a | refine Fr.s ?_ (.inl (by simp)) _)) hf1
  have v0 : w1.cell? ⟨fb, 0, none⟩ = some (.int .i64 V) := (hf1.cell (p := ⟨fb, 0, none⟩) (by rw [← hfb]; simp) (by simp)).trans (by rw [← hfb]; simp)
  have v1 : w1.cell? ⟨fb, 1, none⟩ = some (.slice a m c) := (hf1.cell (p := ⟨fb, 1, none⟩) (by rw [← hfb]; simp) (by simp)).trans (by rw [← hfb]; simp)
  have vl : fb < w1.heap.size := Nat.lt_of_lt_of_le (by rw [← hfb]; simp) hf1.size
  rw [hfb]
  have HF1 := Lib.hid hfr
  obtain ⟨T, hT⟩ : ∃ T, tinyF V cs = T := ⟨_, rfl⟩
  rw [hT]
  have HTT := Lib.hid hT
  clear hf1 hfr hfb hT HT
  cases T with
  | false =>
    go_wp2_with fail
    refine (HAW.out _).mono ?_
    rintro e w9 ⟨rfl, hf9⟩
    have HF9 := Lib.hid hf9
    clear hf9
    go_wp2
    go_ret
    exact ⟨rfl, HF1.out.trans0 HF9.out⟩
  | true =>
    have HS := Lib.hid (show smallF V cs = true by have := HTT.out; unfold tinyF at this; simp only [Bool.and_eq_true] at this; exact this.1)
    go_wp2_with fail
    refine (HP.out HS.out _ HF1.out).mono ?_
    rintro e w2 ⟨oa, oc, rfl, _, hf2⟩
    have HF2 := Lib.hid (HF1.out.trans0 hf2)
    have v0 := (hf2.cell (p := ⟨fb, 0, none⟩) vl (by simp)).trans v0
    have v1 := (hf2.cell (p := ⟨fb, 1, none⟩) vl (by simp)).trans v1
    have vl := Nat.lt_of_lt_of_le vl hf2.size
    clear hf2
    by_cases hbad : V < 0 ∨ rightF V.toNat cs = false
    · obtain ⟨e1, e2⟩ := number_err hbad
      rw [e1]
      obtain ⟨k, hk⟩ : ∃ k, (LA V cs V 262144).length = k := ⟨_, rfl⟩
      rw [hk]
      have HE2 := Lib.hid e2
      clear e1 e2 hbad hk
      go_wp2_with fail
      refine (HQ.out HS.out _ HF2.out).mono ?_
      rintro e w3 ⟨pa, pc, rfl, _, hf3⟩
      rw [HE2.out]
      have HF3 := Lib.hid (HF2.out.trans0 hf3)
      clear hf3
      go_wp2_with fail
      refine (HAW.out _).mono ?_
      rintro e w9 ⟨rfl, hf9⟩
      have HF9 := Lib.hid hf9
      clear hf9
      go_wp2
      go_ret
      exact ⟨rfl, HF3.out.trans0 (Fr.trans0 (by (repeat first | exact Fr.refl _ _ | assumption | apply Fr.n | apply Fr.d | apply Fr.a | refine Fr.s ?_ (.inl (by simp)) _)) HF9.out)⟩
    · obtain ⟨S, e1, e2, e3, e4, e5, e6, hS, hs1, hV0, hV9⟩ := number_ok HTT.out hbad
      rw [e1, e3]
      have HE2 := Lib.hid (And.intro e2 e4)
      have HE5 := Lib.hid (And.intro e5 e6)
      have HSM := Lib.hid hs1
      have hw1 : IntKind.i64.wrap (V + 1) = V + 1 := IntWalk.i64_in _ (by omega)
      have hw2 : IntKind.i64.wrap (2 * (S : Int)) = 2 * (S : Int) := IntWalk.i64_in _ (by omega)
      clear e1 e2 e3 e4 e5 e6 hbad hs1
      obtain ⟨k, hk⟩ : ∃ k, (zd (S : Int)).length = k := ⟨_, rfl⟩
      obtain ⟨k2, hk2⟩ : ∃ k, (zd ((2 * S : Nat) : Int)).length = k := ⟨_, rfl⟩
      have HK := Lib.hid hk
      have HK2 := Lib.hid hk2
      clear hk hk2
      go_wp2_with fail
      refine (HQ.out HS.out _ HF2.out).mono ?_
      rintro e w3 ⟨pa, pc, rfl, hb3, hf3⟩
      rw [HE2.out.2, HK.out] at hb3
      rw [HE2.out.1, HE2.out.2, HK.out]
      have HB3 := Lib.hid hb3
      have HF3 := Lib.hid (HF2.out.trans0 hf3)
      have v0 := (hf3.cell (p := ⟨fb, 0, none⟩) vl (by simp)).trans v0
      have v1 := (hf3.cell (p := ⟨fb, 1, none⟩) vl (by simp)).trans v1
      have vl := Nat.lt_of_lt_of_le vl hf3.size
      clear hf3 hb3
      go_wp2_with fail
      refine (HQ1.out HSM.out _ (HF3.out.trans0 (by (repeat first | exact Fr.refl _ _ | assumption | apply Fr.n | apply Fr.d | apply Fr.a | refine Fr.s ?_ (.inl (by simp)) _)))).mono ?_
      rintro e w4 ⟨qa, qc, rfl, hb4, hf4⟩
      rw [HE5.out.2, HK2.out] at hb4
      rw [HE5.out.1, HE5.out.2, HK2.out]
      obtain ⟨nb, hnb⟩ : ∃ b, w3.heap.size = b := ⟨_, rfl⟩
      have hf34 : Fr [] w3 w4 := Fr.trans0 (by (repeat first | exact Fr.refl _ _ | assumption | apply Fr.n | apply Fr.d | apply Fr.a | refine Fr.s ?_ (.inl (by simp)) _)) hf4
      have n0 : w4.cell? ⟨nb, 0, none⟩ = some (.bool false) := (hf4.cell (p := ⟨nb, 0, none⟩) (by rw [← hnb]; simp) (by simp)).trans (by rw [← hnb]; simp)
      have n1 : w4.cell? ⟨nb, 1, none⟩ = some (.slice pa k pc) := (hf4.cell (p := ⟨nb, 1, none⟩) (by rw [← hnb]; simp) (by simp)).trans (by rw [← hnb]; simp)
      have nl : nb < w4.heap.size := Nat.lt_of_lt_of_le (by rw [← hnb]; simp) hf4.size
      rw [hnb]
      have HB3b := Lib.hid (HB3.out.fr0 hf34)
      have HB4 := Lib.hid hb4
      have HF4 := Lib.hid (HF3.out.trans0 hf34)
      clear hf4 hb4 hf34 hnb HB3 v0 v1 vl hw1
      go_wp2_with fail
      obtain ⟨tb, htb⟩ : ∃ b, w4.heap.size = b := ⟨_, rfl⟩
      have hfa : Fr [] w4 (w4.alloc (.cells #[.bool false, .slice qa k2 qc] 41 (0, 0))) := (Fr.refl [] w4).alloc _
      refine abs_world (fun w' => w'.cell? ⟨nb, 0, none⟩ = some (.bool false) ∧ w'.cell? ⟨nb, 1, none⟩ = some (.slice pa k pc) ∧ nb < w'.heap.size ∧ w'.cell? ⟨tb, 0, none⟩ = some (.bool false) ∧ w'.cell? ⟨tb, 1, none⟩ = some (.slice qa k2 qc) ∧ tb < w'.heap.size ∧ Fr [] w4 w') ⟨?_, ?_, ?_, ?_, ?_, ?_, hfa⟩ ?_
      · exact (hfa.cell (p := ⟨nb, 0, none⟩) nl (by simp)).trans n0
      · exact (hfa.cell (p := ⟨nb, 1, none⟩) nl (by simp)).trans n1
      · exact Nat.lt_of_lt_of_le nl hfa.size
      · rw [← htb]; simp
      · rw [← htb]; simp
      · rw [← htb]; simp
      rw [htb]
      clear hfa htb n0 n1 nl
      rintro wz ⟨n0, n1, nl, t0, t1, tl, hfz⟩
      have HZ := Lib.hid hfz
      have hlim : 2048 ≤ limB := by
        have := (lim_pow 11).2 (by omega)
        omega
      have HC1 := Lib.hid (fun w' (xa : Option Addr) (xc : Nat) (hf : Fr [] wz w') (hx : BigZ w' (fun _ => True) (.agg #[.bool false, .slice xa k xc]) (S : Int)) => cmp_same HK.out (by omega) (HB3b.out.fr0 (hfz.trans0 hf)) hx)
      have HC2 := Lib.hid (fun w' (xa : Option Addr) (xc : Nat) (hf : Fr [] wz w') (hx : BigZ w' (fun _ => True) (.agg #[.bool false, .slice xa k2 xc]) ((2 * S : Nat) : Int)) => cmp_same HK2.out (by omega) (HB4.out.fr0 (hfz.trans0 hf)) hx)
      have HFR1 := Lib.hid (fun w' => @from_same w' S k HK.out (by omega))
      have HFR2 := Lib.hid (fun w' => @from_same w' (2 * S) k2 HK2.out (by omega))
      rw [show ((2 * S : Nat) : Int) = 2 * (S : Int) by omega] at HC2 HFR2
      clear hfz hlim
      go_region_held3 (fun w' => w'.cell? ⟨nb, 0, none⟩ = some (.bool false) ∧ w'.cell? ⟨nb, 1, none⟩ = some (.slice pa k pc) ∧ w'.cell? ⟨tb, 0, none⟩ = some (.bool false) ∧ w'.cell? ⟨tb, 1, none⟩ = some (.slice qa k2 qc)) (first | go_keep | exact ⟨kA0, kA1, kA2, kA3⟩ | exact ⟨kB0, kB1, kB2, kB3⟩ | exact ⟨kC0, kC1, kC2, kC3⟩ | exact ⟨kD0, kD1, kD2, kD3⟩ | exact ⟨kE0, kE1, kE2, kE3⟩)
        (first | (have hmk := kD0; clear hmk; go_at_call 10; refine (HAW.out _).mono ?_; rintro e wE ⟨rfl, hfE⟩; have hrE : Fr [] wz wE := Fr.trans0 (by (repeat first | exact Fr.refl _ _ | assumption | apply Fr.n | apply Fr.d | apply Fr.a | refine Fr.s ?_ (.inl (by simp)) _)) hfE; have kE0 := (hrE.cell (p := ⟨nb, 0, none⟩) nl (by simp)).trans n0; have kE1 := (hrE.cell (p := ⟨nb, 1, none⟩) nl (by simp)).trans n1; have kE2 := (hrE.cell (p := ⟨tb, 0, none⟩) tl (by simp)).trans t0; have kE3 := (hrE.cell (p := ⟨tb, 1, none⟩) tl (by simp)).trans t1) | (have hmk := kC0; clear hmk; go_at_call 22; refine (HC2.out _ aC dC ?_ ?_).mono ?_; (· (repeat first | exact Fr.refl _ _ | assumption | apply Fr.n | apply Fr.d | apply Fr.a | refine Fr.s ?_ (.inl (by simp)) _)); (· exact KC.out.fr0 (by (repeat first | exact Fr.refl _ _ | assumption | apply Fr.n | apply Fr.d | apply Fr.a | refine Fr.s ?_ (.inl (by simp)) _))); rintro e wD ⟨rfl, hfD⟩; have hrD : Fr [] wz wD := Fr.trans0 (by (repeat first | exact Fr.refl _ _ | assumption | apply Fr.n | apply Fr.d | apply Fr.a | refine Fr.s ?_ (.inl (by simp)) _)) hfD; have kD0 := (hrD.cell (p := ⟨nb, 0, none⟩) nl (by simp)).trans n0; have kD1 := (hrD.cell (p := ⟨nb, 1, none⟩) nl (by simp)).trans n1; have kD2 := (hrD.cell (p := ⟨tb, 0, none⟩) tl (by simp)).trans t0; have kD3 := (hrD.cell (p := ⟨tb, 1, none⟩) tl (by simp)).trans t1) | (have hmk := kB0; clear hmk; go_at_call 24; refine (HFR2.out _).mono ?_; rintro e wC ⟨aC, dC, rfl, zC, hfC⟩; have KC := Lib.hid zC; clear zC; have hrC : Fr [] wz wC := Fr.trans0 (by (repeat first | exact Fr.refl _ _ | assumption | apply Fr.n | apply Fr.d | apply Fr.a | refine Fr.s ?_ (.inl (by simp)) _)) hfC; have kC0 := (hrC.cell (p := ⟨nb, 0, none⟩) nl (by simp)).trans n0; have kC1 := (hrC.cell (p := ⟨nb, 1, none⟩) nl (by simp)).trans n1; have kC2 := (hrC.cell (p := ⟨tb, 0, none⟩) tl (by simp)).trans t0; have kC3 := (hrC.cell (p := ⟨tb, 1, none⟩) tl (by simp)).trans t1) | (have hmk := kA0; clear hmk; go_at_call 22; refine (HC1.out _ aA dA ?_ ?_).mono ?_; (· (repeat first | exact Fr.refl _ _ | assumption | apply Fr.n | apply Fr.d | apply Fr.a | refine Fr.s ?_ (.inl (by simp)) _)); (· exact KA.out.fr0 (by (repeat first | exact Fr.refl _ _ | assumption | apply Fr.n | apply Fr.d | apply Fr.a | refine Fr.s ?_ (.inl (by simp)) _))); rintro e wB ⟨rfl, hfB⟩; have hrB : Fr [] wz wB := Fr.trans0 (by (repeat first | exact Fr.refl _ _ | assumption | apply Fr.n | apply Fr.d | apply Fr.a | refine Fr.s ?_ (.inl (by simp)) _)) hfB; have kB0 := (hrB.cell (p := ⟨nb, 0, none⟩) nl (by simp)).trans n0; have kB1 := (hrB.cell (p := ⟨nb, 1, none⟩) nl (by simp)).trans n1; have kB2 := (hrB.cell (p := ⟨tb, 0, none⟩) tl (by simp)).trans t0; have kB3 := (hrB.cell (p := ⟨tb, 1, none⟩) tl (by simp)).trans t1) | (go_at_call 24; refine (HFR1.out _).mono ?_; rintro e wA ⟨aA, dA, rfl, zA, hfA⟩; have KA := Lib.hid zA; clear zA; have hrA : Fr [] wz wA := Fr.trans0 (by (repeat first | exact Fr.refl _ _ | assumption | apply Fr.n | apply Fr.d | apply Fr.a | refine Fr.s ?_ (.inl (by simp)) _)) hfA; have kA0 := (hrA.cell (p := ⟨nb, 0, none⟩) nl (by simp)).trans n0; have kA1 := (hrA.cell (p := ⟨nb, 1, none⟩) nl (by simp)).trans n1; have kA2 := (hrA.cell (p := ⟨tb, 0, none⟩) tl (by simp)).trans t0; have kA3 := (hrA.cell (p := ⟨tb, 1, none⟩) tl (by simp)).trans t1))
      go_wp2
      go_ret
      exact ⟨rfl, HF4.out.trans0 (HZ.out.trans0 hrE)⟩
end Go.Proofs.Ytjidldfnlejdhaa
end
