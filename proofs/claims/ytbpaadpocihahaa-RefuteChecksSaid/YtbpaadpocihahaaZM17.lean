/- Own texts of this claim, part 18: no condition. -/
import Derived.Test.YtbpaadpocihahaaZM16
set_option linter.unusedVariables false
set_option linter.unusedSimpArgs false
section
/- The reference of refute: Trim. -/
namespace Go.Proofs.Ytbpaadpocihahaa
open Go Go.RowKit Go.Proofs.Rg Go.Proofs.Mp Go.Proofs.Hp Go.Proofs.Sv Go.Proofs.Rp
set_option linter.unusedVariables false
set_option linter.unusedSimpArgs false
def RTrimPost (W : World) (Ps : List Res) (E : Int) (L : List (List Int)) (e : Ending) (w' : World) : Prop :=
  ∃ (X : List Res) (va : Option Addr) (vc : Nat) (vs : List Value), (∀ P ∈ Ps, P ∈ X) ∧ e = .returned (.tuple #[.slice va L.length vc, .int .i64 E]) ∧ FormHs W X va vc vs L ∧ Has W w' X
theorem RTrimPost.none {W w : World} {Ps : List Res} {E : Int} {e : Ending} (he : e = .returned (.tuple #[.slice Option.none 0 0, .int .i64 E])) (h : Has W w Ps) : RTrimPost W Ps E [] e w := ⟨Ps, Option.none, 0, [], fun P hP => hP, he, form_nil, h⟩
theorem few_chk {V : Int} {cs p : List (List Int)} (hc : cs.length ≤ 40) (hp : p.length ≤ 12) : chkEV V cs p = trimEV V cs p ∧ chkEV V cs p = coreEV V cs p := by
  unfold chkEV trimEV coreEV
  rw [if_neg (show ¬ p.length > 300 by omega), if_neg (show ¬ cs.length > 300 by omega)]
  exact ⟨rfl, rfl⟩
theorem chkEV_acc {V : Int} {cs p : List (List Int)} (h : validB V cs p = true) : chkEV V cs p = if accB cs p then 0 else 16 := by
  unfold chkEV
  rw [h, if_pos rfl, chkE_acc]
set_option maxHeartbeats 16000000 in
set_option maxRecDepth 100000 in
theorem RTrim_calls {W w : World} {Ps : List Res} (h : Has W w Ps) {V : Int} {a : Option Addr} {c : Nat} {vs : List Value} {cs : List (List Int)} (hF : FormHs W Ps a c vs cs) (ha : a = none → c = 0) {pa : Option Addr} {pc : Nat} {pvs : List Value} {p : List (List Int)} (hP : FormHs W Ps pa pc pvs p) (hpa : pa = none → pc = 0) (hpc : p.length ≤ pc)
    (hc40 : cs.length ≤ 40) (hp12 : p.length ≤ 12) (hc20 : ∀ r ∈ cs, r.length ≤ 20) (hp20 : ∀ r ∈ p, r.length ≤ 20) :
    Calls Try.prog 15 #[.agg #[.int .i64 V, .slice a cs.length c], .slice pa p.length pc] w (RTrimPost W Ps (trimEV V cs p) (trimLV V cs p)) := by
  have HA := Lib.hid (hF.src _ _ h fun P hP => hP)
  have HB := Lib.hid (hP.src _ _ h fun P hP => hP)
  have HH := Lib.hid (h.newBlk (.cells #[.int .i64 V, .slice a cs.length c] 24 (0, 0)))
  have HF := Lib.hid hF
  have HP := Lib.hid hP
  have HAA := Lib.hid (And.intro ha hpa)
  have HC20 := Lib.hid hc20
  have HP20 := Lib.hid hp20
  have HEV := Lib.hid (few_ev (V := V) hc40 hp12)
  have HE := Lib.hid (few_chk (V := V) hc40 hp12).1
  obtain ⟨PV0, hp1, hp2, hp3⟩ := hP.pairs h
  have HPV := Lib.hid (And.intro hp1 (And.intro hp2 hp3))
  obtain ⟨n, hn⟩ : ∃ n, cs.length = n := ⟨_, rfl⟩
  obtain ⟨m, hm⟩ : ∃ m, p.length = m := ⟨_, rfl⟩
  have HVC := Lib.hid (fun w' (hf : Fr [] w w') => RValid_calls (V := V) (HA.out.fr hf) (HB.out.fr hf))
  have HRC := Lib.hid (fun (w1 : World) (X : List Res) (la : Option Addr) (lc k : Nat) (lvs : List Value) (l : List (List Int)) (h1 : Has W w1 X) (hx : ∀ P ∈ Ps, P ∈ X) (hl : FormHs W X la lc lvs l) (hk : l.length = k) (hla : la = none → lc = 0) (hlc : k ≤ lc) (hkm : k ≤ 12) (hs : ∀ r ∈ l, r ∈ p) => RCheck_calls (V := V) h1 (HF.out.more hx) HAA.out.1 hl hla (by rw [hk]; exact hlc) (fun r hr => Nat.le_trans (HC20.out r hr) (by omega)) (fun r hr => Nat.le_trans (HP20.out r (hs r hr)) (by omega)) (flat_two (k := 20) (m := 40) (n := 12) HC20.out (fun r hr => HP20.out r (hs r hr)) hc40 (by omega) (by omega)))
  rw [hn, hm] at HVC
  rw [hn] at hc40 HH HRC ⊢
  rw [hm] at hp12 hpc ⊢
  have HN := Lib.hid (And.intro hn hm)
  clear h hF hP ha hpa hc20 hp20 hp1 hp2 hp3 hn hm
  go_enter Try.func15, Try.ntmps15
  go_wp2_with fail
  refine (HVC.out _ (by (repeat first | exact Fr.refl _ _ | assumption | apply Fr.n | apply Fr.d | apply Fr.a | refine Fr.s ?_ (.inr (by simp; try omega)) _))).mono ?_
  obtain ⟨b, hb⟩ : ∃ b, validB V cs p = b := ⟨_, rfl⟩
  rw [hb]
  have HVB := Lib.hid hb
  rintro e w1 ⟨rfl, hf1⟩
  obtain ⟨fb, hfb⟩ : ∃ b, w.heap.size = b := ⟨_, rfl⟩
  have h1 := HH.out.step hf1
  rw [hfb] at h1 ⊢
  have hbk := h1.blk
  have c0 : _ = some _ := heap_eq_cell hbk 0
  have c1 : _ = some _ := heap_eq_cell hbk 1
  have cl := lt_of_block hbk
  have hd : decide ((m : Int) > 300) = false := decide_eq_false (by omega)
  have HCK := Lib.hid (fun w' (hf : Fr [] w1 w') => HRC.out w' _ pa pc m pvs p (h1.step hf) (fun P hP => List.mem_cons_of_mem _ hP) (HP.out.more fun P hP => List.mem_cons_of_mem _ hP) HN.out.2 HAA.out.2 hpc hp12 (fun r hr => hr))
  rw [HN.out.2] at HCK
  have H1 := Lib.hid h1
  have key : b = b := rfl
  clear h1 hbk hf1 HH HVC hfb hb key
  obtain ⟨E, hE⟩ : ∃ E, chkEV V cs p = E := ⟨_, rfl⟩
  have hET : trimEV V cs p = E := by rw [← HE.out, hE]
  have HEE := Lib.hid (And.intro hE hET)
  clear hE hET
  cases b
  all_goals
    go_wp2_with fail
    refine (HCK.out _ (by (repeat first | exact Fr.refl _ _ | assumption | apply Fr.n | apply Fr.d | apply Fr.a | refine Fr.s ?_ (.inr (by simp; try omega)) _))).mono ?_
    rintro e w2 ⟨rfl, h2⟩
    rw [HEE.out.1]
    obtain ⟨N, hN⟩ : ∃ N : Int, (chkNV V cs p : Int) = N := ⟨_, rfl⟩
    rw [hN]
    have H2 := Lib.hid h2
    clear h2 hN HCK H1 c0 c1 cl
  · have hE2 : E = 2 := by rw [← HEE.out.2]; unfold trimEV; rw [HVB.out]; rfl
    subst hE2
    have HL := Lib.hid (show trimLV V cs p = [] from by unfold trimLV; rw [HEE.out.2]; rfl)
    go_wp2
    go_ret2
    rw [HEE.out.2, HL.out]
    exact RTrimPost.none rfl (H2.out.drop.step (by (repeat first | exact Fr.refl _ _ | assumption | apply Fr.n | apply Fr.d | apply Fr.a | refine Fr.s ?_ (.inr (by simp; try omega)) _)))
  · have hE2 : E = if accB cs p then 0 else 16 := by rw [← HEE.out.1]; exact chkEV_acc HVB.out
    cases hacc : accB cs p with
    | false =>
      rw [hacc] at hE2
      obtain rfl : E = 16 := hE2
      have HL := Lib.hid (show trimLV V cs p = [] from by unfold trimLV; rw [HEE.out.2]; rfl)
      clear hacc
      go_wp2
      go_ret2
      rw [HEE.out.2, HL.out]
      exact RTrimPost.none rfl (H2.out.drop.step (by (repeat first | exact Fr.refl _ _ | assumption | apply Fr.n | apply Fr.d | apply Fr.a | refine Fr.s ?_ (.inr (by simp; try omega)) _)))
    | true =>
      rw [hacc] at hE2
      obtain rfl : E = 0 := hE2
      have HL := Lib.hid (show trimLV V cs p = trimF cs p from by unfold trimLV; rw [HEE.out.2]; rfl)
      have hpos := acc_pos hacc
      rw [HN.out.2] at hpos
      obtain ⟨k0, rfl⟩ : ∃ k, m = k + 1 := ⟨m - 1, by omega⟩
      have hpvl : PV0.length = k0 + 1 := by rw [← HN.out.2, ← HPV.out.2.1, List.length_map]
      have HPL := Lib.hid hpvl
      clear hacc hpvl hpos
      go_wp2
      go_loopg [1, 8] k0 (fun gg z1 z8 wr => ∃ (j m : Nat) (zi : Int) (PV : List (Value × List Int)) (X : List Res) (va : Option Addr) (vc : Nat), j ≤ gg ∧ j + 1 ≤ m ∧ m ≤ k0 + 1 ∧ m ≤ vc ∧ z1 = .slice va m vc ∧ z8 = .int .i64 zi ∧ Hid (zi = (j : Int) - 1) ∧ Hid (PV.length = m ∧ (List.range j).reverse.foldl (trimStep cs) (PV.map (·.2)) = trimF cs p ∧ ClOks W Ps PV ∧ ∀ q ∈ PV, q.2 ∈ p) ∧ Hid ((∀ P ∈ Ps, P ∈ X) ∧ FormHs W X va vc (PV.map (·.1)) (PV.map (·.2))) ∧ Hid (Has W wr (Hp.blk fb (.cells #[.int .i64 V, .slice a n c] 24 (0, 0)) :: X)))
      case atStart =>
        refine ⟨k0, k0 + 1, _, PV0, Ps, pa, pc, Nat.le_refl _, Nat.le_refl _, Nat.le_refl _, hpc, rfl, rfl, Lib.hid (by omega), Lib.hid ⟨HPL.out, ?_, HPV.out.2.2, fun q hq => by rw [← HPV.out.2.1]; exact List.mem_map_of_mem hq⟩, Lib.hid ⟨fun P hP => hP, by rw [HPV.out.1, HPV.out.2.1]; exact HP.out⟩, Lib.hid (H2.out.step (by (repeat first | exact Fr.refl _ _ | assumption | apply Fr.n | apply Fr.d | apply Fr.a | refine Fr.s ?_ (.inr (by simp; try omega)) _)))⟩
        rw [HPV.out.2.1]
        unfold trimF
        rw [HN.out.2]
        rfl
      case round =>
        obtain ⟨j, m, zi, PV, X, va, vc, hjg, hjm, hm3, hmvc, rfl, rfl, HZ, HI, HX, HH⟩ := hrel
        clear H2
        by_cases hj0 : j = 0
        · subst hj0
          have hzn : decide (zi ≥ 0) = false := by have := HZ.out; simp; omega
          go_wp2
          go_ret2
          rw [HEE.out.2, HL.out]
          have hfin : PV.map (·.2) = trimF cs p := HI.out.2.1
          refine ⟨X, va, vc, PV.map (·.1), HX.out.1, ?_, by rw [← hfin]; exact HX.out.2, HH.out.drop.step (by (repeat first | exact Fr.refl _ _ | assumption | apply Fr.n | apply Fr.d | apply Fr.a | refine Fr.s ?_ (.inr (by simp; try omega)) _))⟩
          rw [← hfin, List.length_map, HI.out.1]
          rfl
        · obtain ⟨k, rfl⟩ : ∃ i, j = i + 1 := ⟨j - 1, by omega⟩
          obtain rfl : zi = (k : Int) := by have := HZ.out; omega
          obtain ⟨q, rfl⟩ : ∃ q, m = q + 1 := ⟨m - 1, by omega⟩
          have hone := HI.out.2.2.1.one
          have HONE := Lib.hid hone
          have hml : (PV.map (·.2)).length = q + 1 := by rw [List.length_map, HI.out.1]
          have hrd := (HX.out.2.1 wr _ HH.out (fun P hP => List.mem_cons_of_mem _ hP)).1
          rw [hml] at hrd
          obtain ⟨g, off, rfl, hgl⟩ : ∃ g off, va = some ⟨g, off, none⟩ ∧ g < wr.heap.size := by
            obtain ⟨_, a', c', he, hp⟩ := hrd
            cases he
            obtain ⟨g, off, ha, hg, _⟩ := hp (by omega)
            exact ⟨g, off, ha, hg⟩
          have HRD := Lib.hid hrd
          have HN1 := Lib.hid (HH.out.nilRow 25 1)
          have hmaxl : (20 : Nat) ≤ maxLen := by decide
          have HLL := Lib.hid (show 0 + k ≤ maxLen ∧ (0 + k) * 24 ≤ 140737488355328 ∧ k + (q - k) ≤ maxLen ∧ (k + (q - k)) * 24 ≤ 140737488355328 from by omega)
          clear hmaxl hone hml hrd
          go_wp2_with (at_builtin; refine append_readsH (W := W) (size := 1) (bytes := 24) (z := .slice none 0 0) (e := 25) (n := 0) (m := k) (xs := []) (news := (PV.map (·.1)).take k) rfl rfl Try.underlying22 (by kernel_rfl) rfl (by decide) rfl rfl (HN1.out.step (by (repeat first | exact Fr.refl _ _ | assumption | apply Fr.n | apply Fr.d | apply Fr.a | refine Fr.s ?_ (.inr (by simp; try omega)) _))) ((reads_take HRD.out (by omega)).fr (by (repeat first | exact Fr.refl _ _ | assumption | apply Fr.n | apply Fr.d | apply Fr.a | refine Fr.s ?_ (.inr (by simp; try omega)) _))) (fun e => by cases e) (fun u hu => HONE.out u (List.mem_of_mem_take hu)) HLL.out.1 HLL.out.2.1 ?_)
          intro v1' w7 h7
          (try rw [Nat.zero_add] at h7)
          (try rw [List.nil_append] at h7)
          obtain ⟨la, lc, rfl, _, _⟩ := owns_form2 h7.row
          have HRD2 := Lib.hid (HX.out.2.1 w7 _ h7 (fun P hP => List.mem_cons_of_mem _ (List.mem_cons_of_mem _ hP))).1
          rw [List.length_map, HI.out.1] at HRD2
          have H7 := Lib.hid h7
          clear h7 HN1 HRD hgl
          go_wp2_with (at_builtin; refine append_readsH (W := W) (size := 1) (bytes := 24) (z := .slice none 0 0) (e := 25) (n := k) (xs := (PV.map (·.1)).take k) (news := (PV.map (·.1)).drop (k + 1)) rfl rfl Try.underlying22 (by kernel_rfl) rfl (by decide) rfl rfl (H7.out.step (by (repeat first | exact Fr.refl _ _ | assumption | apply Fr.n | apply Fr.d | apply Fr.a | refine Fr.s ?_ (.inr (by simp; try omega)) _))) ?hr (fun e => by cases e) (fun u hu => HONE.out u (List.mem_of_mem_drop hu)) ?h1 ?h2 ?_)
          case hr => exact (reads_drop HRD2.out (by omega)).fr (by (repeat first | exact Fr.refl _ _ | assumption | apply Fr.n | apply Fr.d | apply Fr.a | refine Fr.s ?_ (.inr (by simp; try omega)) _))
          case h1 => exact HLL.out.2.2.1
          case h2 => exact HLL.out.2.2.2
          intro v2' w8 h8
          rw [← List.eraseIdx_eq_take_drop_succ, ← map_erase] at h8
          (try rw [show k + (q - k) = q by omega] at h8)
          (try rw [show k + (q - k) = q by omega])
          obtain ⟨la, lc, rfl, hl0, _⟩ := owns_form2 h8.row
          have hlc := owns_cap h8.row
          have hel : (PV.eraseIdx k).length = q := by rw [List.length_eraseIdx, if_pos (by rw [HI.out.1]; omega), HI.out.1]; omega
          have hsub : ∀ r ∈ PV.eraseIdx k, r.2 ∈ p := fun r hr => HI.out.2.2.2 r (List.mem_of_mem_eraseIdx hr)
          have hsub2 : ∀ r ∈ (PV.eraseIdx k).map (·.2), r ∈ p := fun r hr => by
            obtain ⟨u, hu, rfl⟩ := List.mem_map.1 hr
            exact hsub u hu
          have hLM := fun Rs hm hs => (HI.out.2.2.1.erase k).form (va := la) (vc := lc) hel (by omega) (fun r hr => Nat.le_trans (HP20.out _ (hsub r hr)) (by omega)) (Rs := Rs) hm hs
          have HCK := Lib.hid (fun w' (hf : Fr [] w8 w') => HRC.out w' _ la lc q _ ((PV.eraseIdx k).map (·.2)) (h8.step hf) (fun P hP => List.mem_cons_of_mem _ (List.mem_cons_of_mem _ (HX.out.1 P hP))) (hLM _ (List.mem_cons_self ..) fun P hP => List.mem_cons_of_mem _ (List.mem_cons_of_mem _ (HX.out.1 P hP))) (by rw [List.length_map, hel]) (fun e => (hl0 e).2) hlc (by omega) hsub2)
          rw [List.length_map, hel] at HCK
          have hve : chkEV V cs ((PV.eraseIdx k).map (·.2)) = if accB cs ((PV.eraseIdx k).map (·.2)) then 0 else 16 := chkEV_acc (validB_p HVB.out (by rw [List.length_map, hel, HN.out.2]; omega) hsub2)
          have HVE := Lib.hid hve
          have hbk := (h8.bring 1).blk
          have c0 : _ = some _ := heap_eq_cell hbk 0
          have c1 : _ = some _ := heap_eq_cell hbk 1
          have cl := lt_of_block hbk
          have HSB := Lib.hid (And.intro hel (And.intro hsub hl0))
          have HLM := Lib.hid hLM
          clear h8 hel hsub hsub2 hve hbk hLM hl0 H7 HRD2
          go_wp2_with fail
          refine (HCK.out _ (by (repeat first | exact Fr.refl _ _ | assumption | apply Fr.n | apply Fr.d | apply Fr.a | refine Fr.s ?_ (.inr (by simp; try omega)) _))).mono ?_
          rintro e w9 ⟨rfl, h9⟩
          rw [HVE.out]
          obtain ⟨N, hN⟩ : ∃ N : Int, (chkNV V cs ((PV.eraseIdx k).map (·.2)) : Int) = N := ⟨_, rfl⟩
          rw [hN]
          have hst : trimStep cs (PV.map (·.2)) k = if accB cs ((PV.eraseIdx k).map (·.2)) then (PV.eraseIdx k).map (·.2) else PV.map (·.2) := by unfold trimStep; rw [map_erase]
          have hnx := trim_next cs (PV.map (·.2)) k
          rw [HI.out.2.1, hst] at hnx
          have H9 := Lib.hid h9
          have HNX := Lib.hid hnx
          clear h9 hN HCK HVE hst hnx c0 c1 cl HH
          obtain ⟨B, hB⟩ : ∃ B, accB cs ((PV.eraseIdx k).map (·.2)) = B := ⟨_, rfl⟩
          rw [hB] at HNX ⊢
          clear hB
          cases B with
          | true =>
            simp only [if_true]
            go_wp2
            go_roundg k
            case measure => omega
            case rel =>
              refine ⟨k, q, _, PV.eraseIdx k, Hp.row 25 1 (.slice la q lc) q ((PV.eraseIdx k).map (·.1)) :: X, la, lc, Nat.le_refl _, by omega, by omega, hlc, rfl, rfl, Lib.hid (by omega), Lib.hid ⟨HSB.out.1, by have := HNX.out; simp only [if_true] at this; exact this.symm, HI.out.2.2.1.erase k, HSB.out.2.1⟩, Lib.hid ⟨fun P hP => List.mem_cons_of_mem _ (HX.out.1 P hP), HLM.out _ (List.mem_cons_self ..) fun P hP => List.mem_cons_of_mem _ (HX.out.1 P hP)⟩, Lib.hid ((H9.out.ord 2 [1, 0]).step (by (repeat first | exact Fr.refl _ _ | assumption | apply Fr.n | apply Fr.d | apply Fr.a | refine Fr.s ?_ (.inr (by simp; try omega)) _)))⟩
          | false =>
            simp only [Bool.false_eq_true, if_false]
            go_wp2
            go_roundg k
            case measure => omega
            case rel =>
              refine ⟨k, q + 1, _, PV, X, some ⟨g, off, none⟩, vc, Nat.le_refl _, by omega, hm3, hmvc, rfl, rfl, Lib.hid (by omega), Lib.hid ⟨HI.out.1, by have := HNX.out; simp only [Bool.false_eq_true, if_false] at this; exact this.symm, HI.out.2.2.1, HI.out.2.2.2⟩, HX, Lib.hid (H9.out.drop.step (by (repeat first | exact Fr.refl _ _ | assumption | apply Fr.n | apply Fr.d | apply Fr.a | refine Fr.s ?_ (.inr (by simp; try omega)) _)))⟩
end Go.Proofs.Ytbpaadpocihahaa
end

section
/- The reference of refute: Core. -/
namespace Go.Proofs.Ytbpaadpocihahaa
open Go Go.RowKit Go.Proofs.Rg Go.Proofs.Mp Go.Proofs.Hp Go.Proofs.Sv Go.Proofs.Rp
set_option linter.unusedVariables false
set_option linter.unusedSimpArgs false
def trues : Nat → List Bool → List Nat
  | _, [] => []
  | s, b :: K => if b then s :: trues (s + 1) K else trues (s + 1) K
theorem trues_snoc : ∀ (A : List Bool) (s : Nat) (b : Bool), trues s (A ++ [b]) = trues s A ++ if b then [s + A.length] else []
  | [], s, b => by cases b <;> rfl
  | c :: A, s, b => by
    simp only [List.cons_append, trues]
    rw [trues_snoc A (s + 1) b, List.length_cons, show s + 1 + A.length = s + (A.length + 1) by omega]
    cases c <;> simp
theorem trues_next {K : List Bool} {i : Nat} {b : Bool} (h : K[i]? = some b) : trues 0 (K.take (i + 1)) = trues 0 (K.take i) ++ if b then [i] else [] := by
  have hl := (List.getElem?_eq_some_iff.1 h).1
  rw [List.take_add_one, h]
  show trues 0 (K.take i ++ [b]) = _
  rw [trues_snoc, List.length_take, Nat.min_eq_left (by omega), Nat.zero_add]
theorem trues_len : ∀ (K : List Bool) (s : Nat), (trues s K).length ≤ K.length
  | [], s => Nat.le_refl _
  | b :: K, s => by
    have := trues_len K (s + 1)
    unfold trues
    split
    · simp only [List.length_cons]; omega
    · simp only [List.length_cons]; omega
theorem chosen_all {α : Type} : ∀ (j : Nat) (K : List Bool) (l : List α), j ≤ l.length → chosen (List.replicate j true ++ K) l = l.take j ++ chosen K (l.drop j)
  | 0, K, l, h => by simp
  | j + 1, K, [], h => by simp at h
  | j + 1, K, x :: l, h => by
    simp only [List.replicate_succ, List.cons_append, chosen, if_true, List.take_succ_cons, List.drop_succ_cons]
    rw [chosen_all j K l (by simpa using h)]
theorem chosen_off {α : Type} {l : List α} {i : Nat} (hi : i < l.length) (K : List Bool) : chosen (List.replicate i true ++ false :: K) l = (chosen (List.replicate (i + 1) true ++ K) l).eraseIdx i := by
  rw [chosen_all i _ l (by omega), chosen_all (i + 1) _ l (by omega)]
  have e : l.drop i = l[i] :: l.drop (i + 1) := (List.getElem_cons_drop (h := hi)).symm
  have hl : (l.take i).length = i := by rw [List.length_take]; omega
  rw [e, List.take_add_one, List.getElem?_eq_getElem hi]
  simp only [chosen, Bool.false_eq_true, if_false, Option.toList_some]
  rw [List.append_assoc, List.eraseIdx_append_of_length_le (by omega), hl, Nat.sub_self]
  rfl
theorem rep_snoc (i : Nat) (K : List Bool) : List.replicate i true ++ true :: K = List.replicate (i + 1) true ++ K := by
  rw [List.replicate_succ', List.append_assoc]; rfl
theorem rep_set {i : Nat} {K : List Bool} {b c : Bool} : (List.replicate i true ++ b :: K).set i c = List.replicate i true ++ c :: K := by
  rw [List.set_append_right _ _ (by simp)]
  simp
/-- what holds while Core runs -/
def CoreK (cs p : List (List Int)) (j : Nat) (K : List Bool) : Prop := K.length + j = cs.length ∧ (List.range j).reverse.foldl (coreStep p) (chosen (List.replicate j true ++ K) cs, trues j K) = coreS cs p
theorem CoreK.start (cs p : List (List Int)) : CoreK cs p cs.length [] := by
  refine ⟨by simp, ?_⟩
  unfold coreS
  rw [chosen_all _ _ _ (Nat.le_refl _), List.take_length, List.drop_length]
  simp [chosen_nil, trues]
theorem CoreK.step {cs p : List (List Int)} {i : Nat} {K : List Bool} (h : CoreK cs p (i + 1) K) {b : Bool} (hb : accB (chosen (List.replicate i true ++ false :: K) cs) p = !b) : CoreK cs p i (b :: K) := by
  obtain ⟨h1, h2⟩ := h
  refine ⟨by rw [List.length_cons]; omega, ?_⟩
  rw [core_next] at h2
  rw [← h2]
  congr 1
  have hi : i < cs.length := by omega
  unfold coreStep
  rw [← chosen_off hi, hb]
  cases b with
  | true => simp [rep_snoc, trues]
  | false => simp [trues]
theorem CoreK.fin {cs p : List (List Int)} {K : List Bool} (h : CoreK cs p 0 K) : trues 0 K = coreF cs p := by
  have := h.2
  simp at this
  unfold coreF
  rw [← this]
set_option maxHeartbeats 16000000 in
set_option maxRecDepth 100000 in
theorem RCore_calls {W w : World} {Ps : List Res} (h : Has W w Ps) {V : Int} {a : Option Addr} {c : Nat} {vs : List Value} {cs : List (List Int)} (hF : FormHs W Ps a c vs cs) (ha : a = none → c = 0) {pa : Option Addr} {pc : Nat} {pvs : List Value} {p : List (List Int)} (hP : FormHs W Ps pa pc pvs p) (hpa : pa = none → pc = 0) (hpc : p.length ≤ pc)
    (hc40 : cs.length ≤ 40) (hp12 : p.length ≤ 12) (hc20 : ∀ r ∈ cs, r.length ≤ 20) (hp20 : ∀ r ∈ p, r.length ≤ 20) :
    Calls Try.prog 17 #[.agg #[.int .i64 V, .slice a cs.length c], .slice pa p.length pc] w (CorePost W Ps (coreEV V cs p) (coreLV V cs p)) := by
  have HA := Lib.hid (hF.src _ _ h fun P hP => hP)
  have HB := Lib.hid (hP.src _ _ h fun P hP => hP)
  have HH := Lib.hid (h.newBlk (.cells #[.int .i64 V, .slice a cs.length c] 24 (0, 0)))
  have HF := Lib.hid hF
  have HP := Lib.hid hP
  have HAA := Lib.hid (And.intro ha hpa)
  have HC20 := Lib.hid hc20
  have HP20 := Lib.hid hp20
  have HE := Lib.hid (few_chk (V := V) hc40 hp12).2
  have HHW := Lib.hid h
  obtain ⟨n, hn⟩ : ∃ n, cs.length = n := ⟨_, rfl⟩
  obtain ⟨m, hm⟩ : ∃ m, p.length = m := ⟨_, rfl⟩
  have HVC := Lib.hid (fun w' (hf : Fr [] w w') => RValid_calls (V := V) (HA.out.fr hf) (HB.out.fr hf))
  have HRC := Lib.hid (fun (w1 : World) (X : List Res) (la : Option Addr) (lc : Nat) (lvs : List Value) (l : List (List Int)) (h1 : Has W w1 X) (hx : ∀ P ∈ Ps, P ∈ X) (hl : FormHs W X la lc lvs l) (hla : la = none → lc = 0) (hkm : l.length ≤ 40) (hs : ∀ r ∈ l, r ∈ cs) => RCheck_calls (V := V) h1 hl hla (HP.out.more hx) HAA.out.2 hpc (fun r hr => Nat.le_trans (HC20.out r (hs r hr)) (by omega)) (fun r hr => Nat.le_trans (HP20.out r hr) (by omega)) (flat_two (k := 20) (m := 40) (n := 12) (fun r hr => HC20.out r (hs r hr)) HP20.out hkm hp12 (by omega)))
  rw [hn, hm] at HVC
  rw [hm] at HRC
  rw [hn] at hc40 HH ⊢
  rw [hm] at hp12 hpc ⊢
  have HN := Lib.hid (And.intro hn hm)
  clear h hF hP ha hpa hc20 hp20 hn hm
  go_enter Try.func17, Try.ntmps17
  go_wp2_with fail
  refine (HVC.out _ (by (repeat first | exact Fr.refl _ _ | assumption | apply Fr.n | apply Fr.d | apply Fr.a | refine Fr.s ?_ (.inr (by simp; try omega)) _))).mono ?_
  obtain ⟨b, hb⟩ : ∃ b, validB V cs p = b := ⟨_, rfl⟩
  rw [hb]
  have HVB := Lib.hid hb
  rintro e w1 ⟨rfl, hf1⟩
  obtain ⟨fb, hfb⟩ : ∃ b, w.heap.size = b := ⟨_, rfl⟩
  have h1 := HH.out.step hf1
  rw [hfb] at h1 ⊢
  have hbk := h1.blk
  have c0 : _ = some _ := heap_eq_cell hbk 0
  have c1 : _ = some _ := heap_eq_cell hbk 1
  have cl := lt_of_block hbk
  have hd : decide ((n : Int) > 300) = false := decide_eq_false (by omega)
  have HCK := Lib.hid (fun w' (hf : Fr [] w1 w') => HRC.out w' _ a c vs cs (h1.step hf) (fun P hP => List.mem_cons_of_mem _ hP) (HF.out.more fun P hP => List.mem_cons_of_mem _ hP) HAA.out.1 (by rw [HN.out.1]; exact hc40) (fun r hr => hr))
  rw [HN.out.1] at HCK
  have H1 := Lib.hid h1
  clear h1 hbk hf1 HH HVC hfb hb
  obtain ⟨E, hE⟩ : ∃ E, chkEV V cs p = E := ⟨_, rfl⟩
  have hET : coreEV V cs p = E := by rw [← HE.out, hE]
  have HEE := Lib.hid (And.intro hE hET)
  clear hE hET
  cases b
  all_goals
    go_wp2_with fail
    refine (HCK.out _ (by (repeat first | exact Fr.refl _ _ | assumption | apply Fr.n | apply Fr.d | apply Fr.a | refine Fr.s ?_ (.inr (by simp; try omega)) _))).mono ?_
    rintro e w2 ⟨rfl, h2⟩
    rw [HEE.out.1]
    obtain ⟨N, hN⟩ : ∃ N : Int, (chkNV V cs p : Int) = N := ⟨_, rfl⟩
    rw [hN]
    have hbk := h2.blk
    clear c0 c1 cl
    have c0 : _ = some _ := heap_eq_cell hbk 0
    have c1 : _ = some _ := heap_eq_cell hbk 1
    have cl := lt_of_block hbk
    have H2 := Lib.hid h2
    clear h2 hN HCK H1 hbk
  · have hE2 : E = 2 := by rw [← HEE.out.2]; unfold coreEV; rw [HVB.out]; rfl
    subst hE2
    have HL := Lib.hid (show coreLV V cs p = [] from by unfold coreLV; rw [HEE.out.2]; rfl)
    go_wp2
    go_ret2
    rw [HEE.out.2, HL.out]
    exact CorePost.none rfl (H2.out.drop.step (by (repeat first | exact Fr.refl _ _ | assumption | apply Fr.n | apply Fr.d | apply Fr.a | refine Fr.s ?_ (.inr (by simp; try omega)) _)))
  · have hE2 : E = if accB cs p then 0 else 16 := by rw [← HEE.out.1]; exact chkEV_acc HVB.out
    cases hacc : accB cs p with
    | false =>
      rw [hacc] at hE2
      obtain rfl : E = 16 := hE2
      have HL := Lib.hid (show coreLV V cs p = [] from by unfold coreLV; rw [HEE.out.2]; rfl)
      clear hacc
      go_wp2
      go_ret2
      rw [HEE.out.2, HL.out]
      exact CorePost.none rfl (H2.out.drop.step (by (repeat first | exact Fr.refl _ _ | assumption | apply Fr.n | apply Fr.d | apply Fr.a | refine Fr.s ?_ (.inr (by simp; try omega)) _)))
    | true =>
      rw [hacc] at hE2
      obtain rfl : E = 0 := hE2
      have HL := Lib.hid (show coreLV V cs p = coreF cs p from by unfold coreLV; rw [HEE.out.2]; rfl)
      clear hacc
      have hmaxl : (40 : Nat) ≤ maxLen := by decide
      have hlm : n ≤ maxLen := by omega
      clear hmaxl
      go_wp2_with (refine wpList_make1 (n := n) (z := .bool false) (bytes := 1) (e := 4) rfl rfl rfl rfl Try.underlying42 (by kernel_rfl) rfl (by omega) hlm ?_)
      intro w3 hrow3 hf3 hs3
      have h3 := (H2.out.step (Fr.refl [] _)).newRow hf3 hrow3
      obtain ⟨kb, hkb⟩ : ∃ b, w2.heap.size = b := ⟨_, rfl⟩
      rw [hkb] at h3 ⊢
      have H3 := Lib.hid h3
      clear h3 hrow3 hf3 hs3 hkb H2 hlm c0 c1 cl
      go_wp2
      go_loopg [9] n (fun gg z wr => ∃ i : Nat, i ≤ n ∧ n - i ≤ gg ∧ z = .int .i64 (i : Int) ∧ Hid (Has W wr (Hp.row 4 1 (.slice (some ⟨kb, 0, none⟩) n n) n (bv (List.replicate i true ++ List.replicate (n - i) false)) :: Hp.blk fb (.cells #[.int .i64 V, .slice a n c] 24 (0, 0)) :: Ps)))
      case atStart => exact ⟨0, Nat.zero_le _, by omega, rfl, Lib.hid (by simpa [bv] using H3.out.step (by (repeat first | exact Fr.refl _ _ | assumption | apply Fr.n | apply Fr.d | apply Fr.a | refine Fr.s ?_ (.inr (by simp; try omega)) _)))⟩
      case round =>
        obtain ⟨i, hi, hg, rfl, HJ⟩ := hrel
        clear H3
        by_cases hin : i < n
        · have hr := HJ.out.row
          have hlen : (bv (List.replicate i true ++ List.replicate (n - i) false)).length = n := by simp [bv]; omega
          obtain ⟨y, hy⟩ : ∃ y, (bv (List.replicate i true ++ List.replicate (n - i) false))[i]? = some y := ⟨_, List.getElem?_eq_getElem (by omega)⟩
          have r0 := owns_cell hr rfl hy
          have rz := owns_frozen hr rfl i
          have rl := owns_lt hr rfl
          have hset := Has.rowSet (j := i) HJ.out (by omega) (.bool true)
          rw [bv_set, show n - i = (n - (i + 1)) + 1 by omega, List.replicate_succ, rep_set, rep_snoc] at hset
          have HS := Lib.hid hset
          clear hr hlen hy hset HJ
          go_wp2
          go_roundg (n - (i + 1))
          case measure => omega
          case rel => exact ⟨i + 1, hin, Nat.le_refl _, by simp, Lib.hid (HS.out.step (by (repeat first | exact Fr.refl _ _ | assumption | apply Fr.n | apply Fr.d | apply Fr.a | refine Fr.s ?_ (.inr (by simp; try omega)) _)))⟩
        · obtain rfl : n = i := by omega
          have h4 := HJ.out
          rw [Nat.sub_self, List.replicate_zero] at h4
          have H4 := Lib.hid h4
          clear h4 HJ
          go_wp2
          go_loopg [10] n (fun gg z wr => ∃ (j : Nat) (zi : Int) (K : List Bool), j ≤ gg ∧ j ≤ n ∧ z = .int .i64 zi ∧ Hid (zi = (j : Int) - 1) ∧ Hid (CoreK cs p j K) ∧ Hid (Has W wr (Hp.row 4 1 (.slice (some ⟨kb, 0, none⟩) n n) n (bv (List.replicate j true ++ K)) :: Hp.blk fb (.cells #[.int .i64 V, .slice a n c] 24 (0, 0)) :: Ps)))
          case atStart => exact ⟨n, _, [], Nat.le_refl _, Nat.le_refl _, rfl, Lib.hid (by omega), Lib.hid (by have := CoreK.start cs p; rw [HN.out.1] at this; exact this), Lib.hid (H4.out.step (by (repeat first | exact Fr.refl _ _ | assumption | apply Fr.n | apply Fr.d | apply Fr.a | refine Fr.s ?_ (.inr (by simp; try omega)) _)))⟩
          case round =>
            obtain ⟨j, zi, K, hjg, hjn, rfl, HZ, HK, HJ⟩ := hrel
            clear H4
            by_cases hj0 : j = 0
            · subst hj0
              have hzn : decide (zi ≥ 0) = false := by have := HZ.out; simp; omega
              have h5 := HJ.out
              rw [List.replicate_zero, List.nil_append] at h5
              have hKn : K.length = n := by have := HK.out.1; rw [HN.out.1] at this; omega
              have HFIN := Lib.hid HK.out.fin
              have HKN := Lib.hid hKn
              have H5 := Lib.hid (h5.nilRow 3 1)
              clear h5 hKn HJ
              go_wp2
              go_loopg [13, 14] n (fun gg z13 z14 wr => ∃ (i t : Nat) (ua : Option Addr) (uc : Nat), i ≤ n ∧ t ≤ i ∧ n - i ≤ gg ∧ z13 = .slice ua t uc ∧ z14 = .int .i64 (i : Int) ∧ Hid ((trues 0 (K.take i)).length = t) ∧ Hid (Has W wr (Hp.row 3 1 (.slice ua t uc) t (nv (trues 0 (K.take i))) :: Hp.row 4 1 (.slice (some ⟨kb, 0, none⟩) n n) n (bv K) :: Hp.blk fb (.cells #[.int .i64 V, .slice a n c] 24 (0, 0)) :: Ps)))
              case atStart => exact ⟨0, 0, none, 0, Nat.zero_le _, Nat.le_refl _, by omega, rfl, rfl, Lib.hid (by rw [List.take_zero]; rfl), Lib.hid (by rw [List.take_zero]; exact H5.out.step (by (repeat first | exact Fr.refl _ _ | assumption | apply Fr.n | apply Fr.d | apply Fr.a | refine Fr.s ?_ (.inr (by simp; try omega)) _)))⟩
              case round =>
                obtain ⟨i, t, ua, uc, hi, hti, hg, rfl, rfl, HT, HJ⟩ := hrel
                clear H5
                by_cases hin : i < n
                · obtain ⟨b, hb⟩ : ∃ b, K[i]? = some b := ⟨_, List.getElem?_eq_getElem (by rw [HKN.out]; exact hin)⟩
                  have hr := (HJ.out.bring 1).row
                  have r0 := owns_cell hr rfl (bv_get hb)
                  have rl := owns_lt hr rfl
                  have HNX := Lib.hid (trues_next hb)
                  clear hr hb
                  cases b with
                  | false =>
                    have hnx : trues 0 (K.take (i + 1)) = trues 0 (K.take i) := by rw [HNX.out]; simp
                    have HNY := Lib.hid hnx
                    clear hnx
                    go_wp2
                    go_roundg (n - (i + 1))
                    case measure => omega
                    case rel => exact ⟨i + 1, t, ua, uc, hin, by omega, Nat.le_refl _, rfl, by simp, Lib.hid (by rw [HNY.out]; exact HT.out), Lib.hid (by rw [HNY.out]; exact HJ.out.step (by (repeat first | exact Fr.refl _ _ | assumption | apply Fr.n | apply Fr.d | apply Fr.a | refine Fr.s ?_ (.inr (by simp; try omega)) _)))⟩
                  | true =>
                    have hnx : trues 0 (K.take (i + 1)) = trues 0 (K.take i) ++ [i] := by rw [HNX.out]; simp
                    have HNY := Lib.hid hnx
                    have hmaxl : (50 : Nat) ≤ maxLen := by decide
                    have HLL := Lib.hid (show t + 1 ≤ maxLen ∧ (t + 1) * 8 ≤ 140737488355328 from by omega)
                    clear hnx hmaxl
                    go_wp2_with (at_builtin; refine append_has (W := W) (size := 1) (bytes := 8) (z := .int .i64 0) (e := 3) (n := t) (xs := nv (trues 0 (K.take i))) (news := [.int .i64 (i : Int)]) rfl rfl Try.underlying25 (by kernel_rfl) rfl (by decide) rfl rfl (HJ.out.step (by (repeat first | exact Fr.refl _ _ | assumption | apply Fr.n | apply Fr.d | apply Fr.a | refine Fr.s ?_ (.inr (by simp; try omega)) _))) (by (repeat first | rw [if_pos (by omega)] | rw [if_neg (by omega)] | rw [hp_drew] | rw [hp_drewN] | rw [hp_alloc_size] | rw [hp_setCell_size] | rw [hp_alloc] | rw [hp_setCell] | rw [oMS] | rw [upd_cells] | rw [lSZ] | rw [lSS] | rfl)) rfl (by simp [Value.oneCell']) HLL.out.1 HLL.out.2 ?_)
                    intro g2 cap2 w5 h5 hf5 hg5
                    rw [show nv (trues 0 (K.take i)) ++ [.int .i64 (i : Int)] = nv (trues 0 (K.take (i + 1))) from by rw [HNY.out]; simp [nv]] at h5
                    have H6 := Lib.hid h5
                    clear h5 hf5 hg5 HJ r0 rl
                    go_wp2
                    go_roundg (n - (i + 1))
                    case measure => omega
                    case rel => exact ⟨i + 1, t + 1, some ⟨g2, 0, none⟩, cap2, hin, by omega, Nat.le_refl _, rfl, by simp, Lib.hid (by rw [HNY.out, List.length_append, HT.out]; rfl), Lib.hid (H6.out.step (by (repeat first | exact Fr.refl _ _ | assumption | apply Fr.n | apply Fr.d | apply Fr.a | refine Fr.s ?_ (.inr (by simp; try omega)) _)))⟩
                · obtain rfl : n = i := by omega
                  have h6 := HJ.out
                  have ht := HT.out
                  rw [List.take_of_length_le (by rw [HKN.out]; exact Nat.le_refl _)] at h6 ht
                  have H6 := Lib.hid h6
                  have HT2 := Lib.hid ht
                  clear h6 ht HJ HT
                  go_wp2
                  go_ret2
                  rw [HEE.out.2, HL.out, ← HFIN.out]
                  refine ⟨ua, uc, by rw [HT2.out]; rfl, ?_⟩
                  rw [HT2.out]
                  exact (H6.out.ord 3 [0]).step (by (repeat first | exact Fr.refl _ _ | assumption | apply Fr.n | apply Fr.d | apply Fr.a | refine Fr.s ?_ (.inr (by simp; try omega)) _))
            · obtain ⟨i, rfl⟩ : ∃ i, j = i + 1 := ⟨j - 1, by omega⟩
              obtain rfl : zi = (i : Int) := by have := HZ.out; omega
              have hKl : K.length + (i + 1) = n := by rw [HK.out.1, HN.out.1]
              have hr := HJ.out.row
              have hlen : (bv (List.replicate (i + 1) true ++ K)).length = n := by rw [bv_length, List.length_append, List.length_replicate]; omega
              obtain ⟨y, hy⟩ : ∃ y, (bv (List.replicate (i + 1) true ++ K))[i]? = some y := ⟨_, List.getElem?_eq_getElem (by omega)⟩
              have r0 := owns_cell hr rfl hy
              have rz := owns_frozen hr rfl i
              have rl := owns_lt hr rfl
              have hset := Has.rowSet (j := i) HJ.out (by omega) (.bool false)
              rw [bv_set, ← rep_snoc, rep_set] at hset
              have hml : (List.replicate i true ++ false :: K).length = n := by rw [List.length_append, List.length_replicate, List.length_cons]; omega
              obtain ⟨Kf, hKf⟩ : ∃ Kf, List.replicate i true ++ false :: K = Kf := ⟨_, rfl⟩
              rw [hKf] at hset hml
              have HKF := Lib.hid hKf
              have hbk := (hset.bring 1).blk
              have v0 : _ = some _ := heap_eq_cell hbk 0
              have v1 : _ = some _ := heap_eq_cell hbk 1
              have vl := lt_of_block hbk
              have HS := Lib.hid hset
              have hBS : ∀ Rs, Hp.row 4 1 (.slice (some ⟨kb, 0, none⟩) n n) n (bv Kf) ∈ Rs → BoolsSrc W Rs (some ⟨kb, 0, none⟩) n Kf := fun Rs hm => BoolsSrc.row hml hm
              have hCH := fun w' (hf : Fr [] _ w') => Chosen_calls (V := V) (HS.out.step hf) (HF.out.more fun P hP => List.mem_cons_of_mem _ (List.mem_cons_of_mem _ hP)) (by rw [HN.out.1]; omega) (hBS _ (List.mem_cons_self ..)) (by rw [hml, HN.out.1])
              rw [HN.out.1, hml] at hCH
              have HCH := Lib.hid hCH
              have HML := Lib.hid hml
              clear hr hlen hy hset hml hKf hbk hBS hCH HJ
              go_wp2_with fail
              refine (HCH.out _ (by (repeat first | exact Fr.refl _ _ | assumption | apply Fr.n | apply Fr.d | apply Fr.a | refine Fr.s ?_ (.inr (by simp; try omega)) _))).mono ?_
              rintro e w8 ⟨va, vc, rfl, h8⟩
              have hCM := HF.out.chosen HHW.out (by rw [HN.out.1]; omega) (fun r hr => Nat.le_trans (HC20.out r hr) (by omega)) Kf (va := va) (vc := vc) rfl
              obtain ⟨va2, vc2, hve, hv0, _⟩ := owns_form2 h8.row
              obtain ⟨rfl, _, rfl⟩ := Value.slice.inj hve
              have hcl := chosen_len Kf cs
              rw [HN.out.1] at hcl
              have HCK := Lib.hid (fun w' (hf : Fr [] w8 w') => HRC.out w' _ va vc _ (chosen Kf cs) (h8.step hf) (fun P hP => List.mem_cons_of_mem _ (List.mem_cons_of_mem _ (List.mem_cons_of_mem _ hP))) (hCM.more fun P hP => by
                rcases List.mem_cons.1 hP with e | hP
                · rw [e]; exact List.mem_cons_self ..
                · exact List.mem_cons_of_mem _ (List.mem_cons_of_mem _ (List.mem_cons_of_mem _ hP))) (fun e => (hv0 e).2) (by omega) (fun r hr => chosen_mem hr))
              have HVE := Lib.hid (chkEV_acc (validB_c HVB.out (chosen_len Kf cs) fun r hr => chosen_mem hr))
              clear h8 hCM hve hcl HCH v0 v1 vl r0 rz rl HS hv0
              go_wp2_with fail
              refine (HCK.out _ (by (repeat first | exact Fr.refl _ _ | assumption | apply Fr.n | apply Fr.d | apply Fr.a | refine Fr.s ?_ (.inr (by simp; try omega)) _))).mono ?_
              rintro e w9 ⟨rfl, h9⟩
              rw [HVE.out]
              obtain ⟨N, hN⟩ : ∃ N : Int, (chkNV V (chosen Kf cs) p : Int) = N := ⟨_, rfl⟩
              obtain ⟨B, hB⟩ : ∃ B, accB (chosen Kf cs) p = !B := ⟨!accB (chosen Kf cs) p, by simp⟩
              rw [hN, hB]
              have HB2 := Lib.hid hB
              have h10 := h9.drop
              have hr := h10.row
              have hml2 : (bv Kf).length = n := by rw [bv_length, HML.out]
              obtain ⟨y2, hy⟩ : ∃ y, (bv Kf)[i]? = some y := ⟨_, List.getElem?_eq_getElem (by omega)⟩
              have r0 := owns_cell hr rfl hy
              have rz := owns_frozen hr rfl i
              have rl := owns_lt hr rfl
              have hset := Has.rowSet (j := i) h10 (by omega) (.bool B)
              rw [bv_set, ← HKF.out, rep_set] at hset
              have HS := Lib.hid hset
              clear h9 h10 hN hB HCK HVE hr hml2 hy hset
              have HST := Lib.hid (HK.out.step (b := B) (by rw [HKF.out]; exact HB2.out))
              cases B
              all_goals
                simp only [Bool.not_true, Bool.not_false, if_true, Bool.false_eq_true, if_false]
                go_wp2
                go_roundg i
                case measure => omega
                case rel => exact ⟨i, _, _, Nat.le_refl _, by omega, rfl, Lib.hid (by omega), HST, Lib.hid (HS.out.step (by (repeat first | exact Fr.refl _ _ | assumption | apply Fr.n | apply Fr.d | apply Fr.a | refine Fr.s ?_ (.inr (by simp; try omega)) _)))⟩
end Go.Proofs.Ytbpaadpocihahaa
end

section
/- Law RefuteTrims, walked. -/
namespace Go.Proofs.Ytbpaadpocihahaa
open Go Go.RowKit Go.Proofs.Rg Go.Proofs.Mp Go.Proofs.Hp Go.Proofs.Sv Go.Proofs.Rp
set_option linter.unusedVariables false
set_option linter.unusedSimpArgs false
theorem trimLV_sub {V : Int} {cs p : List (List Int)} : (trimLV V cs p).length ≤ p.length ∧ ∀ r ∈ trimLV V cs p, r ∈ p := by
  unfold trimLV
  split
  · exact ⟨trim_len, fun r hr => trim_sub hr⟩
  · exact ⟨Nat.zero_le _, fun r hr => by cases hr⟩
set_option maxHeartbeats 16000000 in
set_option maxRecDepth 100000 in
theorem RefuteTrims_calls (haw : AwakeOk) {w : World} {V : Int} {a : Option Addr} {c : Nat} {cs : List (List Int)} (h : FormAt w a c cs) (hac : a = none → c = 0) {pa : Option Addr} {pc : Nat} {p : List (List Int)} (hp : FormAt w pa pc p) (hpa : pa = none → pc = 0) (hpc : p.length ≤ pc) :
    Calls Try.prog 4 #[.agg #[.int .i64 V, .slice a cs.length c], .slice pa p.length pc] w fun e w' => e = .returned (.bool true) ∧ Fr [] w w' := by
  have HAW := Lib.hid haw
  have HAA := Lib.hid (And.intro hac (And.intro hpa hpc))
  have HT := Lib.hid (fun w' (hf : Fr [] w w') => few_calls (V := V) (h.fr hf) (hp.fr hf))
  have HI := Lib.hid h
  have HP := Lib.hid hp
  obtain ⟨n, hn⟩ : ∃ m, cs.length = m := ⟨_, rfl⟩
  obtain ⟨m, hm⟩ : ∃ m, p.length = m := ⟨_, rfl⟩
  have H0 := Lib.hid ((Has.nil (Fr.refl [] w)).newBlk (.cells #[.int .i64 V, .slice a n c] 24 (0, 0)))
  have HN := Lib.hid (And.intro hn hm)
  rw [hn, hm] at HT
  rw [hn, hm]
  clear h haw hp hn hm hac hpa hpc
  go_enter Try.func4, Try.ntmps4
  go_wp2_with fail
  refine (HT.out _ (by (repeat first | exact Fr.refl _ _ | assumption | apply Fr.n | apply Fr.d | apply Fr.a | refine Fr.s ?_ (.inr (by simp; try omega)) _))).mono ?_
  rintro e w1 ⟨rfl, hf1⟩
  have h1 := H0.out.step (Fr.trans0 (by (repeat first | exact Fr.refl _ _ | assumption | apply Fr.n | apply Fr.d | apply Fr.a | refine Fr.s ?_ (.inr (by simp; try omega)) _)) hf1)
  obtain ⟨fb, hfb⟩ : ∃ b, w.heap.size = b := ⟨_, rfl⟩
  rw [hfb] at h1 ⊢
  have H1 := Lib.hid h1
  have hb := blk_mem H1.out (b := fb) (o := .cells #[.int .i64 V, .slice a n c] 24 (0, 0)) (by simp)
  (try clear v0 v1 vl)
  have v0 : _ = some _ := heap_eq_cell hb 0
  have v1 : _ = some _ := heap_eq_cell hb 1
  have vl := lt_of_block hb
  clear hb
  obtain ⟨T, hT⟩ : ∃ T, fewF cs p = T := ⟨_, rfl⟩
  rw [hT]
  have HTT := Lib.hid hT
  clear hf1 h1 hfb hT HT H0
  cases T with
  | false =>
    go_wp2_with fail
    refine (HAW.out _).mono ?_
    rintro e w9 ⟨rfl, hf9⟩
    have HF9 := Lib.hid hf9
    clear hf9
    go_wp2
    go_ret
    exact ⟨rfl, H1.out.fr.trans0 HF9.out⟩
  | true =>
    obtain ⟨hc40, hp12, hc20, hp20⟩ := fewF_iff.1 HTT.out
    obtain ⟨vs, hFH⟩ := FormHs.base (Ps := []) HI.out
    obtain ⟨pvs, hPH⟩ := FormHs.base (Ps := []) HP.out
    have HC20 := Lib.hid (And.intro (fun r hr => Nat.le_trans (hc20 r hr) (by omega) : ∀ r ∈ cs, r.length ≤ 1000000) (fun r hr => Nat.le_trans (hp20 r hr) (by omega) : ∀ r ∈ p, r.length ≤ 1000000))
    have HFH := Lib.hid hFH
    have HPH := Lib.hid hPH
    have HFEW := Lib.hid (And.intro hc40 (And.intro hp12 (And.intro hc20 hp20)))
    have HTR := Lib.hid (fun w' (hf : Fr [] w1 w') => Trim_calls (V := V) (H1.out.step hf) (HFH.out.more fun P hP => by simp at hP) (HPH.out.more fun P hP => by simp at hP) HC20.out.1 HC20.out.2)
    rw [HN.out.1, HN.out.2] at HTR
    obtain ⟨E, hE⟩ : ∃ E, trimEV V cs p = E := ⟨_, rfl⟩
    obtain ⟨L, hL⟩ : ∃ L, trimLV V cs p = L := ⟨_, rfl⟩
    obtain ⟨E2, hE2⟩ : ∃ E, coreEV V cs p = E := ⟨_, rfl⟩
    obtain ⟨L2, hL2⟩ : ∃ L, coreLV V cs p = L := ⟨_, rfl⟩
    have hsub := trimLV_sub (V := V) (cs := cs) (p := p)
    rw [hL] at hsub
    have HSUB := Lib.hid hsub
    rw [hE, hL] at HTR
    have HEQ := Lib.hid (And.intro hE (And.intro hL (And.intro hE2 hL2)))
    clear hc20 hp20 hFH hPH hc40 hp12 hE hL hE2 hL2 hsub
    go_wp2_with fail
    refine (HTR.out _ (by (repeat first | exact Fr.refl _ _ | assumption | apply Fr.n | apply Fr.d | apply Fr.a | refine Fr.s ?_ (.inr (by simp; try omega)) _))).mono ?_
    rintro e w2 ⟨TV, ta, tc, hTV, hTok, rfl, h2⟩
    obtain ⟨t, ht⟩ : ∃ t, TV.length = t := ⟨_, rfl⟩
    have htL : L.length = t := by rw [← ht, ← hTV, List.length_map]
    have ht12 : t ≤ 12 := by rw [← htL]; exact Nat.le_trans HSUB.out.1 HFEW.out.2.1
    have hTF := hTok.form (va := ta) (vc := tc) ht (by omega) (fun r hr => HC20.out.2 _ (HSUB.out.2 _ (by rw [← hTV]; exact List.mem_map_of_mem hr))) (Rs := Hp.row 25 1 (.slice ta t tc) t (TV.map (·.1)) :: [Hp.blk fb (.cells #[.int .i64 V, .slice a n c] 24 (0, 0))]) (List.mem_cons_self ..) (fun P hP => List.mem_cons_of_mem _ hP)
    rw [hTV] at hTF
    rw [ht] at h2 ⊢
    have HTF := Lib.hid hTF
    have HTL := Lib.hid htL
    have H2 := Lib.hid h2
    have hCO := fun w' (hf : Fr [] w2 w') => RTrim_calls (V := V) (h2.step hf) (HFH.out.more fun P hP => by simp at hP) HAA.out.1 (HPH.out.more fun P hP => by simp at hP) HAA.out.2.1 HAA.out.2.2 HFEW.out.1 HFEW.out.2.1 HFEW.out.2.2.1 HFEW.out.2.2.2
    rw [HN.out.1, HN.out.2, HEQ.out.1, HEQ.out.2.1] at hCO
    have HCO := Lib.hid hCO
    clear h2 hTV hTok HTR hCO hTF htL ht H1
    have hb := blk_mem H2.out (b := fb) (o := .cells #[.int .i64 V, .slice a n c] 24 (0, 0)) (by simp)
    (try clear v0 v1 vl)
    have v0 : _ = some _ := heap_eq_cell hb 0
    have v1 : _ = some _ := heap_eq_cell hb 1
    have vl := lt_of_block hb
    clear hb
    go_wp2_with fail
    refine (HCO.out _ (by (repeat first | exact Fr.refl _ _ | assumption | apply Fr.n | apply Fr.d | apply Fr.a | refine Fr.s ?_ (.inr (by simp; try omega)) _))).mono ?_
    rintro e w3 ⟨X, ua, uc, uvs, hX, rfl, hUF, h3⟩
    rw [HTL.out]
    have HX := Lib.hid hX
    have HUF := Lib.hid hUF
    have H3 := Lib.hid h3
    have hCO := fun w' (hf : Fr [] w3 w') => Core_calls (V := V) (h3.step hf) (HFH.out.more fun P hP => by simp at hP) (HPH.out.more fun P hP => by simp at hP) HC20.out.1 HC20.out.2
    rw [HN.out.1, HN.out.2, HEQ.out.2.2.1, HEQ.out.2.2.2] at hCO
    clear HCO
    have HCO := Lib.hid hCO
    clear h3 hX hUF hCO H2
    have hb := blk_mem H3.out (b := fb) (o := .cells #[.int .i64 V, .slice a n c] 24 (0, 0)) (HX.out _ (by simp))
    (try clear v0 v1 vl)
    have v0 : _ = some _ := heap_eq_cell hb 0
    have v1 : _ = some _ := heap_eq_cell hb 1
    have vl := lt_of_block hb
    clear hb
    go_wp2_with fail
    refine (HCO.out _ (by (repeat first | exact Fr.refl _ _ | assumption | apply Fr.n | apply Fr.d | apply Fr.a | refine Fr.s ?_ (.inr (by simp; try omega)) _))).mono ?_
    rintro e w4 ⟨ca, cc, rfl, h4⟩
    have H4 := Lib.hid h4
    have hCO := fun w' (hf : Fr [] w4 w') => RCore_calls (V := V) (h4.step hf) (HFH.out.more fun P hP => by simp at hP) HAA.out.1 (HPH.out.more fun P hP => by simp at hP) HAA.out.2.1 HAA.out.2.2 HFEW.out.1 HFEW.out.2.1 HFEW.out.2.2.1 HFEW.out.2.2.2
    rw [HN.out.1, HN.out.2, HEQ.out.2.2.1, HEQ.out.2.2.2] at hCO
    clear HCO
    have HCO := Lib.hid hCO
    clear h4 hCO H3
    have hb := blk_mem H4.out (b := fb) (o := .cells #[.int .i64 V, .slice a n c] 24 (0, 0)) (List.mem_cons_of_mem _ (HX.out _ (by simp)))
    (try clear v0 v1 vl)
    have v0 : _ = some _ := heap_eq_cell hb 0
    have v1 : _ = some _ := heap_eq_cell hb 1
    have vl := lt_of_block hb
    clear hb
    go_wp2_with fail
    refine (HCO.out _ (by (repeat first | exact Fr.refl _ _ | assumption | apply Fr.n | apply Fr.d | apply Fr.a | refine Fr.s ?_ (.inr (by simp; try omega)) _))).mono ?_
    rintro e w5 ⟨da, dc, rfl, h5⟩
    have HSM := Lib.hid (fun w' (hf : Fr [] w5 w') => same_calls (HTF.out.src _ _ (h5.step hf) fun P hP => List.mem_cons_of_mem _ (List.mem_cons_of_mem _ (HX.out P hP))) (HUF.out.src _ _ (h5.step hf) fun P hP => List.mem_cons_of_mem _ (List.mem_cons_of_mem _ hP)) (by rw [HTL.out]; omega) (fun r hr => Nat.le_trans (HC20.out.2 r (HSUB.out.2 r hr)) (by omega)))
    rw [HTL.out, decide_eq_true (rfl : L = L)] at HSM
    have H5 := Lib.hid h5
    clear h5 HCO H4 v0 v1 vl
    go_wp2_with fail
    refine (HSM.out _ (by (repeat first | exact Fr.refl _ _ | assumption | apply Fr.n | apply Fr.d | apply Fr.a | refine Fr.s ?_ (.inr (by simp; try omega)) _))).mono ?_
    rintro e w6 ⟨rfl, hf6⟩
    have h6 := H5.out.step hf6
    have hq : L2.length ≤ 40 := by
      have h1 := HEQ.out.2.2.2
      have h2 := HFEW.out.1
      rw [← h1]
      unfold coreLV
      split
      · rename_i he
        rcases few_ev (V := V) HFEW.out.1 HFEW.out.2.1 with ⟨_, h3, h4⟩ | ⟨hv, ha, _⟩
        · rcases h4 with h4 | h4
          · rw [h4.2] at he; cases he
          · rw [h4.2] at he; cases he
        · exact Nat.le_trans (coreF_facts hv ha).len h2
      · exact Nat.zero_le _
    have hi1 : IntsAt w6 (.slice ca (L2.map fun n : Nat => (n : Int)).length cc) (L2.map fun n : Nat => (n : Int)) := by
      have := (h6.bring 1).rowReads
      rw [nv_iv] at this
      rw [List.length_map]
      unfold IntsAt
      rw [List.length_map]
      exact this
    have hi2 : IntsAt w6 (.slice da (L2.map fun n : Nat => (n : Int)).length dc) (L2.map fun n : Nat => (n : Int)) := by
      have := h6.rowReads
      rw [nv_iv] at this
      rw [List.length_map]
      unfold IntsAt
      rw [List.length_map]
      exact this
    have HQ := Lib.hid (fun w' (hf : Fr [] w6 w') => REqual_calls (hi1.fr hf) (hi2.fr hf) (by rw [List.length_map]; omega))
    rw [List.length_map, decide_eq_true (rfl : (L2.map fun n : Nat => (n : Int)) = (L2.map fun n : Nat => (n : Int)))] at HQ
    have H6 := Lib.hid h6
    clear h6 hf6 hi1 hi2 HSM H5
    have b1 : (E == E) = true := by simp
    have b2 : (E2 == E2) = true := by simp
    go_wp2_with fail
    refine (HQ.out _ (by (repeat first | exact Fr.refl _ _ | assumption | apply Fr.n | apply Fr.d | apply Fr.a | refine Fr.s ?_ (.inr (by simp; try omega)) _))).mono ?_
    rintro e w7 ⟨rfl, hf7⟩
    have H7 := Lib.hid (H6.out.step hf7)
    clear hf7 HQ H6
    go_wp2_with fail
    refine (HAW.out _).mono ?_
    rintro e w9 ⟨rfl, hf9⟩
    have HF9 := Lib.hid hf9
    clear hf9
    go_wp2
    go_ret
    exact ⟨rfl, H7.out.fr.trans0 HF9.out⟩
end Go.Proofs.Ytbpaadpocihahaa
end
