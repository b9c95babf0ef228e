/- Own texts of this claim, part 24: no condition. -/
import Derived.ProofKit
import Derived.OpenShut
import Derived.Deep.Slices
import Derived.Test.YtjidldfnlejdhaaZM22
import Derived.Test.YtjidldfnlejdhaaZM3
import Derived.Test.YtjidldfnlejdhaaZM15
import Derived.Test.YtjidldfnlejdhaaZM18
set_option linter.unusedVariables false
set_option linter.unusedSimpArgs false
section
/- First, Next and their references: what both give. -/
namespace Go.Proofs.Ytjidldfnlejdhaa
open Go Go.RowKit Go.Proofs.Rg Go.Proofs.Mp Go.Proofs.Hp Go.Proofs.Sv
set_option linter.unusedVariables false
set_option linter.unusedSimpArgs false
theorem bools_nil {w : World} : BoolsAt w (.slice none 0 0) [] := ⟨rfl, none, 0, rfl, fun h => absurd h (by simp)⟩
/-- the error, the flag and the assignment of First -/
def EF (V : Int) (cs : List (List Int)) : Int := if V < 0 ∨ rightF V.toNat cs = false then 2 else 0
def FF (V : Int) (cs : List (List Int)) : Option (List Bool) := if EF V cs = 0 then (Sols V.toNat cs).head? else none
def FirstU (w : World) (V : Int) (cs : List (List Int)) (e : Ending) (w' : World) : Prop :=
  ∃ oa oc, e = .returned (.tuple #[.slice oa ((FF V cs).getD []).length oc, .bool (FF V cs).isSome, .int .i64 (EF V cs)]) ∧ BoolsAt w' (.slice oa ((FF V cs).getD []).length oc) ((FF V cs).getD []) ∧ Fr [] w w'
/-- the error and the assignment of Next -/
def EN (V : Int) (cs : List (List Int)) (n : Int) (l : List Bool) : Int := if V < 0 ∨ goodN V.toNat cs n l = false then 2 else 0
def FN (V : Int) (cs : List (List Int)) (n : Int) (l : List Bool) : Option (List Bool) := if EN V cs n l = 0 then (nextR cs V.toNat l l.length).map (·.take l.length) else none
def NextU (w : World) (V : Int) (cs : List (List Int)) (n : Int) (l : List Bool) (e : Ending) (w' : World) : Prop :=
  ∃ oa oc, e = .returned (.tuple #[.slice oa ((FN V cs n l).getD []).length oc, .bool (FN V cs n l).isSome, .int .i64 (EN V cs n l)]) ∧ BoolsAt w' (.slice oa ((FN V cs n l).getD []).length oc) ((FN V cs n l).getD []) ∧ Fr [] w w'
theorem FF_len {V : Int} {cs : List (List Int)} : ((FF V cs).getD []).length ≤ 70000 := by
  unfold FF
  split
  case isFalse => simp
  case isTrue h =>
    unfold EF at h
    split at h
    · cases h
    case isFalse hg =>
      rw [not_or, Bool.not_eq_false] at hg
      obtain ⟨_, hV, _⟩ := rightF_len hg.2
      cases hS : Sols V.toNat cs with
      | nil => simp
      | cons A S =>
        have hA : A ∈ Sols V.toNat cs := by rw [hS]; simp
        have := ext_length (List.mem_filter.1 hA).1
        simp only [List.length_nil] at this
        simp only [List.head?_cons, Option.getD_some]
        omega
theorem FN_len {V : Int} {cs : List (List Int)} {n : Int} {l : List Bool} (hl : l.length ≤ 70000) : ((FN V cs n l).getD []).length ≤ 70000 := by
  unfold FN
  split
  case isFalse => simp
  case isTrue h =>
    cases nextR cs V.toNat l l.length with
    | none => simp
    | some x => simp only [Option.map_some, Option.getD_some, List.length_take]; omega
section
variable {w : World} {V : Int} {a : Option Addr} {c : Nat} {cs : List (List Int)} {n : Int} {l : List Bool} {e : Ending} {w' : World}
theorem FirstU.mk {oa : Option Addr} {oc : Nat} {E : Int} {F : Option (List Bool)} (h1 : EF V cs = E) (h2 : FF V cs = F) (he : e = .returned (.tuple #[.slice oa (F.getD []).length oc, .bool F.isSome, .int .i64 E])) (hb : BoolsAt w' (.slice oa (F.getD []).length oc) (F.getD [])) (hf : Fr [] w w') : FirstU w V cs e w' := by
  subst h1 h2
  exact ⟨oa, oc, he, hb, hf⟩
theorem NextU.mk {oa : Option Addr} {oc : Nat} {E : Int} {F : Option (List Bool)} (h1 : EN V cs n l = E) (h2 : FN V cs n l = F) (he : e = .returned (.tuple #[.slice oa (F.getD []).length oc, .bool F.isSome, .int .i64 E])) (hb : BoolsAt w' (.slice oa (F.getD []).length oc) (F.getD [])) (hf : Fr [] w w') : NextU w V cs n l e w' := by
  subst h1 h2
  exact ⟨oa, oc, he, hb, hf⟩
theorem FirstU.err (hV : V < 0) (he : e = .returned (.tuple #[.slice none 0 0, .bool false, .int .i64 2])) (h : Has w w' []) : FirstU w V cs e w' := by
  have e1 : EF V cs = 2 := by unfold EF; rw [if_pos (.inl hV)]
  exact FirstU.mk (F := none) e1 (by unfold FF; rw [if_neg (by omega)]) he bools_nil h.fr
theorem NextU.err (hV : V < 0) (he : e = .returned (.tuple #[.slice none 0 0, .bool false, .int .i64 2])) (h : Has w w' []) : NextU w V cs n l e w' := by
  have e1 : EN V cs n l = 2 := by unfold EN; rw [if_pos (.inl hV)]
  exact NextU.mk (F := none) e1 (by unfold FN; rw [if_neg (by omega)]) he bools_nil h.fr
theorem EF_of {N : Nat} (h : rightF N cs = true) : EF (N : Int) cs = 0 ∧ FF (N : Int) cs = (Sols N cs).head? := by
  have e1 : EF (N : Int) cs = 0 := by unfold EF; rw [if_neg (by rw [not_or]; exact ⟨by omega, by rw [Int.toNat_natCast, h]; simp⟩)]
  exact ⟨e1, by unfold FF; rw [if_pos e1, Int.toNat_natCast]⟩
theorem EF_no {N : Nat} (h : rightF N cs = false) : EF (N : Int) cs = 2 ∧ FF (N : Int) cs = none := by
  have e1 : EF (N : Int) cs = 2 := by unfold EF; rw [if_pos (.inr (by rw [Int.toNat_natCast]; exact h))]
  exact ⟨e1, by unfold FF; rw [if_neg (by omega)]⟩
theorem FirstU.of {N : Nat} (h : FirstPost w [] N cs e w') : FirstU w (N : Int) cs e w' := by
  rcases h with ⟨hg, rfl, h⟩ | ⟨hg, hS, rfl, h⟩ | ⟨hg, A, S, v, hS, rfl, h⟩
  · exact FirstU.mk (F := none) (EF_no hg).1 (EF_no hg).2 rfl bools_nil h.fr
  · exact FirstU.mk (F := none) (EF_of hg).1 ((EF_of hg).2.trans (by rw [hS]; rfl)) rfl bools_nil h.fr
  · have hA : A.length = N := ext_one_len (List.mem_filter.1 (show A ∈ Sols N cs by rw [hS]; simp)).1
    subst hA
    obtain ⟨oa, oc, rfl, _⟩ := owns_form2 h.row
    exact FirstU.mk (F := some A) (EF_of hg).1 ((EF_of hg).2.trans (by rw [hS]; rfl)) rfl (by exact h.rowReads) h.fr
theorem head_complete {N : Nat} (h : rightF N cs = true) : complete cs N [] = (Sols N cs).head? := by
  rw [complete_eq (l := []) (by rw [List.length_nil, Nat.zero_add]; exact (rightF_len h).2.2)]
  unfold Sols
  rw [List.head?_filter]
theorem FirstU.ofR {N : Nat} (h : RFirstPost w [] N cs e w') : FirstU w (N : Int) cs e w' := by
  rcases h with ⟨hg, rfl, h⟩ | ⟨hg, hS, rfl, h⟩ | ⟨hg, A, a, c, Qs, hS, rfl, h, hb⟩
  · exact FirstU.mk (F := none) (EF_no hg).1 (EF_no hg).2 rfl bools_nil h.fr
  · exact FirstU.mk (F := none) (EF_of hg).1 ((EF_of hg).2.trans ((head_complete hg).symm.trans hS)) rfl bools_nil h.fr
  · exact FirstU.mk (F := some A) (EF_of hg).1 ((EF_of hg).2.trans ((head_complete hg).symm.trans hS)) rfl (hb _ _ h fun P hP => hP).1 h.fr
theorem NextU.of {N : Nat} (h : NxPost w [] N cs n l e w') : NextU w (N : Int) cs n l e w' := by
  have ok : goodN N cs n l = true → EN (N : Int) cs n l = 0 ∧ FN (N : Int) cs n l = (nextR cs N l l.length).map (·.take l.length) := fun hg => by
    have e1 : EN (N : Int) cs n l = 0 := by unfold EN; rw [if_neg (by rw [not_or]; exact ⟨by omega, by rw [Int.toNat_natCast, hg]; simp⟩)]
    exact ⟨e1, by unfold FN; rw [if_pos e1, Int.toNat_natCast]⟩
  rcases h with ⟨hg, rfl, h⟩ | ⟨hg, hS, rfl, h⟩ | ⟨hg, x, a, c, Qs, hS, rfl, h, hb⟩
  · have e1 : EN (N : Int) cs n l = 2 := by unfold EN; rw [if_pos (.inr (by rw [Int.toNat_natCast]; exact hg))]
    exact NextU.mk (F := none) e1 (by unfold FN; rw [if_neg (by omega)]) rfl bools_nil h.fr
  · exact NextU.mk (F := none) (ok hg).1 ((ok hg).2.trans (by rw [hS]; rfl)) rfl bools_nil h.fr
  · exact NextU.mk (F := some (x.take l.length)) (ok hg).1 ((ok hg).2.trans (by rw [hS]; rfl)) rfl (hb _ _ h fun P hP => hP).1 h.fr
theorem First_u (hF : FormAt w a c cs) (hs : smallF V cs = true) : Calls Try.prog 11 #[.agg #[.int .i64 V, .slice a cs.length c]] w (FirstU w V cs) := by
  have hz := Has.nil (Fr.refl [] w)
  by_cases hV : V < 0
  · exact (First_neg hz hF hV).mono fun e w' ⟨he, h⟩ => FirstU.err hV he h
  · obtain ⟨N, rfl⟩ : ∃ N : Nat, V = N := ⟨V.toNat, by omega⟩
    exact (First_calls hz (FormSrc.base hF) (tiny_len hs).2).mono fun e w' h => FirstU.of h
theorem RFirst_u (hF : FormAt w a c cs) (hs : smallF V cs = true) : Calls Try.prog 12 #[.agg #[.int .i64 V, .slice a cs.length c]] w (FirstU w V cs) := by
  have hz := Has.nil (Fr.refl [] w)
  by_cases hV : V < 0
  · exact (RFirst_neg hz hF hV).mono fun e w' ⟨he, h⟩ => FirstU.err hV he h
  · obtain ⟨N, rfl⟩ : ∃ N : Nat, V = N := ⟨V.toNat, by omega⟩
    exact (RFirst_calls hz (FormSrc.base hF) (tiny_len hs).2).mono fun e w' h => FirstU.ofR h
theorem heads_one (hF : FormAt w a c cs) : ∃ vs, FormHs w [] a c vs cs ∧ ∀ u ∈ vs, u.oneCell' = true := by
  obtain ⟨vs, hv⟩ := FormHs.base (Ps := []) hF
  refine ⟨vs, hv, fun u hu => ?_⟩
  obtain ⟨hr, h2⟩ := hv.1 w [] (Has.nil (Fr.refl [] w)) fun P hP => hP
  obtain ⟨i, hi, rfl⟩ := List.getElem_of_mem hu
  have hlen : vs.length = cs.length := by have := hr.1; omega
  obtain ⟨u2, hu2, hr2⟩ := h2 i cs[i] (List.getElem?_eq_getElem (by omega))
  rw [List.getElem?_eq_getElem hi] at hu2
  obtain rfl := Option.some.inj hu2
  obtain ⟨ua, uc, he⟩ := hr2.form
  rw [he]
  rfl
theorem Next_u (hF : FormAt w a c cs) (hs : smallF V cs = true) {la : Option Addr} {lc : Nat} (hl : BoolsAt w (.slice la l.length lc) l) (hlc : l.length ≤ lc) (hll : l.length ≤ 70000) :
    Calls Try.prog 13 #[.agg #[.int .i64 V, .slice a cs.length c], .int .i64 n, .slice la l.length lc] w (NextU w V cs n l) := by
  have hz := Has.nil (Fr.refl [] w)
  by_cases hV : V < 0
  · exact (Next_neg hz hF hV).mono fun e w' ⟨he, h⟩ => NextU.err hV he h
  · obtain ⟨N, rfl⟩ : ∃ N : Nat, V = N := ⟨V.toNat, by omega⟩
    obtain ⟨vs, hv, h1⟩ := heads_one hF
    exact (Next_calls hz hv h1 (tiny_len hs).2 (BoolsSrc.base hl hlc) hll (by have := (tiny_len hs).1; omega)).mono fun e w' h => NextU.of h
theorem RNext_u (hF : FormAt w a c cs) (hs : smallF V cs = true) {la : Option Addr} {lc : Nat} (hl : BoolsAt w (.slice la l.length lc) l) (hlc : l.length ≤ lc) (hll : l.length ≤ 70000) :
    Calls Try.prog 14 #[.agg #[.int .i64 V, .slice a cs.length c], .int .i64 n, .slice la l.length lc] w (NextU w V cs n l) := by
  have hz := Has.nil (Fr.refl [] w)
  by_cases hV : V < 0
  · exact (RNext_neg hz hF hV).mono fun e w' ⟨he, h⟩ => NextU.err hV he h
  · obtain ⟨N, rfl⟩ : ∃ N : Nat, V = N := ⟨V.toNat, by omega⟩
    exact (RNext_calls hz (FormSrc.base hF) (tiny_len hs).2 (BoolsSrc.base hl hlc) hll).mono fun e w' h => NextU.of h
end
end Go.Proofs.Ytjidldfnlejdhaa
end

section
/- Law SolveAll, walked. -/
namespace Go.Proofs.Ytjidldfnlejdhaa
open Go Go.RowKit Go.Proofs.Rg Go.Proofs.Mp Go.Proofs.Hp Go.Proofs.Sv
set_option linter.unusedVariables false
set_option linter.unusedSimpArgs false
/-- what awake is: handed in later -/
def AwakeOk : Prop := ∀ w : World, Calls Try.prog 10 #[] w fun e w' => e = .returned (.bool true) ∧ Fr [] w w'
set_option maxHeartbeats 4000000 in
theorem SolveAll_calls (haw : AwakeOk) {w : World} {V n most : Int} {a : Option Addr} {c : Nat} {cs : List (List Int)} (h : FormAt w a c cs) :
    Calls Try.prog 4 #[.agg #[.int .i64 V, .slice a cs.length c], .int .i64 n, .int .i64 most] w fun e w' => e = .returned (.bool true) ∧ Fr [] w w' := by
  have HAW := Lib.hid haw
  have HF := Lib.hid (fun w' (hf : Fr [] w w') => h.fr hf)
  have HT := Lib.hid (fun w' (hf : Fr [] w w') => tiny_calls (V := V) (h.fr hf))
  obtain ⟨m, hm⟩ : ∃ m, cs.length = m := ⟨_, rfl⟩
  have HP := Lib.hid (fun (hs : smallF V cs = true) w' (hf : Fr [] w w') => @All_u w' V a c cs n most (h.fr hf) hs)
  have HQ := Lib.hid (fun (hs : smallF V cs = true) w' (hf : Fr [] w w') => @RAll_u w' V a c cs n most (h.fr hf) hs)
  rw [hm] at HT HP HQ ⊢
  clear h haw hm
  go_enter Try.func4, Try.ntmps4
  go_wp2_with fail
  refine (HT.out _ (by (repeat first | exact Fr.refl _ _ | assumption | apply Fr.n | apply Fr.d | apply Fr.a | refine Fr.s ?_ (.inl (by simp)) _))).mono ?_
  rintro e w1 ⟨rfl, hf1⟩
  obtain ⟨fb, hfb⟩ : ∃ b, w.heap.size = b := ⟨_, rfl⟩
  have hfr : Fr [] w w1 := Fr.trans0 (by (repeat first | exact Fr.refl _ _ | assumption | apply Fr.n | apply Fr.d | apply Fr.a | refine Fr.s ?_ (.inl (by simp)) _)) hf1
  have v0 : w1.cell? ⟨fb, 0, none⟩ = some (.int .i64 V) := (hf1.cell (p := ⟨fb, 0, none⟩) (by rw [← hfb]; simp) (by simp)).trans (by rw [← hfb]; simp)
  have v1 : w1.cell? ⟨fb, 1, none⟩ = some (.slice a m c) := (hf1.cell (p := ⟨fb, 1, none⟩) (by rw [← hfb]; simp) (by simp)).trans (by rw [← hfb]; simp)
  have vl : fb < w1.heap.size := Nat.lt_of_lt_of_le (by rw [← hfb]; simp) hf1.size
  rw [hfb]
  have HF1 := Lib.hid hfr
  obtain ⟨T, hT⟩ : ∃ T, tinyF V cs = T := ⟨_, rfl⟩
  rw [hT]
  have HTT := Lib.hid hT
  clear hf1 hfr hfb hT HT
  cases T with
  | false =>
    go_wp2_with fail
    refine (HAW.out _).mono ?_
    rintro e w2 ⟨rfl, hf2⟩
    have HF2 := Lib.hid hf2
    clear hf2
    go_wp2
    go_ret
    exact ⟨rfl, HF1.out.trans0 HF2.out⟩
  | true =>
    have HS := Lib.hid (show smallF V cs = true by have := HTT.out; unfold tinyF at this; simp only [Bool.and_eq_true] at this; exact this.1)
    go_wp2_with fail
    refine (HP.out HS.out _ HF1.out).mono ?_
    rintro e w2 ⟨oa, oc, rfl, hb2, hf2⟩
    obtain ⟨E, hE⟩ : ∃ E, EA V cs n most = E := ⟨_, rfl⟩
    obtain ⟨ll, hll⟩ : ∃ l, (LA V cs n most).length = l := ⟨_, rfl⟩
    rw [hE]
    rw [hll] at hb2 ⊢
    have HE := Lib.hid hE
    have HL := Lib.hid hll
    have HB2 := Lib.hid hb2
    have HF2 := Lib.hid (HF1.out.trans0 hf2)
    have v0 := (hf2.cell (p := ⟨fb, 0, none⟩) vl (by simp)).trans v0
    have v1 := (hf2.cell (p := ⟨fb, 1, none⟩) vl (by simp)).trans v1
    have vl := Nat.lt_of_lt_of_le vl hf2.size
    clear hf2 hb2 hE hll
    go_wp2_with fail
    refine (HQ.out HS.out _ (by exact HF2.out)).mono ?_
    rintro e w3 ⟨pa, pc, rfl, hb3, hf3⟩
    rw [HE.out]
    rw [HL.out] at hb3 ⊢
    have HB3 := Lib.hid hb3
    have HF3 := Lib.hid (HF2.out.trans0 hf3)
    have HLL := Lib.hid (show Calls Try.prog 18 #[.slice oa ll oc, .slice pa ll pc] w3 (fun e w' => e = .returned (.bool true) ∧ Fr [] w3 w') from by
      have h2 := HB2.out.fr hf3
      have h3 := HB3.out
      rw [← HL.out] at h2 h3 ⊢
      exact (lists_calls h2 h3 LA_len.1 LA_len.2).mono fun e w'' ⟨he, hf⟩ => ⟨by rw [he]; simp, hf⟩)
    clear hf3 hb3
    go_wp2_with fail
    refine HLL.out.mono ?_
    rintro e w4 ⟨rfl, hf4⟩
    have HF4 := Lib.hid hf4
    clear hf4
    go_wp2_with fail
    refine (HAW.out _).mono ?_
    rintro e w5 ⟨rfl, hf5⟩
    have HF5 := Lib.hid hf5
    clear hf5
    go_wp2
    go_ret
    exact ⟨rfl, HF3.out.trans0 (HF4.out.trans0 HF5.out)⟩
end Go.Proofs.Ytjidldfnlejdhaa
end

section
/- Law SolveFirst, walked. -/
namespace Go.Proofs.Ytjidldfnlejdhaa
open Go Go.RowKit Go.Proofs.Rg Go.Proofs.Mp Go.Proofs.Hp Go.Proofs.Sv
set_option linter.unusedVariables false
set_option linter.unusedSimpArgs false
theorem bools_same {w : World} {la ma : Option Addr} {lc mc k : Nat} {l : List Bool} (hk : l.length = k) (hl : BoolsAt w (.slice la l.length lc) l) (hm : BoolsAt w (.slice ma l.length mc) l) (hll : l.length ≤ 70000) :
    Calls Try.prog 15 #[.slice la k lc, .slice ma k mc] w fun e w' => e = .returned (.bool true) ∧ Fr [] w w' := by
  subst hk
  exact (bools_calls hl hm (by omega)).mono fun e w'' ⟨he, hf⟩ => ⟨by rw [he]; simp, hf⟩
set_option maxHeartbeats 8000000 in
theorem SolveFirst_calls (haw : AwakeOk) {w : World} {V n : Int} {a : Option Addr} {c : Nat} {cs : List (List Int)} (h : FormAt w a c cs) {la : Option Addr} {lc : Nat} {l : List Bool} (hl : BoolsAt w (.slice la l.length lc) l) (hlc : l.length ≤ lc) :
    Calls Try.prog 3 #[.agg #[.int .i64 V, .slice a cs.length c], .int .i64 n, .slice la l.length lc] w fun e w' => e = .returned (.bool true) ∧ Fr [] w w' := by
  have HAW := Lib.hid haw
  have HT := Lib.hid (fun w' (hf : Fr [] w w') => tiny_calls (V := V) (h.fr hf))
  obtain ⟨m, hm⟩ : ∃ m, cs.length = m := ⟨_, rfl⟩
  obtain ⟨ln, hln⟩ : ∃ m, l.length = m := ⟨_, rfl⟩
  have HP := Lib.hid (fun (hs : smallF V cs = true) w' (hf : Fr [] w w') => @First_u w' V a c cs (h.fr hf) hs)
  have HQ := Lib.hid (fun (hs : smallF V cs = true) w' (hf : Fr [] w w') => @RFirst_u w' V a c cs (h.fr hf) hs)
  have HN := Lib.hid (fun (hs : smallF V cs = true) (hll : ln ≤ 20) w' (hf : Fr [] w w') => @Next_u w' V a c cs n l (h.fr hf) hs la lc (hl.fr hf) hlc (by omega))
  have HM := Lib.hid (fun (hs : smallF V cs = true) (hll : ln ≤ 20) w' (hf : Fr [] w w') => @RNext_u w' V a c cs n l (h.fr hf) hs la lc (hl.fr hf) hlc (by omega))
  have HLN := Lib.hid hln
  rw [hm] at HT HP HQ HN HM ⊢
  rw [hln] at HN HM ⊢
  clear h haw hm hl hlc hln
  go_enter Try.func3, Try.ntmps3
  go_wp2_with fail
  refine (HT.out _ (by (repeat first | exact Fr.refl _ _ | assumption | apply Fr.n | apply Fr.d | apply Fr.a | refine Fr.s ?_ (.inl (by simp)) _))).mono ?_
  rintro e w1 ⟨rfl, hf1⟩
  obtain ⟨fb, hfb⟩ : ∃ b, w.heap.size = b := ⟨_, rfl⟩
  have hfr : Fr [] w w1 := Fr.trans0 (by (repeat first | exact Fr.refl _ _ | assumption | apply Fr.n | apply Fr.d | apply Fr.a | refine Fr.s ?_ (.inl (by simp)) _)) hf1
  have v0 : w1.cell? ⟨fb, 0, none⟩ = some (.int .i64 V) := (hf1.cell (p := ⟨fb, 0, none⟩) (by rw [← hfb]; simp) (by simp)).trans (by rw [← hfb]; simp)
  have v1 : w1.cell? ⟨fb, 1, none⟩ = some (.slice a m c) := (hf1.cell (p := ⟨fb, 1, none⟩) (by rw [← hfb]; simp) (by simp)).trans (by rw [← hfb]; simp)
  have vl : fb < w1.heap.size := Nat.lt_of_lt_of_le (by rw [← hfb]; simp) hf1.size
  rw [hfb]
  have HF1 := Lib.hid hfr
  obtain ⟨T, hT⟩ : ∃ T, tinyF V cs = T := ⟨_, rfl⟩
  rw [hT]
  have HTT := Lib.hid hT
  clear hf1 hfr hfb hT HT
  cases T with
  | false =>
    go_wp2_with fail
    refine (HAW.out _).mono ?_
    rintro e w9 ⟨rfl, hf9⟩
    have HF9 := Lib.hid hf9
    clear hf9
    go_wp2
    go_ret
    exact ⟨rfl, HF1.out.trans0 HF9.out⟩
  | true =>
    by_cases h20 : ln > 20
    · have b0 : decide ((ln : Int) > 20) = true := by simp; omega
      go_wp2_with fail
      refine (HAW.out _).mono ?_
      rintro e w9 ⟨rfl, hf9⟩
      have HF9 := Lib.hid hf9
      clear hf9
      go_wp2
      go_ret
      exact ⟨rfl, HF1.out.trans0 HF9.out⟩
    have b0 : decide ((ln : Int) > 20) = false := by simp; omega
    have H20 := Lib.hid (show ln ≤ 20 by omega)
    have HS := Lib.hid (show smallF V cs = true by have := HTT.out; unfold tinyF at this; simp only [Bool.and_eq_true] at this; exact this.1)
    clear h20
    go_wp2_with fail
    refine (HP.out HS.out _ HF1.out).mono ?_
    rintro e w2 ⟨oa, oc, rfl, hb2, hf2⟩
    obtain ⟨E, hE⟩ : ∃ E, EF V cs = E := ⟨_, rfl⟩
    obtain ⟨I, hI⟩ : ∃ E, (FF V cs).isSome = E := ⟨_, rfl⟩
    obtain ⟨ll, hll⟩ : ∃ l, ((FF V cs).getD []).length = l := ⟨_, rfl⟩
    rw [hE, hI, hll]
    have HE := Lib.hid hE
    have HI := Lib.hid hI
    have HL := Lib.hid hll
    have HB2 := Lib.hid hb2
    have HF2 := Lib.hid (HF1.out.trans0 hf2)
    have v0 := (hf2.cell (p := ⟨fb, 0, none⟩) vl (by simp)).trans v0
    have v1 := (hf2.cell (p := ⟨fb, 1, none⟩) vl (by simp)).trans v1
    have vl := Nat.lt_of_lt_of_le vl hf2.size
    clear hf2 hb2 hE hll hI
    go_wp2_with fail
    refine (HQ.out HS.out _ (by exact HF2.out)).mono ?_
    rintro e w3 ⟨pa, pc, rfl, hb3, hf3⟩
    rw [HE.out, HI.out, HL.out]
    have HB3 := Lib.hid hb3
    have HB2b := Lib.hid (HB2.out.fr hf3)
    have HF3 := Lib.hid (HF2.out.trans0 hf3)
    have v0 := (hf3.cell (p := ⟨fb, 0, none⟩) vl (by simp)).trans v0
    have v1 := (hf3.cell (p := ⟨fb, 1, none⟩) vl (by simp)).trans v1
    have vl := Nat.lt_of_lt_of_le vl hf3.size
    clear hf3 hb3 HB2
    go_wp2_with fail
    refine (HN.out HS.out H20.out _ (by exact HF3.out)).mono ?_
    rintro e w4 ⟨qa, qc, rfl, hb4, hf4⟩
    obtain ⟨E2, hE⟩ : ∃ E, EN V cs n l = E := ⟨_, rfl⟩
    obtain ⟨I2, hI⟩ : ∃ E, (FN V cs n l).isSome = E := ⟨_, rfl⟩
    obtain ⟨l2, hll⟩ : ∃ l', ((FN V cs n l).getD []).length = l' := ⟨_, rfl⟩
    rw [hE, hI, hll]
    have HE2 := Lib.hid hE
    have HI2 := Lib.hid hI
    have HL2 := Lib.hid hll
    have HB4 := Lib.hid hb4
    have HF4 := Lib.hid (HF3.out.trans0 hf4)
    have HFa := Lib.hid hf4
    have v0 := (hf4.cell (p := ⟨fb, 0, none⟩) vl (by simp)).trans v0
    have v1 := (hf4.cell (p := ⟨fb, 1, none⟩) vl (by simp)).trans v1
    have vl := Nat.lt_of_lt_of_le vl hf4.size
    clear hf4 hb4 hE hll hI
    go_wp2_with fail
    refine (HM.out HS.out H20.out _ (by exact HF4.out)).mono ?_
    rintro e w5 ⟨ra, rc, rfl, hb5, hf5⟩
    rw [HE2.out, HI2.out, HL2.out]
    have HB5 := Lib.hid hb5
    have HF5 := Lib.hid (HF4.out.trans0 hf5)
    have HFb := Lib.hid (HFa.out.trans0 hf5)
    have HB4b := Lib.hid (HB4.out.fr hf5)
    have HLL := Lib.hid (bools_same HL.out (HB2b.out.fr HFb.out) (HB3.out.fr HFb.out) FF_len)
    clear hf5 hb5
    go_wp2_with fail
    refine HLL.out.mono ?_
    rintro e w6 ⟨rfl, hf6⟩
    have HF6 := Lib.hid (HF5.out.trans0 hf6)
    have HL3 := Lib.hid (bools_same HL2.out (HB4b.out.fr hf6) (HB5.out.fr hf6) (FN_len (by rw [HLN.out]; have := H20.out; omega)))
    clear hf6
    go_wp2_with fail
    refine HL3.out.mono ?_
    rintro e w7 ⟨rfl, hf7⟩
    have HF7 := Lib.hid (HF6.out.trans0 hf7)
    clear hf7
    go_wp2_with fail
    refine (HAW.out _).mono ?_
    rintro e w9 ⟨rfl, hf9⟩
    have HF9 := Lib.hid hf9
    clear hf9
    go_wp2
    go_ret
    exact ⟨rfl, HF7.out.trans0 HF9.out⟩
end Go.Proofs.Ytjidldfnlejdhaa
end

section
/- The frame of a law that answers true and leaves old memory as it was; slices opened into their cells. No condition on a program. -/
namespace Go.Proofs.Lw
open Go Go.ChangeShapes Go.WideShapes Go.ChangeAt Go.RowKit Go.Proofs.Hp
set_option linter.unusedVariables false
set_option linter.unusedSimpArgs false
/-- behind a call that left old memory as it was, each argument reads as it did -/
theorem args_stay {H : Type} {enc : TypeId × Value → H} {P : Program} (hl : laidOutB P = true) {W W' : World} (hb : Below W.heap.size W W') :
    ∀ {ts : List TypeId} {vs : List Value} {ds : List (DataW H)} {ps : List MemPlace}, ts.all (fun t => P.readableRec t && decide (t < P.types.size)) = true → DataW.TrodAll enc P W 0 (fun _ => true) true ts vs ds ps →
      (∀ x ∈ ps, x.block < W.heap.size) → DataW.TrodAll enc P W' 0 (fun b => decide (b < W.heap.size)) true ts vs ds ps := by
  intro ts
  induction ts with
  | nil => intro vs ds ps _ h _; obtain ⟨rfl, rfl, rfl⟩ := trodAll_nil h; exact trodAll_mk0
  | cons t ts ih =>
    intro vs ds ps hok h hlt
    obtain ⟨v, vs1, d, ds1, p, q, rfl, rfl, rfl, h1, h2⟩ := trodAll_cons h
    simp only [List.all_cons, Bool.and_eq_true, decide_eq_true_eq] at hok
    exact trodAll_cons_mk (Below.trod hl hok.1.1 hok.1.2 h1 hb fun x hx => hlt x (List.mem_append_left _ hx)) (ih (by simpa only [List.all_eq_true, Bool.and_eq_true, decide_eq_true_eq] using hok.2) h2 fun x hx => hlt x (List.mem_append_right _ hx))
/-- the answer of such a law -/
theorem law_post {H : Type} {enc : TypeId × Value → H} {P : Program} (hl : laidOutB P = true) {f : Func} {s : ChangeSpec} {ts : List TypeId} {tb : TypeId} (hf : f.params.toList = ts) (hr : f.resultTypes = #[tb])
    (hb : P.underlying tb = some .bool) (hv : s.vars = []) (hok : ts.all (fun t => P.readableRec t && decide (t < P.types.size)) = true)
    (hfn : ∀ ds : List (DataW H), ds.length = ts.length → s.fn H ds = { results := [.lit (.bool true)], args := ds }) {W W' : World} {args : Array Value} {ds gs : List (DataW H)} {before : List MemPlace}
    (hW : DataW.Whole enc P f.params.toList s.vars false W args.toList ds gs before) (hB : Fr [] W W') : s.post enc P f false true false false W args (.bool true) W' := by
  have hW' := hW
  obtain ⟨p, q, hA, hV, rfl, hfz, hnd⟩ := hW
  rw [hf] at hA
  rw [hv] at hV
  obtain ⟨rfl, rfl⟩ := trodVars_none hV
  have hlen : ∀ {ts : List TypeId} {vs : List Value} {ds : List (DataW H)} {ps : List MemPlace}, DataW.TrodAll enc P W 0 (fun _ => true) true ts vs ds ps → ds.length = ts.length := by
    intro ts
    induction ts with
    | nil => intro vs ds ps h; obtain ⟨rfl, rfl, rfl⟩ := trodAll_nil h; rfl
    | cons t ts ih => intro vs ds ps h; obtain ⟨v, vs1, d, ds1, p, q, rfl, rfl, rfl, h1, h2⟩ := trodAll_cons h; simp [ih h2]
  have e := hfn (ds ++ []) (by simpa using hlen hA)
  refine ⟨ds, [], p ++ [], [], p, [], hW', ?_, ?_, ?_, hB.below.frame _ |> World.keptBut_mono (w := W) (w' := W') (fun x hx => hx), fun h => by cases h⟩
  · rw [e, hr]
    exact trodAll_mk1 (shut_bool hb true)
  · rw [e, hf, List.append_nil]
    exact args_stay hl hB.below hok hA fun x hx => by simpa using hW'.lt x (by simpa using hx)
  · rw [e, hv]
    exact rfl
/-- a slice whose elements are some cells each, read whole: its elements' cells -/
theorem open_rows {H : Type} {enc : TypeId × Value → H} {P : Program} {W : World} {t e : TypeId} {sz fuel n c : Nat} {a : Option Addr} {x : DataW H × List MemPlace} (ht : P.underlying t = some (.slice e)) (hsz : P.cellsOf e = sz) (hpos : 0 < sz)
    (h : DataW.trod enc P W 0 (fun _ => true) true fuel t [.slice a n c] = some x) :
    n ≤ c ∧ c ≤ maxLen ∧ ∃ xs : List (List Value), xs.length = n ∧ (∀ cs' ∈ xs, cs'.length = sz ∧ ∃ fuel y, DataW.trod enc P W 0 (fun _ => true) true fuel e cs' = some y) ∧
      (a = none → n = 0 ∧ c = 0) ∧ (0 < n → ∃ g off, a = some ⟨g, off, none⟩ ∧ g < W.heap.size ∧ ∀ j u, xs.flatten[j]? = some u → W.cell? ⟨g, off + j, none⟩ = some u) := by
  rcases Go.Deep.open_slice ht h with ⟨h0, _⟩ | ⟨ad, len, cap, m, k, D, Pl, hcs, _, hlc, hcm, hm, _, hx⟩
  · simp only [List.cons.injEq, Value.slice.injEq, and_true] at h0
    obtain ⟨rfl, rfl, rfl⟩ := h0
    exact ⟨Nat.le_refl _, Nat.zero_le _, [], rfl, by simp, by simp, by omega⟩
  · simp only [List.cons.injEq, Value.slice.injEq, and_true] at hcs
    obtain ⟨rfl, rfl, rfl⟩ := hcs
    simp only [if_true] at hm
    subst hm
    rw [hsz] at hx
    obtain ⟨C, hC⟩ := Go.Deep.choose_lt (α := List Value) (n := m) (p := fun i cs' => W.cells? 0 (ad.add (i * sz)) sz = some cs' ∧ DataW.trod enc P W 0 (fun _ => true) true k e cs' = some (D i, Pl i)) hx
    have hlen : ∀ i, i < n → (C i).length = sz := fun i hi => (World.cells?_some (hC i (by omega)).1).2.1
    refine ⟨hlc, hcm, (List.range n).map C, by simp, ?_, by simp, ?_⟩
    · intro cs' hm'
      obtain ⟨i, hi, rfl⟩ := List.mem_map.1 hm'
      have hi' := List.mem_range.1 hi
      exact ⟨hlen i hi', k, _, (hC i (by omega)).2⟩
    · intro hn
      have h0 := (hC 0 (by omega)).1
      have hblock := World.cells?_block h0 hpos
      obtain ⟨g, off, spot⟩ := ad
      have hsp : spot = none := by
        have hl0 := (World.cells?_some h0).2.1
        have hc0 := (World.cells?_some h0).2.2 0 (by omega)
        rw [List.getElem?_eq_getElem (by omega)] at hc0
        simpa [Addr.add] using World.cell?_spot hc0
      subst hsp
      refine ⟨g, off, rfl, by simpa [Addr.add] using hblock, ?_⟩
      have key : ∀ k, k ≤ n → ∀ j u, ((List.range k).map C).flatten[j]? = some u → W.cell? ⟨g, off + j, none⟩ = some u := by
        intro k
        induction k with
        | zero => intro _ j u hj; simp at hj
        | succ k ih =>
          intro hk j u hj
          have hfl : ∀ q, q ≤ n → ((List.range q).map C).flatten.length = q * sz := by
            intro q
            induction q with
            | zero => intro _; simp
            | succ q iq => intro hq; rw [List.range_succ, List.map_append, List.flatten_append, List.length_append, iq (by omega)]; simp [hlen q (by omega), Nat.succ_mul]
          rw [List.range_succ, List.map_append, List.flatten_append] at hj
          rcases Nat.lt_or_ge j (k * sz) with h1 | h1
          · rw [List.getElem?_append_left (by rw [hfl k (by omega)]; exact h1)] at hj
            exact ih (by omega) j u hj
          · rw [List.getElem?_append_right (by rw [hfl k (by omega)]; exact h1), hfl k (by omega)] at hj
            simp only [List.map_cons, List.map_nil, List.flatten_cons, List.flatten_nil, List.append_nil] at hj
            have hjl := (List.getElem?_eq_some_iff.1 hj).1
            rw [hlen k (by omega)] at hjl
            have := (World.cells?_some (hC k (by omega)).1).2.2 (j - k * sz) (by omega)
            rw [hj, add_plain, add_plain] at this
            rw [show off + j = off + k * sz + (j - k * sz) by omega]
            exact this
      exact key n (Nat.le_refl _)
/-- one witness for each member -/
theorem map_of_all {α β : Type} {f : β → α} : ∀ {xs : List α}, (∀ x ∈ xs, ∃ k, x = f k) → ∃ ks : List β, xs = ks.map f
  | [], _ => ⟨[], rfl⟩
  | x :: xs, h => by
    obtain ⟨k, rfl⟩ := h x (by simp)
    obtain ⟨ks, rfl⟩ := map_of_all (xs := xs) fun y hy => h y (by simp [hy])
    exact ⟨k :: ks, rfl⟩
end Go.Proofs.Lw
end

section
/- Drawn formulas and assignments, opened. -/
namespace Go.Proofs.Ytjidldfnlejdhaa
open Go Go.ChangeShapes Go.WideShapes Go.RowKit Go.Proofs.Hp Go.Proofs.Lw Go.Proofs.Sv
set_option linter.unusedVariables false
set_option linter.unusedSimpArgs false
def i64 (n : Int) : Prop := -9223372036854775808 ≤ n ∧ n ≤ 9223372036854775807
theorem i64_of {n : Int} (h : (Lit.int .i64 n).wf = true) : i64 n := by
  unfold i64
  simpa [Lit.wf, IntKind.min, IntKind.max, IntKind.signed, IntKind.bits] using h
set_option maxRecDepth 100000 in
theorem open_ints1 {H : Type} {enc : TypeId × Value → H} {W : World} {fuel : Nat} {v : Value} {x : DataW H × List MemPlace} (h : DataW.trod enc Try.prog W 0 (fun _ => true) true fuel 51 [v] = some x) :
    ∃ (a : Option Addr) (c : Nat) (l : List Int), v = .slice a l.length c ∧ IntsAt W (.slice a l.length c) l ∧ (∀ n ∈ l, i64 n) ∧ l.length ≤ maxLen := by
  have hform : ∃ a n c, v = .slice a n c := by
    rcases DataW.trod_slice Try.underlying51 h with ⟨h, _⟩ | ⟨a, len, cap, _, _, _, _, h, _⟩
    · simp only [List.cons.injEq, and_true] at h; exact ⟨_, _, _, h⟩
    · simp only [List.cons.injEq, and_true] at h; exact ⟨_, _, _, h⟩
  obtain ⟨a, n, c, rfl⟩ := hform
  obtain ⟨hlc, hcm, xs, hxl, hxs, hnil, hcell⟩ := open_rows Try.underlying51 (sz := 1) (by kernel_rfl) (by omega) h
  obtain ⟨l, rfl, hb⟩ : ∃ l : List Int, xs = l.map (fun n : Int => [Value.int .i64 n]) ∧ ∀ n ∈ l, i64 n := by
    have key : ∀ ys : List (List Value), (∀ y ∈ ys, y ∈ xs) → ∃ l : List Int, ys = l.map (fun n : Int => [Value.int .i64 n]) ∧ ∀ n ∈ l, i64 n := by
      intro ys
      induction ys with
      | nil => intro _; exact ⟨[], rfl, by simp⟩
      | cons y ys ih =>
        intro hy
        obtain ⟨l, rfl, hl⟩ := ih fun z hz => hy z (by simp [hz])
        obtain ⟨_, fuel, q, hq⟩ := hxs y (hy y (by simp))
        obtain ⟨z, rfl, _, hw⟩ := DataW.trod_int Try.underlying3 hq
        refine ⟨z :: l, rfl, fun u hu => ?_⟩
        rw [List.mem_cons] at hu
        rcases hu with rfl | hu
        · exact i64_of hw
        · exact hl u hu
    exact key xs fun _ h => h
  have hn : l.length = n := by simpa using hxl
  subst hn
  have e : ∀ l : List Int, (l.map fun x : Int => [Value.int .i64 x]).flatten = iv l := fun l => by
    induction l with
    | nil => rfl
    | cons x l ih => rw [List.map_cons, List.flatten_cons, ih]; rfl
  rw [e] at hcell
  exact ⟨a, c, l, rfl, ⟨by simp [iv], a, c, rfl, hcell⟩, hb, Nat.le_trans hlc hcm⟩
set_option maxRecDepth 100000 in
theorem open_clauses {H : Type} {enc : TypeId × Value → H} {W : World} {fuel n c : Nat} {a : Option Addr} {x : DataW H × List MemPlace} (h : DataW.trod enc Try.prog W 0 (fun _ => true) true fuel 22 [.slice a n c] = some x) :
    ∃ l : List (List Int), l.length = n ∧ FormAt W a c l := by
  obtain ⟨hlc, hcm, xs, hxl, hxs, hnil, hcell⟩ := open_rows Try.underlying22 (sz := 1) (by kernel_rfl) (by omega) h
  have hm : maxLen ≤ 9223372036854775807 := by decide
  obtain ⟨l, vs, hlen, rfl, hr, hb⟩ : ∃ (l : List (List Int)) (vs : List Value), l.length = vs.length ∧ xs = vs.map (fun p => [p]) ∧ (∀ (i : Nat) (x : List Int), l[i]? = some x → ∃ u, vs[i]? = some u ∧ IntsAt W u x) ∧ ∀ r ∈ l, r.length ≤ maxLen := by
    have key : ∀ ys : List (List Value), (∀ y ∈ ys, y ∈ xs) → ∃ (l : List (List Int)) (vs : List Value), l.length = vs.length ∧ ys = vs.map (fun p => [p]) ∧ (∀ (i : Nat) (x : List Int), l[i]? = some x → ∃ u, vs[i]? = some u ∧ IntsAt W u x) ∧ ∀ r ∈ l, r.length ≤ maxLen := by
      intro ys
      induction ys with
      | nil => intro _; exact ⟨[], [], rfl, rfl, by simp, by simp⟩
      | cons y ys ih =>
        intro hy
        obtain ⟨l, vs, hlen, rfl, hr, hl⟩ := ih fun z hz => hy z (by simp [hz])
        obtain ⟨hy1, fuel, q, hq⟩ := hxs y (hy y (by simp))
        obtain ⟨u, rfl⟩ := List.length_eq_one_iff.1 hy1
        obtain ⟨ua, uc, p, rfl, h1, _, h3⟩ := open_ints1 hq
        refine ⟨p :: l, .slice ua p.length uc :: vs, by simp [hlen], by simp, fun i x hi => ?_, fun z hz => ?_⟩
        · cases i with
          | zero =>
            simp at hi
            subst hi
            exact ⟨_, rfl, h1⟩
          | succ i =>
            obtain ⟨u', hu', hr'⟩ := hr i x (by simpa using hi)
            exact ⟨u', by simpa using hu', hr'⟩
        · rw [List.mem_cons] at hz
          rcases hz with rfl | hz
          · exact h3
          · exact hl z hz
    exact key xs fun _ h => h
  have hn : l.length = n := by
    rw [← hxl, List.length_map]
    exact hlen
  subst hn
  have e : ∀ l : List Value, (l.map fun x => [x]).flatten = l := fun l => by
    induction l with
    | nil => rfl
    | cons x l ih => rw [List.map_cons, List.flatten_cons, ih]; rfl
  rw [e] at hcell
  exact ⟨l, rfl, ⟨vs, ⟨by rw [← hlen, Nat.mul_one], a, c, rfl, hcell⟩, hr⟩, by omega, fun r hr => Nat.le_trans (hb r hr) hm⟩
set_option maxRecDepth 100000 in
theorem open_formula {H : Type} {enc : TypeId × Value → H} {W : World} {base : Nat} {v : Value} {d : DataW H} {ps : List MemPlace} (hval : Value.okWide Try.prog W .any base 24 v)
    (h : DataW.Trod enc Try.prog W 0 (fun _ => true) true 24 v d ps) :
    ∃ (V : Int) (a : Option Addr) (c : Nat) (cs : List (List Int)), v = .agg #[.int .i64 V, .slice a cs.length c] ∧ FormAt W a c cs ∧ i64 V := by
  obtain ⟨cs, rfl, hsz⟩ := okWide_struct Try.underlying24 hval
  have hs3 : cs.size = 2 := hsz.trans (by kernel_rfl)
  obtain ⟨fuel, hf⟩ := h
  obtain ⟨xs, n, rfl, _, _, hn, hf⟩ := DataW.trod_struct Try.underlying24 hf
  obtain ⟨c0, c1, rfl⟩ : ∃ c0 c1, cs = #[c0, c1] := ⟨cs[0], cs[1], by apply Array.ext <;> simp [hs3]; intro i hi; match i, hi with | 0, _ => intro _; rfl | 1, _ => intro _; rfl⟩
  have e1 : Try.prog.cellsOf 3 = 1 := by kernel_rfl
  have e2 : Try.prog.cellsOf 22 = 1 := by kernel_rfl
  have hx3 : xs.length = 2 := hn
  have h0 := hf 0 _ rfl
  have h1 := hf 1 _ rfl
  rw [List.getElem?_eq_getElem (by omega)] at h0 h1
  change DataW.trod enc Try.prog W 0 (fun _ => true) true n 3 (([c0, c1].drop 0).take (Try.prog.cellsOf 3)) = some _ at h0
  change DataW.trod enc Try.prog W 0 (fun _ => true) true n 22 (([c0, c1].drop 1).take (Try.prog.cellsOf 22)) = some _ at h1
  rw [e1] at h0
  rw [e2] at h1
  simp only [List.drop_zero, List.drop_succ_cons, List.take_succ_cons, List.take_zero] at h0 h1
  obtain ⟨s, hs, _, ws⟩ := DataW.trod_int Try.underlying3 h0
  simp only [List.cons.injEq, and_true] at hs
  subst hs
  have hf1 : ∃ a n c, c1 = .slice a n c := by
    rcases DataW.trod_slice Try.underlying22 h1 with ⟨h, _⟩ | ⟨a, len, cap, _, _, _, _, h, _⟩
    · simp only [List.cons.injEq, and_true] at h; exact ⟨_, _, _, h⟩
    · simp only [List.cons.injEq, and_true] at h; exact ⟨_, _, _, h⟩
  obtain ⟨a1, n1, k1, rfl⟩ := hf1
  obtain ⟨l, rfl, hl⟩ := open_clauses h1
  exact ⟨s, a1, k1, l, rfl, hl, i64_of ws⟩
set_option maxRecDepth 100000 in
theorem open_bools {H : Type} {enc : TypeId × Value → H} {W : World} {base : Nat} {v : Value} {d : DataW H} {ps : List MemPlace} (hval : Value.okWide Try.prog W .any base 25 v)
    (h : DataW.Trod enc Try.prog W 0 (fun _ => true) true 25 v d ps) :
    ∃ (a : Option Addr) (c : Nat) (l : List Bool), v = .slice a l.length c ∧ BoolsAt W (.slice a l.length c) l ∧ l.length ≤ c := by
  obtain ⟨a, n, c, rfl⟩ := okWide_slice Try.underlying25 hval
  obtain ⟨fuel, hf⟩ := h
  obtain ⟨hlc, _, xs, hxl, hxs, _, hcell⟩ := open_rows Try.underlying25 (sz := 1) (by kernel_rfl) (by omega) hf
  obtain ⟨l, rfl⟩ := map_of_all (f := fun x : Bool => [Value.bool x]) fun x hx => by
    obtain ⟨_, fuel, y, hy⟩ := hxs x hx
    obtain ⟨z, hz, _⟩ := DataW.trod_bool Try.underlying4 hy
    exact ⟨z, hz⟩
  obtain rfl : l.length = n := by simpa using hxl
  have e : ∀ l : List Bool, (l.map fun x : Bool => [Value.bool x]).flatten = bv l := fun l => by
    induction l with
    | nil => rfl
    | cons x l ih => rw [List.map_cons, List.flatten_cons, ih]; rfl
  rw [e] at hcell
  exact ⟨a, c, l, rfl, ⟨by simp [bv], a, c, rfl, hcell⟩, hlc⟩
set_option maxRecDepth 100000 in
theorem open_int {H : Type} {enc : TypeId × Value → H} {W : World} {base : Nat} {v : Value} {d : DataW H} {ps : List MemPlace} (hval : Value.okWide Try.prog W .any base 3 v)
    (h : DataW.Trod enc Try.prog W 0 (fun _ => true) true 3 v d ps) : ∃ n : Int, v = .int .i64 n ∧ i64 n := by
  obtain ⟨m, rfl⟩ := okWide_int Try.underlying3 hval
  obtain ⟨fuel, hf⟩ := h
  change DataW.trod enc Try.prog W 0 (fun _ => true) true fuel 3 [.int .i64 m] = _ at hf
  obtain ⟨n, hs, _, ws⟩ := DataW.trod_int Try.underlying3 hf
  simp only [List.cons.injEq, and_true] at hs
  exact ⟨n, hs, i64_of ws⟩
set_option maxRecDepth 100000 in
theorem open_byte {H : Type} {enc : TypeId × Value → H} {W : World} {base : Nat} {v : Value} {d : DataW H} {ps : List MemPlace} (hval : Value.okWide Try.prog W .any base 5 v)
    (h : DataW.Trod enc Try.prog W 0 (fun _ => true) true 5 v d ps) : ∃ n : Nat, v = .int .u8 (n : Int) ∧ n < 256 := by
  obtain ⟨m, rfl⟩ := okWide_int Try.underlying5 hval
  obtain ⟨fuel, hf⟩ := h
  change DataW.trod enc Try.prog W 0 (fun _ => true) true fuel 5 [.int .u8 m] = _ at hf
  obtain ⟨n, hs, _, ws⟩ := DataW.trod_int Try.underlying5 hf
  simp only [List.cons.injEq, and_true] at hs
  have : 0 ≤ n ∧ n ≤ 255 := by simpa [Lit.wf, IntKind.min, IntKind.max, IntKind.signed, IntKind.bits] using ws
  exact ⟨n.toNat, by rw [hs, Int.toNat_of_nonneg this.1], by omega⟩
end Go.Proofs.Ytjidldfnlejdhaa
end
