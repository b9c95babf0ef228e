/- RefuteChecks: Step and Check agree with the reference: the statement, proved. -/
import Derived.Test.YtbpaadpocihahaaRows
import Derived.ProofKit
import Derived.OpenShut
import Derived.Test.YtbpaadpocihahaaZM19
import Derived.Test.YtbpaadpocihahaaZM15
import Derived.Test.YtbpaadpocihahaaZM14
import Derived.Test.YtbpaadpocihahaaZM12
namespace Go.Proofs.Ytbpaadpocihahaa.RefuteChecks
open Go Go.ChangeShapes Go.WideShapes Go.ChangeAt Go.RowKit Go.Proofs.Hp Go.Proofs.Lw
set_option linter.unusedVariables false
set_option linter.unusedSimpArgs false
theorem own : ownKnob Try.prog.godebug = none := by kernel_rfl
theorem laidOut : laidOutB Try.prog = true := by kernel_rfl
theorem shape (H : Type) (ds : List (DataW H)) (h : ds.length = 3) : Rows.refuteChecksSpec.fn H ds = { results := [.lit (.bool true)], args := ds } := by
  match ds, h with
  | [d0, d1, d2], _ => rfl
set_option maxRecDepth 100000 in
theorem lifted (os : Os) (started : os.Started) (H : Type) (enc : TypeId × Value → H) :
    ReturnsInHanded {} Try.checked os 3 .any (Rows.refuteChecksSpec.pre6 enc Try.prog Try.f3 Rows.refuteChecksRow.domain false) (Rows.refuteChecksSpec.post enc Try.prog Try.f3 false true false false) := by
  refine returnsInHanded_of_change (C := Try.checked) own started (by kernel_rfl) Try.func3
    (ChangeSpec.witness6 (enc := enc) (C := Try.checked) false ⟨#[], #[.agg #[.int .i64 0, .slice none 0 0], .slice none 0 0, .slice none 0 0], []⟩ 8 (by kernel_rfl) (by kernel_rfl) (by kernel_rfl) (by kernel_rfl)) ?_
  intro W base args ds gs before hval0 hW _ _
  have hval : ∀ (j : Nat) t v, Try.f3.params[j]? = some t → args[j]? = some v → Value.okWide Try.prog W .any base t v := hval0
  have hW' := hW
  obtain ⟨p, q, hA0, hV, rfl, hfz, hnd⟩ := hW
  have hA : DataW.TrodAll enc Try.prog W 0 (fun _ => true) true Try.f3.params.toList args.toList ds p := hA0
  rw [Try.params3] at hA hval
  obtain ⟨v0, v1, v2, d0, d1, d2, p0, p1, p2, rfl, rfl, rfl, h0, h1, h2⟩ := trodAll_three hA
  obtain ⟨V, a, c, cs, rfl, hf0, hac, hcc⟩ := open_formula2 (hval 0 _ v0 rfl rfl) h0
  obtain ⟨ca, cc, r, rfl, hr, _, _, _, hw⟩ := open_clause (hval 1 _ v1 rfl rfl) h1
  obtain ⟨pa, pc, p, rfl, hp, hpa, hpc⟩ := open_proof2 (hval 2 _ v2 rfl rfl) h2
  refine (RefuteChecks_calls awake_calls hf0 hac hr hw hp hpa hpc).mono fun e W' ⟨he, hf⟩ => ?_
  subst he
  exact ⟨_, rfl, law_post laidOut (tb := 4) rfl rfl Try.underlying4 rfl (by kernel_rfl) (shape H) hW' hf⟩
theorem holds : Rows.RefuteChecksSaid :=
  OpenClaim.holds_of_wide 3 Try.f3 rfl rfl rfl rfl rfl rfl rfl ⟨rfl, rfl, rfl, rfl, rfl⟩ rfl rfl rfl rfl rfl (by kernel_rfl) Try.func3 (by kernel_rfl)
    (of_decide_eq_true (by kernel_rfl)) (by unfold Func.isWrapper; first | (rw [if_pos (by decide +kernel)]; kernel_rfl) | (rw [if_neg (by decide +kernel)]; exact ⟨rfl, rfl⟩))
    (fun os started H enc _ => lifted os started H enc)
end Go.Proofs.Ytbpaadpocihahaa.RefuteChecks
