/- RefuteTrims: Trim and Core agree with the reference: the statement, proved. -/
import Derived.Test.YtbpaadpocihahaaRows
import Derived.ProofKit
import Derived.OpenShut
import Derived.Test.YtbpaadpocihahaaZM17
import Derived.Test.YtbpaadpocihahaaZM15
import Derived.Test.YtbpaadpocihahaaZM14
import Derived.Test.YtbpaadpocihahaaZM12
namespace Go.Proofs.Ytbpaadpocihahaa.RefuteTrims
open Go Go.ChangeShapes Go.WideShapes Go.ChangeAt Go.RowKit Go.Proofs.Hp Go.Proofs.Lw
set_option linter.unusedVariables false
set_option linter.unusedSimpArgs false
theorem own : ownKnob Try.prog.godebug = none := by kernel_rfl
theorem laidOut : laidOutB Try.prog = true := by kernel_rfl
theorem shape (H : Type) (ds : List (DataW H)) (h : ds.length = 2) : Rows.refuteTrimsSpec.fn H ds = { results := [.lit (.bool true)], args := ds } := by
  match ds, h with
  | [d0, d1], _ => rfl
set_option maxRecDepth 100000 in
theorem lifted (os : Os) (started : os.Started) (H : Type) (enc : TypeId × Value → H) :
    ReturnsInHanded {} Try.checked os 4 .any (Rows.refuteTrimsSpec.pre6 enc Try.prog Try.f4 Rows.refuteTrimsRow.domain false) (Rows.refuteTrimsSpec.post enc Try.prog Try.f4 false true false false) := by
  refine returnsInHanded_of_change (C := Try.checked) own started (by kernel_rfl) Try.func4
    (ChangeSpec.witness6 (enc := enc) (C := Try.checked) false ⟨#[], #[.agg #[.int .i64 0, .slice none 0 0], .slice none 0 0], []⟩ 8 (by kernel_rfl) (by kernel_rfl) (by kernel_rfl) (by kernel_rfl)) ?_
  intro W base args ds gs before hval0 hW _ _
  have hval : ∀ (j : Nat) t v, Try.f4.params[j]? = some t → args[j]? = some v → Value.okWide Try.prog W .any base t v := hval0
  have hW' := hW
  obtain ⟨p, q, hA0, hV, rfl, hfz, hnd⟩ := hW
  have hA : DataW.TrodAll enc Try.prog W 0 (fun _ => true) true Try.f4.params.toList args.toList ds p := hA0
  rw [Try.params4] at hA hval
  obtain ⟨v0, v1, d0, d1, p0, p1, rfl, rfl, rfl, h0, h1⟩ := trodAll_two hA
  obtain ⟨V, a, c, cs, rfl, hf0, hac, hcc⟩ := open_formula2 (hval 0 _ v0 rfl rfl) h0
  obtain ⟨pa, pc, p, rfl, hp, hpa, hpc⟩ := open_proof2 (hval 1 _ v1 rfl rfl) h1
  refine (RefuteTrims_calls awake_calls hf0 hac hp hpa hpc).mono fun e W' ⟨he, hf⟩ => ?_
  subst he
  exact ⟨_, rfl, law_post laidOut (tb := 4) rfl rfl Try.underlying4 rfl (by kernel_rfl) (shape H) hW' hf⟩
theorem holds : Rows.RefuteTrimsSaid :=
  OpenClaim.holds_of_wide 4 Try.f4 rfl rfl rfl rfl rfl rfl rfl ⟨rfl, rfl, rfl, rfl, rfl⟩ rfl rfl rfl rfl rfl (by kernel_rfl) Try.func4 (by kernel_rfl)
    (of_decide_eq_true (by kernel_rfl)) (by unfold Func.isWrapper; first | (rw [if_pos (by decide +kernel)]; kernel_rfl) | (rw [if_neg (by decide +kernel)]; exact ⟨rfl, rfl⟩))
    (fun os started H enc _ => lifted os started H enc)
end Go.Proofs.Ytbpaadpocihahaa.RefuteTrims
