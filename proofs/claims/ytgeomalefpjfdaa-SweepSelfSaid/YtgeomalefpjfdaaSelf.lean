/- SweepSelf: copying within a store returns the number itself, and nil stores are ErrNil, for all stores of at most 200 nodes: the statement, proved. -/
import Derived.Test.YtgeomalefpjfdaaRows
import Derived.Test.YtgeomalefpjfdaaYe
import Derived.Test.YtgeomalefpjfdaaOs
import Derived.Test.YtgeomalefpjfdaaLw
import Derived.ProofKit
import Derived.OpenShut
namespace Go.Proofs.Ytgeomalefpjfdaa.SweepSelf
open Go Go.ChangeShapes Go.WideShapes Go.ChangeAt Go.RowKit Go.Proofs.Hp Go.Proofs.Lw
set_option linter.unusedVariables false
theorem own : ownKnob Try.prog.godebug = none := by kernel_rfl
theorem laidOut : laidOutB Try.prog = true := by kernel_rfl
theorem shape (H : Type) (ds : List (DataW H)) (h : ds.length = 2) : Rows.sweepSelfSpec.fn H ds = { results := [.lit (.bool true)], args := ds } := by
  match ds, h with
  | [d, d'], _ => rfl
set_option maxRecDepth 100000 in
theorem lifted (os : Os) (started : os.Started) (H : Type) (enc : TypeId × Value → H) :
    ReturnsInHanded {} Try.checked os 8 .any (Rows.sweepSelfSpec.pre6 enc Try.prog Try.f8 Rows.sweepSelfRow.domain false) (Rows.sweepSelfSpec.post enc Try.prog Try.f8 false true false false) := by
  refine returnsInHanded_of_change (C := Try.checked) own started (by kernel_rfl) Try.func8
    (ChangeSpec.witness6 (enc := enc) (C := Try.checked) false ⟨#[], #[.agg #[.int .i64 0, .slice none 0 0], .int .i64 0], []⟩ 8 (by kernel_rfl) (by kernel_rfl) (by kernel_rfl) (by kernel_rfl)) ?_
  intro W base args ds gs before hval0 hW _ _
  have hval : ∀ (j : Nat) t v, Try.f8.params[j]? = some t → args[j]? = some v → Value.okWide Try.prog W .any base t v := hval0
  have hW' := hW
  obtain ⟨p, q, hA0, hV, rfl, hfz, hnd⟩ := hW
  have hA : DataW.TrodAll enc Try.prog W 0 (fun _ => true) true Try.f8.params.toList args.toList ds p := hA0
  rw [Try.params8] at hA hval
  obtain ⟨v0, v1, d0, d1, p0, p1, rfl, rfl, rfl, h0, h1⟩ := trodAll_two hA
  obtain ⟨s, a, c, ns, rfl, hq, _⟩ := open_quads (hval 0 _ v0 rfl rfl) h0
  obtain ⟨id, rfl, rfl, rfl, _⟩ := open_int Try.underlying3 (hval 1 _ v1 rfl rfl) h1
  refine (SweepSelf_calls hq id).mono fun e W' ⟨he, hf⟩ => ?_
  subst he
  exact ⟨_, rfl, law_post laidOut (tb := 4) rfl rfl Try.underlying4 rfl (by kernel_rfl) (shape H) hW' hf⟩
theorem holds : Rows.SweepSelfSaid :=
  OpenClaim.holds_of_wide 8 Try.f8 rfl rfl rfl rfl rfl rfl rfl ⟨rfl, rfl, rfl, rfl, rfl⟩ rfl rfl rfl rfl rfl (by kernel_rfl) Try.func8 (by kernel_rfl)
    (of_decide_eq_true (by kernel_rfl)) (by unfold Func.isWrapper; first | (rw [if_pos (by decide +kernel)]; kernel_rfl) | (rw [if_neg (by decide +kernel)]; exact ⟨rfl, rfl⟩))
    (fun os started H enc _ => lifted os started H enc)
end Go.Proofs.Ytgeomalefpjfdaa.SweepSelf
