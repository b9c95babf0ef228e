/- UniverseNone: the calls of a nil universe return ErrNil and zero values, and do not panic, for all coordinates and numbers, and the example far away holds: the statement, proved. -/
import Derived.Test.YtebolidfbflkmaaGreatRows
import Derived.ProofKit
import Derived.OpenShut
import Derived.Test.YtebolidfbflkmaaGreatZN38
import Derived.Test.YtebolidfbflkmaaGreatZN37
namespace Go.Proofs.YtebolidfbflkmaaGreat.UniverseNone
open Go Go.ChangeShapes Go.WideShapes Go.ChangeAt Go.RowKit Hp Lw
set_option linter.unusedVariables false
set_option linter.unusedSimpArgs false
theorem own:ownKnob Tryz.prog.godebug=none:=by kernel_rfl
theorem laidOut:laidOutB Tryz.prog=true:=by kernel_rfl
theorem shape (H:Type) (ds:List (DataW H)) (h:ds.length=3):Rows.universeNoneSpec.fn H ds={ results:=[.lit (.bool true)],args:=ds }:=by
 match ds,h with
 | [d,d',d''],_=>rfl
set_option maxRecDepth 100000 in
theorem lifted (os:Os) (started:os.Started) (H:Type) (enc:TypeId×Value→H) :
  ReturnsInHanded {} Tryz.checked os 6 .any (Rows.universeNoneSpec.pre6 enc Tryz.prog Tryz.f6 Rows.universeNoneRow.domain false) (Rows.universeNoneSpec.post enc Tryz.prog Tryz.f6 false true false false):=by
 refine returnsInHanded_of_change (C:=Tryz.checked) own started (by kernel_rfl) Tryz.func6
  (ChangeSpec.witness6 (enc:=enc) (C:=Tryz.checked) false ⟨#[],#[.agg #[.bool false,.slice none 0 0],.agg #[.bool false,.slice none 0 0],.int .i64 0],[]⟩ 8 (by kernel_rfl) (by kernel_rfl) (by kernel_rfl) (by kernel_rfl)) ?_
 intro W base args ds gs before hval0 hW _ _
 have hval:∀ (j:Nat) t v,Tryz.f6.params[j]?=some t→args[j]?=some v→Value.okWide Tryz.prog W .any base t v:=hval0
 have hW':=hW
 obtain⟨p,q,hA0,hV,rfl,hfz,hnd⟩:=hW
 have hA:DataW.TrodAll enc Tryz.prog W 0 (fun _=>true) true Tryz.f6.params.toList args.toList ds p:=hA0
 rw [Tryz.params6] at hA hval
 obtain⟨v0,v1,v2,d0,d1,d2,p0,p1,p2,rfl,rfl,rfl,h0,h1,h2⟩:=trodAll_three hA
 obtain⟨xs,xa,xc,xl,rfl,_⟩:=open_big (hval 0 _ v0 rfl rfl) h0
 obtain⟨ys,ya,yc,yl,rfl,_⟩:=open_big (hval 1 _ v1 rfl rfl) h1
 obtain⟨s,rfl,rfl,rfl,ws⟩:=open_int Tryz.underlying3 (hval 2 _ v2 rfl rfl) h2
 refine (UniverseNone_calls xs ys xa ya xl.length xc yl.length yc s).mono fun e W' ⟨he,hf⟩=>?_
 subst he
 exact⟨_,rfl,law_post laidOut (tb:=4) rfl rfl Tryz.underlying4 rfl (by kernel_rfl) (shape H) hW' hf⟩
theorem holds:Rows.UniverseNoneSaid :=
 OpenClaim.holds_of_wide 6 Tryz.f6 rfl rfl rfl rfl rfl rfl rfl ⟨rfl,rfl,rfl,rfl,rfl⟩ rfl rfl rfl rfl rfl (by kernel_rfl) Tryz.func6 (by kernel_rfl)
  (of_decide_eq_true (by kernel_rfl)) (by unfold Func.isWrapper;first|(rw [if_pos (by decide +kernel)];kernel_rfl)|(rw [if_neg (by decide +kernel)];exact⟨rfl,rfl⟩))
  (fun os started H enc _=>lifted os started H enc)
end Go.Proofs.YtebolidfbflkmaaGreat.UniverseNone
