/- UniverseDirect: for a rule of at most 400 nodes and a pattern of at most 60 cells within 8 of the origin, put anywhere, at most 10 generations of the universe are those of direct evolution, moved as it was put, and the example far away holds: the statement, proved. -/
import Derived.Test.YtebolidfbflkmaaGreatZF1
set_option linter.unusedVariables false
set_option linter.unusedSimpArgs false
namespace Go.Proofs.YtebolidfbflkmaaGreat.UniverseDirect
open Go Go.ChangeShapes Go.WideShapes Go.ChangeAt Go.RowKit Hp Lw
theorem own:ownKnob Tryz.prog.godebug=none:=by kernel_rfl
theorem laidOut:laidOutB Tryz.prog=true:=by kernel_rfl
theorem shape (H:Type) (ds:List (DataW H)) (h:ds.length=3):Rows.universeDirectSpec.fn H ds={ results:=[.lit (.bool true)],args:=ds }:=by
 match ds,h with
 | [d,d',d''],_=>rfl
set_option maxRecDepth 100000 in
theorem lifted (os:Os) (started:os.Started) (H:Type) (enc:TypeId×Value→H) :
  ReturnsInHanded {} Tryz.checked os 3 .any (Rows.universeDirectSpec.pre6 enc Tryz.prog Tryz.f3 Rows.universeDirectRow.domain false) (Rows.universeDirectSpec.post enc Tryz.prog Tryz.f3 false true false false):=by
 refine returnsInHanded_of_change (C:=Tryz.checked) own started (by kernel_rfl) Tryz.func3
  (ChangeSpec.witness6 (enc:=enc) (C:=Tryz.checked) false ⟨#[],#[.agg #[.int .i64 0,.slice none 0 0,.slice none 0 0],.slice none 0 0,.agg #[.int .i64 0,.int .i64 0,.int .i64 0,.int .i64 0,.bool false,.slice none 0 0,.bool false,.slice none 0 0,.bool false,.slice none 0 0,.slice none 0 0]],[]⟩ 8 (by kernel_rfl) (by kernel_rfl) (by kernel_rfl) (by kernel_rfl)) ?_
 intro W base args ds gs before hval0 hW _ _
 have hval:∀ (j:Nat) t v,Tryz.f3.params[j]?=some t→args[j]?=some v→Value.okWide Tryz.prog W .any base t v:=hval0
 have hW':=hW
 obtain⟨p,q,hA0,hV,rfl,hfz,hnd⟩:=hW
 have hA:DataW.TrodAll enc Tryz.prog W 0 (fun _=>true) true Tryz.f3.params.toList args.toList ds p:=hA0
 rw [Tryz.params3] at hA hval
 obtain⟨v0,v1,v2,d0,d1,d2,p0,p1,p2,rfl,rfl,rfl,h0,h1,h2⟩:=trodAll_three hA
 obtain⟨r,ha,na,hc,nc,rfl,hru⟩:=open_tr (hval 0 _ v0 rfl rfl) h0
 obtain⟨a,c,p,rfl,hp⟩:=open_pattern (hval 1 _ v1 rfl rfl) h1
 obtain⟨k0,k1,k2,k3,kz,xs,ys,zs,xa,ya,za,xc,yc,zc,xl,yl,zl,rfl,bx,by',bz⟩:=open_op (hval 2 _ v2 rfl rfl) h2
 refine (UniverseDirect_calls hru hp bx by' bz).mono fun e W' ⟨he,hf⟩=>?_
 subst he
 exact⟨_,rfl,law_post laidOut (tb:=4) rfl rfl Tryz.underlying4 rfl (by kernel_rfl) (shape H) hW' hf⟩
theorem holds:Rows.UniverseDirectSaid :=
 OpenClaim.holds_of_wide 3 Tryz.f3 rfl rfl rfl rfl rfl rfl rfl ⟨rfl,rfl,rfl,rfl,rfl⟩ rfl rfl rfl rfl rfl (by kernel_rfl) Tryz.func3 (by kernel_rfl)
  (of_decide_eq_true (by kernel_rfl)) (by unfold Func.isWrapper;first|(rw [if_pos (by decide +kernel)];kernel_rfl)|(rw [if_neg (by decide +kernel)];exact⟨rfl,rfl⟩))
  (fun os started H enc _=>lifted os started H enc)
end Go.Proofs.YtebolidfbflkmaaGreat.UniverseDirect

