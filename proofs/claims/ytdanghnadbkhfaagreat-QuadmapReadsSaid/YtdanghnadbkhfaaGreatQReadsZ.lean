/- QuadmapReads: a cell, the number of cells and the frame of a node, in the program and in the reference: the statement, proved. -/
import Derived.Test.YtdanghnadbkhfaaGreatRows
import Derived.ProofKit
import Derived.OpenShut
import Derived.Test.YtdanghnadbkhfaaGreatZR31
namespace Go.Proofs.YtdanghnadbkhfaaGreat.QuadmapReads
open Go Go.ChangeShapes Go.WideShapes Go.ChangeAt Go.RowKit Hp Lw
set_option linter.unusedVariables false
set_option linter.unusedSimpArgs false
theorem own:ownKnob Tryz.prog.godebug=none:=by kernel_rfl
theorem laidOut:laidOutB Tryz.prog=true:=by kernel_rfl
theorem shape (H:Type) (ds:List (DataW H)) (h:ds.length=1):Rows.quadmapReadsSpec.fn H ds={ results:=[.lit (.bool true)],args:=ds }:=by
 match ds,h with
 | [d],_=>rfl
set_option maxRecDepth 100000 in
theorem lifted (os:Os) (started:os.Started) (H:Type) (enc:TypeId×Value→H) :
  ReturnsInHanded {} Tryz.checked os 3 .any (Rows.quadmapReadsSpec.pre6 enc Tryz.prog Tryz.f3 Rows.quadmapReadsRow.domain false) (Rows.quadmapReadsSpec.post enc Tryz.prog Tryz.f3 false true false false):=by
 refine returnsInHanded_of_change (C:=Tryz.checked) own started (by kernel_rfl) Tryz.func3
  (ChangeSpec.witness6 (enc:=enc) (C:=Tryz.checked) false ⟨#[],#[.agg #[.int .i64 0,.slice none 0 0,.int .i64 0,.bool false,.slice none 0 0,.bool false,.slice none 0 0,.int .i64 0]],[]⟩ 8 (by kernel_rfl) (by kernel_rfl) (by kernel_rfl) (by kernel_rfl)) ?_
 intro W base args ds gs before hval0 hW _ _
 have hval:∀ (j:Nat) t v,Tryz.f3.params[j]?=some t→args[j]?=some v→Value.okWide Tryz.prog W .any base t v:=hval0
 have hW':=hW
 obtain⟨p,q,hA0,hV,rfl,hfz,hnd⟩:=hW
 have hA:DataW.TrodAll enc Tryz.prog W 0 (fun _=>true) true Tryz.f3.params.toList args.toList ds p:=hA0
 rw [Tryz.params3] at hA hval
 obtain⟨v0,d0,rfl,rfl,h0⟩:=trodAll_one hA
 obtain⟨s,a,c,ns,node,nx,ax,cx,dx,ny,ay,cy,dy,st,rfl,hr,hx,hy⟩:=open_square (hval 0 _ v0 rfl rfl) h0
 refine (QuadmapReads_calls hr node st hx hy).mono fun e W' ⟨he,hf⟩=>?_
 subst he
 exact⟨_,rfl,law_post laidOut (tb:=4) rfl rfl Tryz.underlying4 rfl (by kernel_rfl) (shape H) hW' hf⟩
theorem holds:Rows.QuadmapReadsSaid :=
 OpenClaim.holds_of_wide 3 Tryz.f3 rfl rfl rfl rfl rfl rfl rfl ⟨rfl,rfl,rfl,rfl,rfl⟩ rfl rfl rfl rfl rfl (by kernel_rfl) Tryz.func3 (by kernel_rfl)
  (of_decide_eq_true (by kernel_rfl)) (by unfold Func.isWrapper;first|(rw [if_pos (by decide +kernel)];kernel_rfl)|(rw [if_neg (by decide +kernel)];exact⟨rfl,rfl⟩))
  (fun os started H enc _=>lifted os started H enc)
end Go.Proofs.YtdanghnadbkhfaaGreat.QuadmapReads
