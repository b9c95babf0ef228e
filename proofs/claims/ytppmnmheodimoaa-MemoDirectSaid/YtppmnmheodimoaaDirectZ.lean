/- MemoDirect: for a quiet rule of at most 400 nodes and a pattern of at most 60 cells, a step of the node of the pattern has the cells that direct evolution leads to, for the levels 2 to 5: the statement, proved. -/
import Derived.Test.YtppmnmheodimoaaRows
import Derived.ProofKit
import Derived.OpenShut
import Derived.Test.YtppmnmheodimoaaZD28
namespace Go.Proofs.Ytppmnmheodimoaa.MemoDirect
open Go Go.ChangeShapes Go.WideShapes Go.ChangeAt Go.RowKit Hp Lw
set_option linter.unusedVariables false
set_option linter.unusedSimpArgs false
theorem own:ownKnob Try.prog.godebug=none:=by kernel_rfl
theorem laidOut:laidOutB Try.prog=true:=by kernel_rfl
theorem shape (H:Type) (ds:List (DataW H)) (h:ds.length=3):Rows.memoDirectSpec.fn H ds={ results:=[.lit (.bool true)],args:=ds }:=by
 match ds,h with
 | [d,d',d''],_=>rfl
set_option maxRecDepth 100000 in
theorem lifted (os:Os) (started:os.Started) (H:Type) (enc:TypeId×Value→H) :
  ReturnsInHanded {} Try.checked os 6 .any (Rows.memoDirectSpec.pre6 enc Try.prog Try.f6 Rows.memoDirectRow.domain false) (Rows.memoDirectSpec.post enc Try.prog Try.f6 false true false false):=by
 refine returnsInHanded_of_change (C:=Try.checked) own started (by kernel_rfl) Try.func6
  (ChangeSpec.witness6 (enc:=enc) (C:=Try.checked) false ⟨#[],#[.agg #[.int .i64 0,.slice none 0 0,.slice none 0 0],.slice none 0 0,.agg #[.int .u8 0,.int .u8 0]],[]⟩ 8 (by kernel_rfl) (by kernel_rfl) (by kernel_rfl) (by kernel_rfl)) ?_
 intro W base args ds gs before hval0 hW _ _
 have hval:∀ (j:Nat) t v,Try.f6.params[j]?=some t→args[j]?=some v→Value.okWide Try.prog W .any base t v:=hval0
 have hW':=hW
 obtain⟨p,q,hA0,hV,rfl,hfz,hnd⟩:=hW
 have hA:DataW.TrodAll enc Try.prog W 0 (fun _=>true) true Try.f6.params.toList args.toList ds p:=hA0
 rw [Try.params6] at hA hval
 obtain⟨v0,v1,v2,d0,d1,d2,p0,p1,p2,rfl,rfl,rfl,h0,h1,h2⟩:=trodAll_three hA
 obtain⟨r,ha,na,hc,nc,rfl,hru,_⟩:=open_tree (hval 0 _ v0 rfl rfl) h0
 obtain⟨a,c,p,rfl,hp⟩:=open_pattern (hval 1 _ v1 rfl rfl) h1
 obtain⟨lv,kk,rfl,hlv,hkk⟩:=open_two8 (hval 2 _ v2 rfl rfl) h2
 refine (MemoDirect_calls hru hp ⟨hlv,hkk⟩).mono fun e W' ⟨he,hf⟩=>?_
 subst he
 exact⟨_,rfl,law_post laidOut (tb:=4) rfl rfl Try.underlying4 rfl (by kernel_rfl) (shape H) hW' hf⟩
theorem holds:Rows.MemoDirectSaid :=
 OpenClaim.holds_of_wide 6 Try.f6 rfl rfl rfl rfl rfl rfl rfl ⟨rfl,rfl,rfl,rfl,rfl⟩ rfl rfl rfl rfl rfl (by kernel_rfl) Try.func6 (by kernel_rfl)
  (of_decide_eq_true (by kernel_rfl)) (by unfold Func.isWrapper;first|(rw [if_pos (by decide +kernel)];kernel_rfl)|(rw [if_neg (by decide +kernel)];exact⟨rfl,rfl⟩))
  (fun os started H enc _=>lifted os started H enc)
end Go.Proofs.Ytppmnmheodimoaa.MemoDirect
