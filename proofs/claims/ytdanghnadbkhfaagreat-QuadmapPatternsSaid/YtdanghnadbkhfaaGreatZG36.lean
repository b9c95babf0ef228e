/- Own texts of this claim, part 37: no condition. -/
import Derived.Test.YtdanghnadbkhfaaGreatZG7
import Derived.Test.YtdanghnadbkhfaaGreatZG35
set_option linter.unusedVariables false
set_option linter.unusedSimpArgs false
section
namespace Go.Proofs.YtdanghnadbkhfaaGreat
open Go Go.ChangeShapes Go.WideShapes Go.ChangeAt Go.RowKit Hp Lw Bn
end Go.Proofs.YtdanghnadbkhfaaGreat
end
section
namespace Go.Proofs.YtdanghnadbkhfaaGreat
open Go Go.ChangeShapes Go.WideShapes Go.ChangeAt Go.RowKit Hp Lw
set_option maxRecDepth 100000
theorem okWide_arr {P:Program} {w:World} {r:Reach} {base:Nat} {t:TypeId} {v:Value} {n:Nat} {e:TypeId} (ht:P.underlying t=some (.array n e)) (h:Value.okWide P w r base t v):∃ cs,v=.agg cs∧cs.size=P.cellsOf t:=by
 simp only [Value.okWide,ht] at h
 obtain⟨cs,h1,h2,_⟩:=h
 exact⟨cs,h1,h2⟩
theorem open_corner {H:Type} {enc:TypeId×Value→H} {W:World} {base:Nat} {v:Value} {d:DataW H} {ps:List MemPlace} (hval:Value.okWide Tryz.prog W .any base 49 v)
  (h:DataW.Trod enc Tryz.prog W 0 (fun _=>true) true 49 v d ps) :
  ∃ x y:Int,v=.agg #[.int .i64 x,.int .i64 y]∧I64 x∧I64 y:=by
 obtain⟨cs,rfl,hsz⟩:=okWide_arr Tryz.underlying49 hval
 have hs2:cs.size=2:=hsz.trans (by kernel_rfl)
 obtain⟨fuel,hf⟩:=h
 obtain⟨xs,n,rfl,_,_,hn,hf⟩:=DataW.trod_array Tryz.underlying49 hf
 obtain⟨c0,c1,rfl⟩:∃ c0 c1,cs=#[c0,c1]:=⟨cs[0],cs[1],by apply Array.ext<;>simp [hs2];intro i hi;match i,hi with|0,_=>intro _;rfl|1,_=>intro _;rfl⟩
 have k1:Tryz.prog.cellsOf 3=1:=by kernel_rfl
 have hx2:xs.length=2:=hn
 rw [k1] at hf
 have h0:=hf 0 (by omega)
 have h1:=hf 1 (by omega)
 rw [List.getElem?_eq_getElem (by omega)] at h0 h1
 change DataW.trod enc Tryz.prog W 0 (fun _=>true) true n 3 (([c0,c1].drop 0).take 1)=some _ at h0
 change DataW.trod enc Tryz.prog W 0 (fun _=>true) true n 3 (([c0,c1].drop 1).take 1)=some _ at h1
 simp only [List.drop_zero,List.drop_succ_cons,List.take_succ_cons,List.take_zero] at h0 h1
 obtain⟨a,ha,_,wa⟩:=DataW.trod_int Tryz.underlying3 h0
 obtain⟨b,hb,_,wb⟩:=DataW.trod_int Tryz.underlying3 h1
 simp only [List.cons.injEq,and_true] at ha hb
 subst ha hb
 refine⟨a,b,rfl,?_,?_⟩
 ·have:-9223372036854775808≤a∧a≤9223372036854775807:=by simpa [Lit.wf,IntKind.min,IntKind.max,IntKind.signed,IntKind.bits] using wa
  exact⟨this.1,by omega⟩
 ·have:-9223372036854775808≤b∧b≤9223372036854775807:=by simpa [Lit.wf,IntKind.min,IntKind.max,IntKind.signed,IntKind.bits] using wb
  exact⟨this.1,by omega⟩
end Go.Proofs.YtdanghnadbkhfaaGreat
end
