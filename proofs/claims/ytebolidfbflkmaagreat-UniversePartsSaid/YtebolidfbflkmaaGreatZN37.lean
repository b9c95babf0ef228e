/- Own texts of this claim, part 38: no condition. -/
import Derived.ProofKit
import Derived.OpenShut
import Derived.Deep.Slices
import Derived.Test.YtebolidfbflkmaaGreatZN3
import Derived.Test.YtebolidfbflkmaaGreatZN4
set_option linter.unusedVariables false
set_option linter.unusedSimpArgs false
set_option maxRecDepth 100000
section
namespace Go.Proofs.Lw
open Go Go.ChangeShapes Go.WideShapes Go.ChangeAt Go.RowKit Hp
theorem args_stay {H:Type} {enc:TypeId×Value→H} {P:Program} (hl:laidOutB P=true) {W W':World} (hb:Below W.heap.size W W') :
  ∀ {ts:List TypeId} {vs:List Value} {ds:List (DataW H)} {ps:List MemPlace},ts.all (fun t=>P.readableRec t && decide (t<P.types.size))=true→DataW.TrodAll enc P W 0 (fun _=>true) true ts vs ds ps →
   (∀ x∈ps,x.block<W.heap.size)→DataW.TrodAll enc P W' 0 (fun b=>decide (b<W.heap.size)) true ts vs ds ps:=by
 intro ts
 induction ts with
 | nil=>intro vs ds ps _ h _;obtain⟨rfl,rfl,rfl⟩:=trodAll_nil h;exact trodAll_mk0
 | cons t ts ih =>intro vs ds ps hok h hlt;obtain⟨v,vs1,d,ds1,p,q,rfl,rfl,rfl,h1,h2⟩:=trodAll_cons h;simp only [List.all_cons,Bool.and_eq_true,decide_eq_true_eq] at hok;exact trodAll_cons_mk (Below.trod hl hok.1.1 hok.1.2 h1 hb fun x hx=>hlt x (List.mem_append_left _ hx)) (ih (by simpa only [List.all_eq_true,Bool.and_eq_true,decide_eq_true_eq] using hok.2) h2 fun x hx=>hlt x (List.mem_append_right _ hx))
theorem law_post {H:Type} {enc:TypeId×Value→H} {P:Program} (hl:laidOutB P=true) {f:Func} {s:ChangeSpec} {ts:List TypeId} {tb:TypeId} (hf:f.params.toList=ts) (hr:f.resultTypes=#[tb])
  (hb:P.underlying tb=some .bool) (hv:s.vars=[]) (hok:ts.all (fun t=>P.readableRec t && decide (t<P.types.size))=true)
  (hfn:∀ ds:List (DataW H),ds.length=ts.length→s.fn H ds={ results:=[.lit (.bool true)],args:=ds }) {W W':World} {args:Array Value} {ds gs:List (DataW H)} {before:List MemPlace}
  (hW:DataW.Whole enc P f.params.toList s.vars false W args.toList ds gs before) (hB:Fr [] W W'):s.post enc P f false true false false W args (.bool true) W':=by
 have hW':=hW;obtain⟨p,q,hA,hV,rfl,hfz,hnd⟩:=hW;rw [hf] at hA;rw [hv] at hV;obtain⟨rfl,rfl⟩:=trodVars_none hV;have hlen:∀ {ts:List TypeId} {vs:List Value} {ds:List (DataW H)} {ps:List MemPlace},DataW.TrodAll enc P W 0 (fun _=>true) true ts vs ds ps→ds.length=ts.length:=by
  intro ts
  induction ts with
  | nil=>intro vs ds ps h;obtain⟨rfl,rfl,rfl⟩:=trodAll_nil h;rfl
  | cons t ts ih=>intro vs ds ps h;obtain⟨v,vs1,d,ds1,p,q,rfl,rfl,rfl,h1,h2⟩:=trodAll_cons h;simp [ih h2]
 have e:=hfn (ds++[]) (by simpa using hlen hA);refine⟨ds,[],p++[],[],p,[],hW',?_,?_,?_,hB.below.frame _ |> World.keptBut_mono (w:=W) (w':=W') (fun x hx=>hx),fun h=>by cases h⟩;·
  rw [e,hr];exact trodAll_mk1 (shut_bool hb true)
 ·rw [e,hf,List.append_nil];exact args_stay hl hB.below hok hA fun x hx=>by simpa using hW'.lt x (by simpa using hx)
 ·rw [e,hv];exact rfl
theorem open_rows {H:Type} {enc:TypeId×Value→H} {P:Program} {W:World} {t e:TypeId} {sz fuel n c:Nat} {a:Option Addr} {x:DataW H×List MemPlace} (ht:P.underlying t=some (.slice e)) (hsz:P.cellsOf e=sz) (hpos:0<sz)
  (h:DataW.trod enc P W 0 (fun _=>true) true fuel t [.slice a n c]=some x) :
  n≤c∧c≤maxLen∧∃ xs:List (List Value),xs.length=n∧(∀ cs'∈xs,cs'.length=sz∧∃ fuel y,DataW.trod enc P W 0 (fun _=>true) true fuel e cs'=some y) ∧
   (a=none→n=0∧c=0)∧(0<n→∃ g off,a=some ⟨g,off,none⟩∧g<W.heap.size∧∀ j u,xs.flatten[j]?=some u→W.cell? ⟨g,off+j,none⟩=some u):=by
 rcases Go.Deep.open_slice ht h with ⟨h0,_⟩|⟨ad,len,cap,m,k,D,Pl,hcs,_,hlc,hcm,hm,_,hx⟩
 ·simp only [List.cons.injEq,Value.slice.injEq,and_true] at h0;obtain⟨rfl,rfl,rfl⟩:=h0;exact⟨Nat.le_refl _,Nat.zero_le _,[],rfl,i_,i_,o_⟩
 ·simp only [List.cons.injEq,Value.slice.injEq,and_true] at hcs;obtain⟨rfl,rfl,rfl⟩:=hcs;simp only [if_true] at hm;subst hm;rw [hsz] at hx;obtain⟨C,hC⟩:=Go.Deep.choose_lt (α:=List Value) (n:=m) (p:=fun i cs'=>W.cells? 0 (ad.add (i*sz)) sz=some cs'∧DataW.trod enc P W 0 (fun _=>true) true k e cs'=some (D i,Pl i)) hx;have hlen:∀ i,i<n→(C i).length=sz:=fun i hi=>(World.cells?_some (hC i o_).1).2.1;refine⟨hlc,hcm,(List.range n).map C,i_,?_,i_,?_⟩;·
   intro cs' hm';obtain⟨i,hi,rfl⟩:=List.mem_map.1 hm';have hi':=List.mem_range.1 hi;exact⟨hlen i hi',k,_,(hC i o_).2⟩
  ·intro hn;have h0:=(hC 0 o_).1;have hblock:=World.cells?_block h0 hpos;obtain⟨g,off,spot⟩:=ad;have hsp:spot=none:=by
    have hl0:=(World.cells?_some h0).2.1;have hc0:=(World.cells?_some h0).2.2 0 o_;rw [List.getElem?_eq_getElem o_] at hc0;simpa [Addr.add] using World.cell?_spot hc0
   subst hsp;refine⟨g,off,rfl,by simpa [Addr.add] using hblock,?_⟩;have key:∀ k,k≤n→∀ j u,((List.range k).map C).flatten[j]?=some u→W.cell? ⟨g,off+j,none⟩=some u:=by
    intro k
    induction k with
    | zero=>intro _ j u hj;simp at hj
    | succ k ih =>
     intro hk j u hj;have hfl:∀ q,q≤n→((List.range q).map C).flatten.length=q*sz:=by
      intro q
      induction q with
      | zero=>intro _;simp
      | succ q iq=>intro hq;rw [List.range_succ,List.map_append,List.flatten_append,List.length_append,iq o_];simp [hlen q o_,Nat.succ_mul]
     rw [List.range_succ,List.map_append,List.flatten_append] at hj;rcases Nat.lt_or_ge j (k*sz) with h1|h1
     ·rw [List.getElem?_append_left (by rw [hfl k o_];exact h1)] at hj;exact ih o_ j u hj
     ·rw [List.getElem?_append_right (by rw [hfl k o_];exact h1),hfl k o_] at hj;simp only [List.map_cons,List.map_nil,List.flatten_cons,List.flatten_nil,List.append_nil] at hj;have hjl:=(List.getElem?_eq_some_iff.1 hj).1;rw [hlen k o_] at hjl;have:=(World.cells?_some (hC k o_).1).2.2 (j - k*sz) o_;rw [hj,add_plain,add_plain] at this;rw [show off+j=off+k*sz+(j - k*sz) by omega];exact this
   exact key n (Nat.le_refl _)
end Go.Proofs.Lw
end
section
namespace Go.Proofs.YtebolidfbflkmaaGreat
open Go Go.ChangeShapes Go.WideShapes Go.ChangeAt Go.RowKit Hp Lw Bn
theorem flat_u32s (L:List Nat):(L.map (fun (k:Nat)=>[Value.int .u32 k])).flatten=u32s L:=by
 induction L with
 | nil=>rfl
 | cons x L ih=>rw [List.map_cons,List.flatten_cons,ih];rfl
theorem open_big {H:Type} {enc:TypeId×Value→H} {W:World} {base:Nat} {v:Value} {d:DataW H} {ps:List MemPlace} (hval:Value.okWide Tryz.prog W .any base 30 v)
  (h:DataW.Trod enc Tryz.prog W 0 (fun _=>true) true 30 v d ps) :
  ∃ (neg:Bool) (a:Option Addr) (c:Nat) (L:List Nat),v=.agg #[.bool neg,.slice a L.length c]∧Reads W (.slice a L.length c) L.length 1 (u32s L)∧Dig 4294967296 L∧L.length≤c∧(a=none→c=0):=by
 obtain⟨cs,rfl,hsz⟩:=okWide_struct Tryz.underlying30 hval;have hs2:cs.size=2:=hsz.trans k_;obtain⟨fuel,hf⟩:=h;obtain⟨xs,n,rfl,_,_,hn,hf⟩:=DataW.trod_struct Tryz.underlying30 hf;obtain⟨c0,c1,rfl⟩:∃ c0 c1,cs=#[c0,c1]:=⟨cs[0],cs[1],by apply Array.ext<;>simp [hs2];intro i hi;match i,hi with|0,_=>intro _;rfl|1,_=>intro _;rfl⟩;have hc1:Tryz.prog.cellsOf 4=1:=by kernel_rfl
 have hc2:Tryz.prog.cellsOf 28=1:=by kernel_rfl
 have hx2:xs.length=2:=hn;have h0:=hf 0 _ rfl;have h1:=hf 1 _ rfl;rw [List.getElem?_eq_getElem o_] at h0 h1;change DataW.trod enc Tryz.prog W 0 (fun _=>true) true n 4 (([c0,c1].drop 0).take (Tryz.prog.cellsOf 4))=some _ at h0;change DataW.trod enc Tryz.prog W 0 (fun _=>true) true n 28 (([c0,c1].drop 1).take (Tryz.prog.cellsOf 28))=some _ at h1;rw [hc1] at h0;rw [hc2] at h1;simp only [List.drop_zero,List.drop_succ_cons,List.take_succ_cons,List.take_zero] at h0 h1;obtain⟨s,hs,_⟩:=DataW.trod_bool Tryz.underlying4 h0;simp only [List.cons.injEq,and_true] at hs;subst hs;have hform:∃ a n c,c1=.slice a n c:=by
  rcases DataW.trod_slice Tryz.underlying28 h1 with ⟨h,_⟩|⟨a,len,cap,_,_,_,_,h,_⟩
  ·simp only [List.cons.injEq,and_true] at h;exact⟨_,_,_,h⟩
  ·simp only [List.cons.injEq,and_true] at h;exact⟨_,_,_,h⟩
 obtain⟨a,len,c,rfl⟩:=hform;obtain⟨hlc,_,xs,hxl,hxs,hnone,hcell⟩:=open_rows Tryz.underlying28 (sz:=1) k_ o_ h1;obtain⟨L,hL,hLx⟩:∃ L:List Nat,xs=L.map (fun (k:Nat)=>[Value.int .u32 k])∧∀ x∈L,x<4294967296:=by
  have key:∀ ys:List (List Value),(∀ y∈ys,y∈xs)→∃ L:List Nat,ys=L.map (fun (k:Nat)=>[Value.int .u32 k])∧∀ x∈L,x<4294967296:=by
   intro ys
   induction ys with
   | nil=>intro _;exact⟨[],rfl,i_⟩
   | cons y ys ih =>
    intro hy;obtain⟨L,rfl,hL⟩:=ih fun z hz=>hy z (by simp [hz]);obtain⟨_,fuel,q,hq⟩:=hxs y (hy y i_);obtain⟨z,hz,_,hwf⟩:=DataW.trod_int Tryz.underlying75 hq;have hb:0≤z∧z≤4294967295:=by simpa [Lit.wf,IntKind.min,IntKind.max,IntKind.signed,IntKind.bits] using hwf
    refine⟨z.toNat::L,?_,?_⟩;·
     rw [hz];show [Value.int .u32 z]::_=[Value.int .u32 ((z.toNat:Nat):Int)]::_;rw [Int.toNat_of_nonneg hb.1]
    ·intro x hx;rw [List.mem_cons] at hx;rcases hx with rfl|hx
     ·omega
     ·exact hL x hx
  exact key xs fun _ h=>h
 subst hL;obtain rfl:L.length=len:=by simpa using hxl
 have hfl:=flat_u32s L;rw [hfl] at hcell;exact⟨s,a,c,L,rfl,⟨by simp [u32s],a,c,rfl,hcell⟩,hLx,hlc,fun h=>(hnone h).2⟩
end Go.Proofs.YtebolidfbflkmaaGreat
end
