/- Own texts of this claim, part 2: no condition. -/
import Derived.Test.YtebolidfbflkmaaGreatZN0
set_option linter.unusedVariables false
set_option linter.unusedSimpArgs false
section
namespace Go.Proofs.Rg
open Go
section
variable {P:Program}
def Val (P:Program) (s:Sem Next):Prop:=∀ n,Gives P s n→∃ v,n=.value v
theorem Val.wrap (s:Sem Value):Val P (s >>= fun v=>pure (Next.value v)):=fun n h=>by obtain⟨v,_,h2⟩:=h.bind;exact⟨v,h2.pure⟩
theorem Val.pure (v:Value):Val P (pure (Next.value v)):=fun n h=>⟨v,h.pure⟩
theorem Calm.wrap {s:Sem Value} (h:Calm P s):Calm P (s >>= fun v=>Pure.pure (Next.value v)):=Calm.bind h fun _ _=>Calm.pure _
theorem Stable.wrap {s:Sem Value} (h:Stable P s):Stable P (s >>= fun v=>pure (Next.value v)):=Stable.bind h fun _=>(Calm.pure _).stable
theorem Grows.wrap {s:Sem Value} (h:Grows P s):Grows P (s >>= fun v=>pure (Next.value v)):=Grows.bind h fun _=>(Calm.pure _).grows
theorem Calm.build (t:TypeId) (parts:Array (Nat×Value)):Calm P (Instr.build t parts):=by
 unfold Instr.build;refine Calm.bind (Calm.zeroValue _) fun z _=>?_;refine Calm.bind (Calm.underlying _) fun u _=>?_;split;·
  refine Calm.bind ?_ fun places _=>?_;·
   refine (show ∀ l:Array Field,Calm P (l.mapM fun f=>do Pure.pure (f.offset,← Go.sizeOf f.type)) from fun l=>?_) _;rw [Array.mapM_eq_foldlM];rw [← Array.foldlM_toList];generalize (#[]:Array (Nat×Nat))=init;generalize l.toList=l
   induction l generalizing init with
   | nil=>exact Calm.pure _
   | cons x l ih =>rw [List.foldlM_cons];exact Calm.bind (Calm.bind (Calm.bind (Calm.sizeOf _) fun _ _=>Calm.pure _) fun _ _=>Calm.pure _) fun _ _=>ih _
  ·split;·exact Calm.pure _
   ·exact Calm.stuck _
 ·refine Calm.bind (Calm.sizeOf _) fun n _=>?_;split;·exact Calm.pure _
  ·exact Calm.stuck _
 ·exact Calm.stuck _
theorem Calm.field (t:TypeId) (x:Value) (f:Nat):Calm P (Instr.field t x f):=by
 unfold Instr.field;refine Calm.bind (Calm.underlying _) fun u _=>?_;split;·
  split;·exact Calm.bind (Calm.asAgg _) fun _ _=>Calm.part _ _ _
  ·exact Calm.stuck _
 ·exact Calm.stuck _
theorem Calm.indexAt (t:TypeId) (x i:Value):Calm P (Instr.indexAt t x i):=by
 unfold Instr.indexAt;refine Calm.bind (Calm.asIntOf _) fun ki _=>?_;obtain⟨k,i⟩:=ki;dsimp only;refine Calm.bind (Calm.underlying _) fun u _=>?_;have tail:∀ y:Option Addr×Nat×TypeId,Calm P (do
   let u2 ← Go.underlying t
   match y.fst with
    | some a =>
     if 0≤i∧i<↑y.2.fst then do
      let s ← Go.sizeOf y.2.snd
      Pure.pure (Value.pointer (some (a.add (i.toNat*s))))
     else
      if (decide (y.2.fst≤1) && match u2 with|TypeDesc.array len elem=>true|x=>false)=true then
              Go.unsupported (Unsupported.noEntry "op/indexAddr.an index out of range at an array of length 0 or 1 (ledger 616)")
      else boundsPanic k i (↑y.2.fst) BoundsCode.index
    | none=>boundsPanic k i 0 BoundsCode.index):=by
  rintro⟨base,len,elem⟩;refine Calm.bind (Calm.underlying _) fun u2 _=>?_;dsimp only;split;·
   split;·exact Calm.bind (Calm.sizeOf _) fun _ _=>Calm.pure _
   ·generalize (decide (len≤1) && _)=q;cases q;·exact (Dead.boundsPanic _ _ _ _).calm
    ·exact Calm.unsupported _
  ·exact (Dead.boundsPanic _ _ _ _).calm
 split;·exact Calm.bind (Calm.sureAddr _) fun _ _=>Calm.bind (Calm.pure _) fun y _=>tail y
 ·exact Calm.bind (Calm.pure _) fun y _=>tail y
 ·exact Calm.bind (Calm.stuck _) fun y _=>tail y
theorem Calm.index (t:TypeId) (x i:Value):Calm P (Instr.index t x i):=by
 unfold Instr.index;refine Calm.bind (Calm.asIntOf _) fun ki _=>?_;obtain⟨k,i⟩:=ki;dsimp only;refine Calm.bind (Calm.underlying _) fun u _=>?_;split;·
  split;·exact Calm.bind (Calm.sizeOf _) fun _ _=>Calm.part _ _ _
  ·exact (Dead.boundsPanic _ _ _ _).calm
 ·split;·exact Calm.pure _
  ·exact (Dead.boundsPanic _ _ _ _).calm
 ·exact Calm.stuck _
theorem Calm.extract (t:Value) (i:Nat):Calm P (Instr.extract t i):=by
 unfold Instr.extract;split;·
  split;·exact Calm.pure _
  ·exact Calm.stuck _
 ·exact Calm.stuck _
theorem Calm.sliceBound (x:Value) (y:Nat) (c:BoundsCode):Calm P (Instr.sliceBound x y c):=by
 unfold Instr.sliceBound;refine Calm.bind (Calm.asIntOf _) fun ki _=>?_;obtain⟨k,i⟩:=ki;dsimp only;split;·exact Calm.pure _
 ·exact (Dead.boundsPanic _ _ _ _).calm
theorem Calm.sliceBounds (b:Bool) (len cap:Nat) (lo hi mx:Option Value):Calm P (Instr.sliceBounds b len cap lo hi mx):=by
 unfold Instr.sliceBounds;cases lo<;>cases hi<;>cases mx <;>
  exact Calm.bind (by first|exact Calm.sliceBound _ _ _|exact Calm.pure _) fun m _ =>
   Calm.bind (by first|exact Calm.sliceBound _ _ _|exact Calm.pure _|exact Calm.stuck _) fun h _ =>
   Calm.bind (by first|exact Calm.sliceBound _ _ _|exact Calm.pure _) fun l _=>Calm.pure _
theorem Calm.slice (t:TypeId) (x:Value) (lo hi mx:Option Value):Calm P (Instr.slice t x lo hi mx):=by
 unfold Instr.slice;refine Calm.bind (Calm.underlying _) fun u _=>?_;split;·
  dsimp only;split;·exact (Dead.bind_left _ (Dead.halt _)).calm
  ·exact Calm.bind (Calm.sliceBounds _ _ _ _ _ _) fun r _=>Calm.pure _
 ·exact Calm.bind (Calm.sliceBounds _ _ _ _ _ _) fun r _=>Calm.bind (Calm.sizeOf _) fun _ _=>Calm.pure _
 ·refine Calm.bind (Calm.asAddr _) fun a _=>Calm.bind (Calm.underlying _) fun v _=>?_;split;·exact Calm.bind (Calm.sliceBounds _ _ _ _ _ _) fun r _=>Calm.bind (Calm.sizeOf _) fun _ _=>Calm.pure _
  ·exact Calm.stuck _
 ·exact Calm.stuck _
theorem Calm.sliceAt (t:TypeId) (x:Value) (lo hi mx:Option Value):Calm P (Instr.sliceAt t x lo hi mx):=by
 unfold Instr.sliceAt;refine Calm.bind (Calm.underlying _) fun u _=>?_;split;·exact Calm.bind (Calm.sureAddr _) fun a _=>Calm.bind (Calm.sliceBounds _ _ _ _ _ _) fun r _=>Calm.bind (Calm.sizeOf _) fun _ _=>Calm.pure _
 ·exact Calm.slice _ _ _ _ _
theorem Calm.fieldAt (s:TypeId) (x:Value) (f:Nat) (hc:fieldCalm P s f=true):Calm P (Instr.fieldAt s x f):=by
 unfold Instr.fieldAt;refine Calm.bind (Calm.underlying _) fun u hu=>?_;have hu:=hu.underlying;split;·
  rename_i fs;split;·
   rename_i fd hfd;refine Calm.bind (Calm.sureAddr _) fun a _=>?_;refine Calm.bind ?_ fun q _=>Calm.pure _;unfold Go.fieldPlace;refine Calm.bind (Calm.sizeOf _) fun n hn=>?_;have hn:=hn.sizeOf;have:n≠0:=by simp only [fieldCalm,hu,hfd] at hc;intro h0;rw [h0] at hn;simp [hn] at hc
   rw [if_neg this];exact Calm.pure _
  ·exact Calm.stuck _
 ·exact Calm.stuck _
theorem Calm.lenB (ts:Array TypeId) (ty:TypeId) (args:Array Value) (h:args.toList.all sized=true):Calm P (Builtin.len_ ts ty args):=by
 unfold Builtin.len_;rw [List.all_eq_true] at h;split;·
  rename_i t x e;have hx:sized x=true:=h x (Array.mem_toList_iff.2 (Array.mem_of_getElem? (by simp only [Prod.mk.injEq] at e;exact e.2)));refine Calm.bind (Calm.underlying _) fun u _=>?_;split<;>first|exact Calm.pure _|exact Calm.stuck _|(cases hx;done)|skip
  ·refine Calm.bind (Calm.underlying _) fun v _=>?_;split;·exact Calm.pure _
   ·exact Calm.stuck _
 ·exact Calm.stuck _
theorem Calm.capB (ts:Array TypeId) (ty:TypeId) (args:Array Value) (h:args.toList.all sized=true):Calm P (Builtin.cap_ ts ty args):=by
 unfold Builtin.cap_;rw [List.all_eq_true] at h;split;·
  rename_i t x e;have hx:sized x=true:=h x (Array.mem_toList_iff.2 (Array.mem_of_getElem? (by simp only [Prod.mk.injEq] at e;exact e.2)));refine Calm.bind (Calm.underlying _) fun u _=>?_;split<;>first|exact Calm.pure _|exact Calm.stuck _|(cases hx;done)|skip
  ·refine Calm.bind (Calm.underlying _) fun v _=>?_;split;·exact Calm.pure _
   ·exact Calm.stuck _
 ·exact Calm.stuck _
theorem max2_int {x y:Value} (hx:isInt x=true) (hy:isInt y=true):∃ z,Builtin.max2 x y=pure z∧isInt z=true:=by cases x<;>cases y<;>first|(cases hx;done)|(cases hy;done)|exact⟨_,rfl,rfl⟩
theorem min2_int {x y:Value} (hx:isInt x=true) (hy:isInt y=true):∃ z,Builtin.min2 x y=pure z∧isInt z=true:=by cases x<;>cases y<;>first|(cases hx;done)|(cases hy;done)|exact⟨_,rfl,rfl⟩
theorem fold_int (f:Value→Value→Sem Value) (hf:∀ x y,isInt x=true→isInt y=true→∃ z,f x y=pure z∧isInt z=true) :
  ∀ (l:List Value) (x:Value),isInt x=true→(∀ y∈l,isInt y=true)→Calm P (l.foldlM f x)
 | [],x,_,_=>Calm.pure _
 | y::l,x,hx,hl=>by
  rw [List.foldlM_cons];obtain⟨z,e,hz⟩:=hf x y hx (hl y i_);rw [e];exact Calm.bind (Calm.pure _) fun a ha=>by rw [ha.pure];exact fold_int f hf l z hz fun y hy=>hl y (by simp [hy])
theorem Calm.maxB (ts:Array TypeId) (ty:TypeId) (args:Array Value) (h:args.toList.all isInt=true):Calm P (Builtin.max_ ts ty args):=by
 unfold Builtin.max_;rw [List.all_eq_true] at h;split;·exact Calm.stuck _
 ·rename_i x rest e;have hm:∀ y∈x::rest,isInt y=true:=fun y hy=>h y (by rw [← e] at hy;exact hy);exact fold_int _ (fun _ _=>max2_int) rest x (hm x i_) fun y hy=>hm y (by simp [hy])
theorem Calm.minB (ts:Array TypeId) (ty:TypeId) (args:Array Value) (h:args.toList.all isInt=true):Calm P (Builtin.min_ ts ty args):=by
 unfold Builtin.min_;rw [List.all_eq_true] at h;split;·exact Calm.stuck _
 ·rename_i x rest e;have hm:∀ y∈x::rest,isInt y=true:=fun y hy=>h y (by rw [← e] at hy;exact hy);exact fold_int _ (fun _ _=>min2_int) rest x (hm x i_) fun y hy=>hm y (by simp [hy])
theorem exec_pure {o:Oper} {ρ:Operand→Value} (hc:cl P o.op=.pure) (hd:dynOp ρ o.op=true):Calm P (execOp ρ o)∧Val P (execOp ρ o):=by
 obtain⟨dst,op,type,pos,after,guard⟩:=o;simp only at hc hd;cases op<;>first|(simp only [cl] at hc;cases hc;done)|skip
 case move x=>exact⟨Calm.pure _,Val.pure _⟩
 case assign x=>exact⟨Calm.pure _,Val.pure _⟩
 case pick c a b=>exact⟨Calm.bind (Calm.asBool _) fun _ _=>Calm.pure _,fun n h=>by obtain⟨v,_,h2⟩:=h.bind;exact⟨_,h2.pure⟩⟩
 case build t ps=>exact⟨Calm.wrap (Calm.build _ _),Val.wrap _⟩
 case nilCheck x =>
  simp only [dynOp] at hd;simp only [execOp];cases hx:ρ x<;>rw [hx] at hd<;>first|(cases hd;done)|skip
  rename_i q;cases q;·exact⟨(Dead.runtimePanic _).calm,fun n h=>(h.dead (Dead.runtimePanic _)).elim⟩
  ·exact⟨Calm.pure _,Val.pure _⟩
 case binOp op xt x y yt=>exact⟨Calm.wrap (Calm.bind (Calm.eqGuard _ _ _ _ _ _) fun _ _=>Calm.binOp _ _ _ _ hd),Val.wrap _⟩
 case unOp op t x=>exact⟨Calm.wrap (Calm.unary _ _),Val.wrap _⟩
 case convert s d x=>exact⟨Calm.wrap (Calm.convert _ _ _ hd),Val.wrap _⟩
 case slice t x lo hi mx=>exact⟨Calm.wrap (Calm.sliceAt _ _ _ _ _),Val.wrap _⟩
 case fieldAddr s x f =>
  have:fieldCalm P s f=true:=by
   cases hf:fieldCalm P s f;·simp only [cl,hf] at hc;cases hc
   ·rfl
  exact⟨Calm.wrap (Calm.fieldAt _ _ _ this),Val.wrap _⟩
 case field t x f=>exact⟨Calm.wrap (Calm.field _ _ _),Val.wrap _⟩
 case lookup t m x c=>simp only [cl] at hc;split at hc<;>cases hc
 case indexAddr t x i=>exact⟨Calm.wrap (Calm.indexAt _ _ _),Val.wrap _⟩
 case index t x i=>exact⟨Calm.wrap (Calm.index _ _ _),Val.wrap _⟩
 case extract t i=>exact⟨Calm.wrap (Calm.extract _ _),Val.wrap _⟩
 case call c =>
  obtain⟨callee,args,ats⟩:=c;cases callee with
  | builtin b =>
   simp only [cl] at hc;simp only [dynOp] at hd;rw [← Array.toList_map] at hd;cases b<;>first|(simp only [clB] at hc;cases hc;done)|skip
   ·exact⟨Calm.wrap (Calm.capB _ _ _ hd),Val.wrap _⟩
   ·exact⟨Calm.wrap (Calm.lenB _ _ _ hd),Val.wrap _⟩
   ·exact⟨Calm.wrap (Calm.maxB _ _ _ hd),Val.wrap _⟩
   ·exact⟨Calm.wrap (Calm.minB _ _ _ hd),Val.wrap _⟩
  | _=>simp only [cl] at hc;cases hc
theorem Stable.loadCellsFrom (a:Addr):∀ (n i:Nat) (acc:Array Value),Stable P (Go.loadCellsFrom a i n acc)
 | 0,i,acc=>(Calm.pure _).stable
 | n+1,i,acc=>by unfold Go.loadCellsFrom;exact Stable.bind (Stable.load _) fun v=>Stable.loadCellsFrom a n (i+1) (acc.push v)
theorem Stable.loadAt (t:TypeId) (x:Value):Stable P (Instr.loadAt t x):=by
 unfold Instr.loadAt;refine Stable.bind (Calm.sureAddr _).stable fun a=>?_;unfold Go.loadVar;refine Stable.bind (Calm.isAgg _).stable fun b=>?_;split;·exact Stable.bind (Calm.sizeOf _).stable fun n=>Stable.bind (Stable.loadCellsFrom _ _ _ _) fun _=>(Calm.pure _).stable
 ·exact Stable.load _
theorem Stable.of_run {α:Type} {s s2:Sem α} (he:∀ w,s.run P w=s2.run P w) (h:Stable P s2):Stable P s:=fun w a w' hr=>by rw [he] at hr;obtain⟨h1,h2⟩:=h w a w' hr;exact⟨h1,fun w2 hx=>by rw [he];exact h2 w2 hx⟩
theorem run_under {t:TypeId} {d:TypeDesc} (ht:P.underlying t=some d) {β:Type} (f:TypeDesc→Sem β) (w:World):(Go.underlying t >>= f).run P w=(f d).run P w:=by
 rw [Sem.run_bind];have hr:(Go.underlying t).run P w=.ok d w:=by unfold Go.underlying;simp [ht]
 rw [hr];rfl
theorem Calm.of_run {α:Type} {s s2:Sem α} (he:∀ w,s.run P w=s2.run P w) (h:Calm P s2):Calm P s:=fun w a w' hr=>by rw [he] at hr;obtain⟨h1,h2⟩:=h w a w' hr;exact⟨h1,fun w2=>by rw [he];exact h2 w2⟩
theorem Calm.equalInt {k:TypeId} {q:IntKind} (hk:P.underlying k=some (.int q)) (x y:Value) (hx:notPtr x=true):Calm P (Op.equal k x y):=by
 unfold Op.equal;show Calm P (Op.equalIn _ k x y);generalize Op.maxDepth=d;cases d with
 | zero=>unfold Op.equalIn;exact Calm.unsupported _
 | succ d =>
  unfold Op.equalIn;refine Calm.of_run (fun w=>run_under hk _ w) ?_;dsimp only;split<;>first
   | exact Calm.pure _
   | exact Calm.stuck _
   | exact Calm.unsupported _
   | (cases hx;done)
   | (split<;>first|exact Calm.pure _|exact Calm.stuck _)
   | (simp_all;done)
   | skip
theorem Calm.findAsking {k:TypeId} {q:IntKind} (hk:P.underlying k=some (.int q)) (x:Value) (hx:notPtr x=true):∀ (es:List MapEntry) (i:Nat),Calm P (Instr.findAsking k x es i)
 | [],i=>Calm.pure _
 | e::es,i=>by
  unfold Instr.findAsking;refine Calm.bind (Calm.equalInt hk x _ hx) fun b _=>?_;cases b;·exact Calm.findAsking hk x hx es (i+1)
  ·exact Calm.pure _
theorem Stable.getObj (b:Nat):Stable P (Go.getObj b):=by
 intro w a w' hr;simp only [Go.getObj,Sem.run] at hr ⊢;cases hh:w.heap[b]? with
 | none=>rw [hh] at hr;simp at hr
 | some o =>have hb:b<w.heap.size:=(Array.getElem?_eq_some_iff.1 hh).1;rw [hh] at hr;cases o<;>simp at hr<;>(obtain⟨rfl,rfl⟩:=hr;exact⟨rfl,fun w2 hx=>by rw [hx b hb,hh]⟩)
theorem Stable.lookup {t k e:TypeId} {q:IntKind} (ht:P.underlying t=some (.map k e)) (hk:P.underlying k=some (.int q)) (x y:Value) (hy:notPtr y=true) (c:Bool):Stable P (Instr.lookup t x y c):=by
 unfold Instr.lookup;refine Stable.of_run (fun w=>run_under ht _ w) ?_;simp only;have tail:∀ es:Array MapEntry,Stable P (do
   Instr.checkKey es.isEmpty 10000 k y
   let r ← Instr.findKey k y es.toList
   let (v,ok) ← match r with
    | some (_,v)=>pure (v,true)
    | none=>do
     let z ← Go.zeroValue e
     pure (z,false)
   pure (if c then Value.tuple #[v,.bool ok] else v):Sem Value):=fun es=>by
  refine Stable.bind ?_ fun _=>?_;·
   refine Calm.stable ?_;unfold Instr.checkKey;refine Calm.of_run (fun w=>run_under hk _ w) ?_;cases y<;>exact Calm.pure _
  ·refine Stable.bind ?_ fun r=>?_;·
    refine Calm.stable ?_;unfold Instr.findKey;refine Calm.of_run (fun w=>run_under hk _ w) ?_;split;·exact Calm.pure _
    ·exact Calm.findAsking hk y hy _ _
   ·cases r with
    | none =>refine Stable.bind ?_ fun _=>(Calm.pure _).stable;exact (Calm.zeroValue _).stable
    | some p=>exact Stable.bind (Calm.pure _).stable fun _=>(Calm.pure _).stable
 cases x<;>first|exact (Calm.stuck _).stable|skip
 rename_i r;cases r with
 | none=>exact tail #[]
 | some r =>refine Stable.bind (Stable.getObj r) fun o=>?_;cases o<;>first|exact (Calm.stuck _).stable|exact tail _
theorem exec_load {o:Oper} {ρ:Operand→Value} (hc:cl P o.op=.load) (hd:dynOp ρ o.op=true):Stable P (execOp ρ o)∧Val P (execOp ρ o):=by
 obtain⟨dst,op,type,pos,after,guard⟩:=o;simp only at hc;cases op<;>first|(simp only [cl] at hc;cases hc;done)|skip
 case fieldAddr s x f=>simp only [cl] at hc;split at hc<;>cases hc
 case load t x=>exact⟨Stable.wrap (Stable.loadAt _ _),Val.wrap _⟩
 case lookup t m x c =>
  simp only [cl] at hc;split at hc;·
   rename_i hi;unfold intKeyed at hi;split at hi;·
    rename_i k e ht;split at hi;·
     rename_i q hk;exact⟨Stable.wrap (Stable.lookup ht hk _ _ hd _),Val.wrap _⟩
    ·cases hi
   ·cases hi
  ·cases hc
 case call c =>
  obtain⟨callee,args,ats⟩:=c;cases callee with
  | builtin b=>simp only [cl] at hc;cases b<;>cases hc
  | _=>simp only [cl] at hc;cases hc
theorem Grows.newVar (t:TypeId) (v:Value):Grows P (Go.newVar t v):=by unfold Go.newVar Go.newRow;exact Grows.bind (Grows.new _) fun _=>(Calm.pure _).grows
theorem exec_alloc {o:Oper} {ρ:Operand→Value} (hc:cl P o.op=.alloc):Grows P (execOp ρ o)∧Val P (execOp ρ o):=by
 obtain⟨dst,op,type,pos,after,guard⟩:=o;simp only at hc;cases op<;>first|(simp only [cl] at hc;cases hc;done)|skip
 case fieldAddr s x f=>simp only [cl] at hc;split at hc<;>cases hc
 case lookup t m x c=>simp only [cl] at hc;split at hc<;>cases hc
 case alloc e =>refine⟨Grows.wrap ?_,Val.wrap _⟩;show Grows P (do let zero ← zeroValue e;pure (Value.pointer (some (← Go.newVar e zero))));exact Grows.bind (Calm.zeroValue _).grows fun z=>Grows.bind (Grows.newVar _ _) fun _=>(Calm.pure _).grows
 case box e x=>exact⟨Grows.wrap (Grows.bind (Grows.newVar _ _) fun _=>(Calm.pure _).grows),Val.wrap _⟩
 case buildSlice t n ps =>
  refine⟨Grows.wrap ?_,Val.wrap _⟩;unfold Instr.buildSlice;refine Grows.bind (Calm.underlying _).grows fun u=>?_;split;·
   rename_i elem;refine Grows.bind (Calm.sizeOf _).grows fun size=>?_;have tail:∀ zero:Array Value,Grows P (match
     Instr.fill (fun i=>some (i*size,size)) (Array.map (fun x=>zero[x % zero.size]!) (Array.range (n*size)))
      (Array.map (fun x=>match x with|(i,x)=>(i,ρ x)) ps).toList with
    | some cells=>do
     let a ← newRow elem cells
     pure (Value.slice (some a) n n)
        | x => stuck "buildSlice: a part of the wrong size") := fun zero => by
    split;·
     refine Grows.bind (show Grows P (Go.newRow _ _) from ?_) fun _=>(Calm.pure _).grows;unfold Go.newRow;exact Grows.bind (Grows.new _) fun _=>(Calm.pure _).grows
    ·exact (Calm.stuck _).grows
   dsimp only;by_cases h1:n*size > 2 ^ 24;·
    rw [if_pos h1];exact ((Dead.bind_left _ (Dead.halt _)).calm).grows
   ·rw [if_neg h1];by_cases h2:n*size=0;·
     rw [if_pos h2];exact Grows.bind (Calm.pure _).grows fun z=>tail z
    ·rw [if_neg h2];exact Grows.bind (Calm.zeroValue _).grows fun z=>Grows.bind (Calm.pure _).grows fun z=>tail z
  ·exact (Calm.stuck _).grows
 case call c =>
  obtain⟨callee,args,ats⟩:=c;cases callee with
  | builtin b=>simp only [cl] at hc;cases b<;>cases hc
  | _=>simp only [cl] at hc;cases hc
end
end Go.Proofs.Rg
end
section
namespace Go.Proofs.Rg
open Go
def dynWant (ops:Array Oper) (o:Oper) (a:Act):Bool:=dynOp a.eval o.op || !(Region.wanted o (yielded ops a.tmps))
def dynAll (ops:Array Oper) (a:Act):Bool:=ops.toList.all fun o=>dynWant ops o a
def Strict (ops:Array Oper) (K:Act→World→Prop):Exit→Act→World→Prop
 | .normal,a,w=>dynAll ops a=true∧K a w
 | _,_,_=>False
def trivialOp:Op→Bool
 | .nilCheck _|.binOp ..|.convert ..|.lookup ..=>false
 | .call { callee:=.builtin _,.. }=>false
 | _=>true
theorem dynOp_trivial {op:Op} (h:trivialOp op=true) (ρ:Operand→Value):dynOp ρ op=true:=by
 cases op<;>first|rfl|(cases h;done)|skip
 rename_i c;obtain⟨callee,args,ats⟩:=c;cases callee<;>first|rfl|(cases h;done)
def writes (o:Oper) (ts:List Tmp):Bool:=match o.dst with
 | some d=>ts.contains d
 | none=>false
def clOK (x y:Cl):Bool:=x == .pure || y == .pure || (x == .load && (y == .load || y == .alloc))
def edgesOK (o:Oper) (j:Nat):Bool:=o.after.all fun e=>!Region.binds .any e || decide (e.on<j)
def maskOK (b:Array Nat) (o:Oper) (j:Nat):Bool :=
 (List.range j).all fun i=>!(b.getD j 0).testBit i || o.after.any fun e=>Region.binds .any e && (e.on == i || (decide (i<e.on) && (b.getD e.on 0).testBit i))
def lookOK (ops:Array Oper) (b:Array Nat) (o:Oper) (j:Nat):Bool :=
 trivialOp o.op || (List.range ops.size).all fun z=>match ops[z]? with
  | some oz=>!writes oz (o.looksAt ops) || (decide (z<j) && (b.getD j 0).testBit z)
  | none=>true
def pairsOK (P:Program) (ops:Array Oper) (b:Array Nat) (o:Oper) (j:Nat):Bool :=
 (List.range j).all fun i=>(b.getD j 0).testBit i || match ops[i]? with
  | some oi=>oi.apart ops o && clOK (cl P oi.op) (cl P o.op)
  | none=>true
def sortOKb (P:Program) (ops:Array Oper) (b:Array Nat):Bool :=
 Region.noSelect ops && (List.range ops.size).all fun j=>match ops[j]? with
  | some o=>edgesOK o j && maskOK b o j && lookOK ops b o j && pairsOK P ops b o j
  | none=>true
def sortOK (P:Program) (ops:Array Oper):Bool:=sortOKb P ops (Region.before ops)
section
variable {P:Program} {ops:Array Oper} {K0:Act→World→Prop}
theorem Strict.noRoom:¬ LetsOut (Strict ops K0):=fun ⟨a,w,h⟩=>h
theorem eval_of_tmps {a a':Act} (h:a'.tmps=a.tmps) (x:Operand):a'.eval x=a.eval x:=by cases x<;>simp [Act.eval,h]
theorem looksAt_operand {o:Oper} {x:Operand} (hx:x∈o.op.operands) {d:Tmp} (hd:d∉o.looksAt ops):x≠.tmp d:=fun e=>by subst e;exact hd (List.mem_append_left _ (List.mem_filterMap.2 ⟨.tmp d,by simpa using hx,rfl⟩))
theorem dynOp_congr {op:Op} {ρ ρ':Operand→Value} (h:∀ x∈op.operands,ρ x=ρ' x):dynOp ρ op=dynOp ρ' op:=by
 cases op<;>simp only [Op.operands] at h<;>first|rfl|skip
 case nilCheck x =>have e:=h x i_;show (match ρ x with|.pointer _=>true|_=>false)=(match ρ' x with|.pointer _=>true|_=>false);rw [e]
 case binOp op t x y yt =>show dynBin op (ρ x) (ρ y)=dynBin op (ρ' x) (ρ' y);rw [h x i_,h y i_]
 case convert s d x =>show isInt (ρ x)=isInt (ρ' x);rw [h x i_]
 case lookup t m x c =>show notPtr (ρ x)=notPtr (ρ' x);rw [h x i_]
 case call c =>
  obtain⟨callee,args,ats⟩:=c;cases callee<;>first|rfl|skip
  rename_i b;show dynB b (args.toList.map ρ)=dynB b (args.toList.map ρ');rw [List.map_congr_left fun x hx=>h x (by simp at hx;simp [Call.operands,hx])]
theorem eval_put' {a:Act} {o:Oper} {dst:Option Tmp} {v:Value} (h:∀ d,dst=some d→d∉o.looksAt ops) {x:Operand} (hx:x∈o.op.operands) :
  (a.put dst v).eval x=a.eval x:=Act.eval_put fun d hd=>looksAt_operand hx (h d hd)
theorem dynWant_put {o:Oper} {a a':Act} {dst:Option Tmp} {v:Value} (ht:a'.tmps=(a.put dst v).tmps) (h:∀ d,dst=some d→d∉o.looksAt ops) :
  dynWant ops o a'=dynWant ops o a:=by
 unfold dynWant;rw [ht,wanted_put o a dst v h,dynOp_congr (ρ':=a.eval) fun x hx=>by rw [eval_of_tmps ht,eval_put' h hx]]
theorem writes_spec {o:Oper} {ts:List Tmp} (h:writes o ts=false):∀ d,o.dst=some d→d∉ts:=fun d hd=>by simp [writes,hd] at h;exact h
theorem ran {i:Nat} {o:Oper} (hi:ops[i]?=some o) {K:Act→World→Prop} {a:Act} {w:World} (hw:Region.wanted o (yielded ops a.tmps)=true)
  (h:wpOp P ops (Strict ops K0) i K a w):o.upon P a K (Strict ops K0) ((execOp a.eval o).run P w)∧∃ n w1,(execOp a.eval o).run P w=.ok n w1:=by
 unfold wpOp at h;simp only [hi,hw,if_true] at h;rcases h with h|h
 ·refine⟨h,?_⟩;unfold Oper.wp at h;generalize (execOp a.eval o).run P w=r at h;cases r with
  | ok n w'=>exact⟨n,w',rfl⟩
  | halt x w'=>cases x<;>simp only [Oper.upon] at h;exact h.elim
 ·exact (Strict.noRoom h.2).elim
theorem reach {i:Nat} {o:Oper} (hi:ops[i]?=some o) {K:Act→World→Prop} {a:Act} {w:World}
  (h:wpOp P ops (Strict ops K0) i K a w):∃ v a' w',a'.tmps=(a.put o.dst v).tmps∧K a' w':=by
 cases hw:Region.wanted o (yielded ops a.tmps) with
 | false =>unfold wpOp at h;simp only [hi,hw,Bool.false_eq_true,if_false] at h;exact⟨_,_,_,rfl,h⟩
 | true =>
  obtain⟨h,n,w1,hr⟩:=ran hi hw h;rw [hr] at h;cases n<;>simp only [Oper.upon] at h;case value v=>exact⟨_,_,_,rfl,h⟩
  case skip=>exact⟨_,_,_,rfl,h⟩
  case defer d=>exact⟨_,_,_,by rw [← Act.put_defers],h⟩
  case enter f args =>
   obtain⟨e,w2,fr,hR,_⟩:=h [];cases e with
   | returned v=>exact⟨_,_,_,rfl,hR⟩
   | panicked c=>exact hR.elim
   | outgrown=>exact (Strict.noRoom hR).elim
  case row row args =>obtain⟨v,w2,hR,_⟩:=h default [];exact⟨_,_,_,rfl,hR⟩
theorem final {o:Oper} {j:Nat} (hj:ops[j]?=some o):∀ (l:List Nat) (a:Act) (w:World),wpOps P ops (Strict ops K0) l a w →
  (∀ k∈l,∀ ok,ops[k]?=some ok→writes ok (o.looksAt ops)=false)→dynWant ops o a=true
 | [],a,w,h,_=>by have h1:dynAll ops a=true:=h.1;exact List.all_eq_true.1 h1 o (by simpa using Array.mem_of_getElem? hj)
 | k::l,a,w,h,hl=>by
  rw [wpOps_cons] at h;cases hk:ops[k]? with
  | none =>unfold wpOp at h;simp only [hk] at h;exact final hj l a w h fun z hz=>hl z (List.mem_cons_of_mem _ hz)
  | some ok =>obtain⟨v,a',w',ht,h'⟩:=reach hk h;have:=final hj l a' w' h' fun z hz=>hl z (List.mem_cons_of_mem _ hz);rw [dynWant_put ht (writes_spec (hl k i_ ok hk))] at this;exact this
theorem Yields.inv {i:Nat} {o:Oper} {v:Value} {a:Act} (hi:ops[i]?=some o) (hy:Yields P ops o v a) {K:Act→World→Prop} {w:World}
  (h:wpOp P ops (Strict ops K0) i K a w):K (a.put o.dst v) w:=by
 rcases hy with ⟨hw,hv⟩|⟨hw,rfl⟩
 ·obtain⟨h,_⟩:=ran hi hw h;rw [hv w] at h;exact h
 ·unfold wpOp at h;simp only [hi,hw,Bool.false_eq_true,if_false] at h;exact h
theorem put_rev {i:Nat} {oi oj:Oper} {v:Value} (hi:ops[i]?=some oi) (hap:oj.apart ops oi=true)
  (hsi:∀ cs b,oi.op≠.select cs b) (hsj:∀ cs b,oj.op≠.select cs b) {K:Act→World→Prop} {a:Act} {w:World}
  (hy:Yields P ops oj v a) (h:wpOp P ops (Strict ops K0) i (fun a' w'=>Yields P ops oj v a'→K (a'.put oj.dst v) w') a w) :
  wpOp P ops (Strict ops K0) i K (a.put oj.dst v) w:=by
 obtain⟨h1,h2,h3⟩:=Oper.apart_spec hap;have keep:∀ (a:Act),Yields P ops oj v a→∀ u,Yields P ops oj v (a.put oi.dst u):=fun a hy u =>
  hy.of_same (execOp_put oj hsj a oi.dst u h3) (wanted_put oj a oi.dst u h3)
 have keepD:∀ d,Yields P ops oj v { a with defers:=d::a.defers }:=fun d=>hy.of_same rfl rfl;have comm:∀ (a:Act) u,(a.put oj.dst v).put oi.dst u=(a.put oi.dst u).put oj.dst v:=fun a u=>Act.put_comm a v u h2;cases hw:Region.wanted oi (yielded ops a.tmps) with
 | false =>
  have hw':Region.wanted oi (yielded ops (a.put oj.dst v).tmps)=false:=by rw [wanted_put oi a oj.dst v h1];exact hw
  unfold wpOp at h ⊢;simp only [hi,hw,hw',Bool.false_eq_true,if_false] at h ⊢;rw [comm];exact h (keep a hy _)
 | true =>
  have hw':Region.wanted oi (yielded ops (a.put oj.dst v).tmps)=true:=by rw [wanted_put oi a oj.dst v h1];exact hw
  obtain⟨h,_⟩:=ran hi hw h;unfold wpOp;simp only [hi,hw',if_true];refine .inl ?_;unfold Oper.wp;rw [execOp_put oi hsi a oj.dst v h1];generalize (execOp a.eval oi).run P w=r at h ⊢;cases r with
  | ok n w' =>
   cases n<;>simp only [Oper.upon] at h ⊢;case value u=>rw [comm];exact h (keep a hy u)
   case skip=>rw [comm];exact h (keep a hy _)
   case defer d =>have:=h (keep _ (keepD d) _);rw [← Act.put_comm _ v undef h2,← Act.put_defers] at this;exact this
   case enter f args =>
    refine Calls.mono h fun e w'' he=>?_;cases e with
    | returned u=>simp only at he ⊢;rw [comm];exact he (keep a hy u)
    | panicked c=>exact he
    | outgrown=>exact he
   case row row args=>exact Rows.mono h fun u w'' he=>by rw [comm];exact he (keep a hy u)
  | halt x w' =>cases x<;>simp only [Oper.upon] at h ⊢;case panic u=>exact h
theorem yields_pure {i:Nat} {o:Oper} (hi:ops[i]?=some o) (hc:cl P o.op=.pure) {K:Act→World→Prop} {a:Act} {w:World}
  (hd:dynWant ops o a=true) (h:wpOp P ops (Strict ops K0) i K a w):∃ v,Yields P ops o v a:=by
 cases hw:Region.wanted o (yielded ops a.tmps) with
 | false=>exact⟨undef,.inr ⟨hw,rfl⟩⟩
 | true =>
  have hdyn:dynOp a.eval o.op=true:=by simpa [dynWant,hw] using hd
  obtain⟨hcalm,hval⟩:=exec_pure (P:=P) hc hdyn;obtain⟨_,n,w1,hr⟩:=ran hi hw h;obtain⟨v,rfl⟩:=hval n ⟨_,_,hr⟩;exact⟨v,.inl ⟨hw,(hcalm _ _ _ hr).2⟩⟩
theorem swap_first {i j:Nat} {oi oj:Oper} (hi:ops[i]?=some oi) (hj:ops[j]?=some oj) (hap:oi.apart ops oj=true)
  (hsi:∀ cs b,oi.op≠.select cs b) (hsj:∀ cs b,oj.op≠.select cs b) {K:Act→World→Prop} {a:Act} {w:World} {v:Value} (hy:Yields P ops oi v a)
  (h:wpOp P ops (Strict ops K0) i (wpOp P ops (Strict ops K0) j K) a w):wpOp P ops (Strict ops K0) j (wpOp P ops (Strict ops K0) i K) a w :=
 wpOp_mono (fun _ _ ⟨hy',hk⟩=>Yields.wpOp hi hy' hk) (wpOp_put hj hap hsi hsj (fun _ _ _ h=>h) hy (Yields.inv hi hy h))
theorem apart_symm {x y:Oper} (h:x.apart ops y=true):y.apart ops x=true:=by
 obtain⟨h1,h2,h3⟩:=Oper.apart_spec h;unfold Oper.apart;cases hx:x.dst<;>cases hy:y.dst;·rfl
 ·rename_i d;have:=h3 d hy;simp [this]
 ·rename_i d;have:=h1 d hx;simp [this]
 ·rename_i d e;have a1:=h1 d hx;have a3:=h3 e hy;have a2:=h2 d hx;have:e≠d:=fun q=>a2 (by rw [hy,q]);simp [a1,a3,Ne.symm this]
theorem swap_second {i j:Nat} {oi oj:Oper} (hi:ops[i]?=some oi) (hj:ops[j]?=some oj) (hap:oi.apart ops oj=true)
  (hsi:∀ cs b,oi.op≠.select cs b) (hsj:∀ cs b,oj.op≠.select cs b) {K:Act→World→Prop} {a:Act} {w:World} {v:Value} (hy:Yields P ops oj v a)
  (h:wpOp P ops (Strict ops K0) i (wpOp P ops (Strict ops K0) j K) a w):wpOp P ops (Strict ops K0) j (wpOp P ops (Strict ops K0) i K) a w :=
 Yields.wpOp hj hy (put_rev hi (apart_symm hap) hsi hsj hy (wpOp_mono (fun _ _ hk hy'=>Yields.inv hj hy' hk) h))
theorem swap {i j:Nat} {oi oj:Oper} (hi:ops[i]?=some oi) (hj:ops[j]?=some oj) (hap:oi.apart ops oj=true)
  (hsi:∀ cs b,oi.op≠.select cs b) (hsj:∀ cs b,oj.op≠.select cs b) (hcl:clOK (cl P oi.op) (cl P oj.op)=true)
  (hwi:trivialOp oi.op=true∨writes oi (oi.looksAt ops)=false) (hwj:trivialOp oj.op=true∨writes oj (oj.looksAt ops)=false) {K:Act→World→Prop}
  (hK:∀ a w,K a w→dynWant ops oi a=true∧dynWant ops oj a=true) {a:Act} {w:World}
  (h:wpOp P ops (Strict ops K0) i (wpOp P ops (Strict ops K0) j K) a w):wpOp P ops (Strict ops K0) j (wpOp P ops (Strict ops K0) i K) a w:=by
 obtain⟨h1,h2,h3⟩:=Oper.apart_spec hap;obtain⟨u,a1,w1,ht1,hr1⟩:=reach hi h;obtain⟨v,a2,w2,ht2,hr2⟩:=reach hj hr1;have hdi:dynWant ops oi a=true:=by
  rcases hwi with hwi|hwi
  ·unfold dynWant;rw [dynOp_trivial hwi];rfl
  ·have:=(hK _ _ hr2).1;rw [dynWant_put ht2 h3,dynWant_put ht1 (writes_spec hwi)] at this;exact this
 have hdj:dynWant ops oj a1=true:=by
  rcases hwj with hwj|hwj
  ·unfold dynWant;rw [dynOp_trivial hwj];rfl
  ·have:=(hK _ _ hr2).2;rw [dynWant_put ht2 (writes_spec hwj)] at this;exact this
 have hsame:∀ {v},Yields P ops oj v a1→Yields P ops oj v a:=fun hy=>by
  refine hy.of_same ?_ ?_;·
   refine execOp_congr oj hsj fun x hx=>?_;rw [eval_of_tmps ht1,eval_put' h1 hx]
  ·rw [ht1,wanted_put oj a oi.dst u h1]
 cases hci:cl P oi.op with
 | pure=>obtain⟨v,hy⟩:=yields_pure hi hci hdi h;exact swap_first hi hj hap hsi hsj hy h
 | load =>
  cases hwa:Region.wanted oi (yielded ops a.tmps) with
  | false=>exact swap_first hi hj hap hsi hsj (.inr ⟨hwa,rfl⟩) h
  | true =>
   have second:cl P oj.op=.pure→wpOp P ops (Strict ops K0) j (wpOp P ops (Strict ops K0) i K) a w:=fun hcj=>by obtain⟨v,hy⟩:=yields_pure hj hcj hdj hr1;exact swap_second hi hj hap hsi hsj (hsame hy) h
   have both:(∀ n w1 w0,Region.wanted oj (yielded ops a.tmps)=true→(execOp a.eval oj).run P w0=.ok n w1→Ext w0 w1∧∃ v,n=.value v)→wpOp P ops (Strict ops K0) j (wpOp P ops (Strict ops K0) i K) a w:=fun hgrow=>by
    cases hwb:Region.wanted oj (yielded ops a.tmps) with
    | false=>exact swap_second hi hj hap hsi hsj (.inr ⟨hwb,rfl⟩) h
    | true =>
     obtain⟨hst,hval⟩:=exec_load (P:=P) (ρ:=a.eval) hci (by simpa [dynWant,hwa] using hdi);obtain⟨hu,n,w1,hr⟩:=ran hi hwa h;obtain⟨x,rfl⟩:=hval n ⟨_,_,hr⟩;obtain⟨rfl,hlater⟩:=hst _ _ _ hr;rw [hr] at hu;have hu:wpOp P ops (Strict ops K0) j K (a.put oi.dst x) w1:=hu;have hwb':Region.wanted oj (yielded ops (a.put oi.dst x).tmps)=true:=(by rw [wanted_put oj a oi.dst x h1];exact hwb);obtain⟨hu2,m,w3,hr3⟩:=ran hj hwb' hu;rw [execOp_put oj hsj a oi.dst x h1] at hu2 hr3;obtain⟨hext,y,rfl⟩:=hgrow _ _ _ hwb hr3;rw [hr3] at hu2;have hu2:K ((a.put oi.dst x).put oj.dst y) w3:=hu2;unfold wpOp;simp only [hj,hwb,if_true];refine .inl ?_;unfold Oper.wp;rw [hr3];show (match ops[i]? with
      | none=>_
      | some o=>_:Prop)
     have hwa':Region.wanted oi (yielded ops (a.put oj.dst y).tmps)=true:=(by rw [wanted_put oi a oj.dst y h3];exact hwa);simp only [hi,hwa',if_true];refine .inl ?_;show Oper.upon P oi (a.put oj.dst y) K (Strict ops K0) (Sem.run P (execOp (a.put oj.dst y).eval oi) w3);rw [execOp_put oi hsi a oj.dst y h3,hlater _ hext];show K _ _;rw [← Act.put_comm a x y h2];exact hu2
   cases hcj:cl P oj.op with
   | pure=>exact second hcj
   | load =>
    refine both fun n w1 w0 hwb hr=>?_;·
     obtain⟨hs,hv⟩:=exec_load (P:=P) (ρ:=a.eval) hcj (by have hdj2:=hdj;rw [dynWant_put ht1 h1] at hdj2;simpa [dynWant,hwb] using hdj2);obtain⟨rfl,_⟩:=hs _ _ _ hr;exact⟨Ext.refl _,hv _ ⟨_,_,hr⟩⟩
   | alloc =>
    refine both fun n w1 w0 hwb hr=>?_;·
     obtain⟨hs,hv⟩:=exec_alloc (P:=P) (ρ:=a.eval) hcj;exact⟨hs _ _ _ hr,hv _ ⟨_,_,hr⟩⟩
   | any=>rw [hci,hcj] at hcl;cases hcl
 | alloc =>
  cases hcj:cl P oj.op with
  | pure=>obtain⟨v,hy⟩:=yields_pure hj hcj hdj hr1;exact swap_second hi hj hap hsi hsj (hsame hy) h
  | _=>rw [hci,hcj] at hcl;cases hcl
 | any =>
  cases hcj:cl P oj.op with
  | pure=>obtain⟨v,hy⟩:=yields_pure hj hcj hdj hr1;exact swap_second hi hj hap hsi hsj (hsame hy) h
  | _=>rw [hci,hcj] at hcl;cases hcl
structure Checked (P:Program) (ops:Array Oper) (b:Array Nat):Prop where
 select:Region.noSelect ops=true
 each:∀ j o,ops[j]?=some o→edgesOK o j=true∧maskOK b o j=true∧lookOK ops b o j=true∧pairsOK P ops b o j=true
theorem Checked.of {b:Array Nat} (h:sortOKb P ops b=true):Checked P ops b:=by unfold sortOKb at h;rw [Bool.and_eq_true] at h;refine⟨h.1,fun j o hj=>?_⟩;have:=List.all_eq_true.1 h.2 j (List.mem_range.2 (Array.getElem?_eq_some_iff.1 hj).1);simp only [hj,Bool.and_eq_true] at this;exact⟨this.1.1.1,this.1.1.2,this.1.2,this.2⟩
variable {b:Array Nat}
theorem Checked.look (C:Checked P ops b) {j z:Nat} {o oz:Oper} (hj:ops[j]?=some o) (hz:ops[z]?=some oz) (hn:¬ (z<j∧(b.getD j 0).testBit z=true)) :
  trivialOp o.op=true∨writes oz (o.looksAt ops)=false:=by
 have h:=(C.each j o hj).2.2.1;unfold lookOK at h;rw [Bool.or_eq_true] at h;rcases h with h|h
 ·exact .inl h
 ·right;have:=List.all_eq_true.1 h z (List.mem_range.2 (Array.getElem?_eq_some_iff.1 hz).1);simp only [hz,Bool.or_eq_true,Bool.not_eq_true',Bool.and_eq_true,decide_eq_true_eq] at this;rcases this with h|h
  ·exact h
  ·exact absurd h hn
theorem Checked.pair (C:Checked P ops b) {i j:Nat} {oi oj:Oper} (hi:ops[i]?=some oi) (hj:ops[j]?=some oj) (hlt:i<j) (hn:(b.getD j 0).testBit i=false) :
  oi.apart ops oj=true∧clOK (cl P oi.op) (cl P oj.op)=true:=by
 have:=List.all_eq_true.1 (C.each j oj hj).2.2.2 i (List.mem_range.2 hlt);simp only [hi,hn,Bool.false_or,Bool.and_eq_true] at this;exact this
theorem bubble (C:Checked P ops b) {i:Nat} {oi:Oper} (hi:ops[i]?=some oi) (l2:List Nat) (hl2:∀ z∈l2,i<z):∀ (l1:List Nat),(l1++i::l2).Pairwise (·<·) →
  (∀ z∈l1,z<ops.size)→(∀ z∈l1,(b.getD i 0).testBit z=false)→∀ (a:Act) (w:World),wpOps P ops (Strict ops K0) (l1++i::l2) a w →
  wpOp P ops (Strict ops K0) i (wpOps P ops (Strict ops K0) (l1++l2)) a w
 | [],_,_,_,a,w,h=>by simpa [wpOps_cons] using h
 | k::l1,hs,hlt,hn,a,w,h=>by
  simp only [List.cons_append] at h ⊢ hs;rw [wpOps_cons] at h;have hs':=List.pairwise_cons.1 hs;have h:=wpOp_mono (fun a w h=>bubble C hi l2 hl2 l1 hs'.2 (fun z hz=>hlt z (by simp [hz])) (fun z hz=>hn z (by simp [hz])) a w h) h;have hk:∃ ok,ops[k]?=some ok:=⟨_,Array.getElem?_eq_getElem (hlt k i_)⟩;obtain⟨ok,hk⟩:=hk;have hki:k<i:=hs'.1 i i_;obtain⟨hap,hcl⟩:=C.pair hk hi hki (hn k i_);have hself:∀ {j o},ops[j]?=some o→trivialOp o.op=true∨writes o (o.looksAt ops)=false:=fun hj=>C.look hj hj o_;refine wpOp_mono (fun a w h=>by rw [wpOps_cons];exact h) (swap hk hi hap (Region.noSelect_spec C.select k ok · · hk) (Region.noSelect_spec C.select i oi · · hi) hcl (hself hk) (hself hi) (fun a w hK=>?_) h);have fin:∀ {j o},ops[j]?=some o→(∀ z∈l1++l2,¬ (z<j∧(b.getD j 0).testBit z=true))→dynWant ops o a=true:=fun {j o} hj hz=>by
   cases htr:trivialOp o.op with
   | true=>unfold dynWant;rw [dynOp_trivial htr];rfl
   | false=>exact final hj _ a w hK fun z hzm oz hoz=>(C.look hj hoz (hz z hzm)).resolve_left (by rw [htr];exact Bool.false_ne_true)
  refine⟨fin hk fun z hz hh=>?_,fin hi fun z hz hh=>?_⟩;·
   have:k<z:=hs'.1 z (by rcases List.mem_append.1 hz with h|h<;>simp [h]);omega
  ·rcases List.mem_append.1 hz with hz|hz
   ·rw [hn z (by simp [hz])] at hh;cases hh.2
   ·have:=hl2 z hz;omega
def Closed (ops:Array Oper) (listed:Array Bool):Prop:=∀ j o,ops[j]?=some o→listed.getD j true=true→∀ e∈o.after,Region.binds .any e=true→listed.getD e.on false=true
theorem mask_listed (C:Checked P ops b) {listed:Array Bool} (hc:Closed ops listed) (hsz:listed.size=ops.size):∀ (d j:Nat) (o:Oper),j=d→ops[j]?=some o →
  (∀ e∈o.after,Region.binds .any e=true→listed.getD e.on false=true)→∀ i,i<j→(b.getD j 0).testBit i=true→listed.getD i false=true:=by
 intro d
 induction d using Nat.strongRecOn with
 | _ d ih =>
  intro j o hd hj hall i hij hb;obtain⟨he,hm,_,_⟩:=C.each j o hj;have:=List.all_eq_true.1 hm i (List.mem_range.2 hij);rw [hb] at this;simp only [Bool.not_true,Bool.false_or] at this;obtain⟨e,hem,h2⟩:=Array.any_eq_true'.1 this;simp only [Bool.and_eq_true,Bool.or_eq_true,beq_iff_eq,decide_eq_true_eq] at h2;have hon:=hall e hem h2.1;rcases h2.2 with h3|h3
  ·rw [← h3];exact hon
  ·have hej:e.on<j:=by
    have:=Array.all_eq_true_iff_forall_mem.1 he e hem;simp only [h2.1,Bool.not_true,Bool.false_or,decide_eq_true_eq] at this;exact this
   have hlt:e.on<ops.size:=by have:=(Array.getElem?_eq_some_iff.1 hj).1;omega
   have hoe:ops[e.on]?=some ops[e.on]:=Array.getElem?_eq_getElem hlt;refine ih e.on o_ e.on _ rfl hoe (hc _ _ hoe ?_) i h3.1 h3.2;have:e.on<listed.size:=o_;simp [this] at hon ⊢;exact hon
theorem any_of_ops (C:Checked P ops b):∀ (fuel:Nat) (l:List Nat) (listed:Array Bool) (a:Act) (w:World),l.length=fuel→listed.size=ops.size→l.Pairwise (·<·) →
  (∀ k,k∈l↔k<ops.size∧listed.getD k true=false)→Closed ops listed→wpOps P ops (Strict ops K0) l a w→wpAny P .any ops (Strict ops K0) fuel listed a w
 | 0,l,listed,a,w,hf,hsz,hs,hm,hc,h=>by obtain rfl:=List.eq_nil_of_length_eq_zero hf;refine⟨?_,h⟩;refine List.eq_nil_iff_forall_not_mem.2 fun j hj=>?_;obtain⟨h1,o,h2,_⟩:=mem_ready.1 hj;have:=(hm j).2 ⟨(Array.getElem?_eq_some_iff.1 h2).1,h1⟩;cases this
 | fuel+1,l,listed,a,w,hf,hsz,hs,hm,hc,h=>by
  refine⟨fun hr=>?_,fun i hi=>?_⟩;·
   exfalso;cases l with
   | nil=>cases hf
   | cons k l =>
    obtain⟨hk,hkl⟩:=(hm k).1 i_;have hok:ops[k]?=some ops[k]:=Array.getElem?_eq_getElem hk;have:k∈Region.ready .any ops listed:=mem_ready.2 ⟨hkl,_,hok,fun e he hb=>by
     have hej:e.on<k:=by
      have:=Array.all_eq_true_iff_forall_mem.1 (C.each k _ hok).1 e he
      simp only [hb,Bool.not_true,Bool.false_or,decide_eq_true_eq] at this
      exact this
     cases hl:listed.getD e.on true with
     | true =>
      have hlt:e.on<listed.size:=o_
      simp [hlt] at hl ⊢;exact hl
     | false =>
      have:=(hm e.on).2 ⟨o_,hl⟩
      rcases List.mem_cons.1 this with h1|h1
      ·omega
      ·have:=(List.pairwise_cons.1 hs).1 _ h1;omega⟩
    rw [hr] at this;cases this
  ·obtain⟨h1,oi,h2,hall⟩:=mem_ready.1 hi;have hin:i<ops.size:=(Array.getElem?_eq_some_iff.1 h2).1;obtain⟨l1,l2,rfl⟩:=List.append_of_mem ((hm i).2 ⟨hin,h1⟩);have hpw:=List.pairwise_append.1 hs;have hnot1:i∉l1:=fun hx=>(by have:=hpw.2.2 i hx i i_;omega);have hnot2:i∉l2:=fun hx=>(by have:=(List.pairwise_cons.1 hpw.2.1).1 i hx;omega);refine wpOp_mono (fun a w h=>any_of_ops C fuel (l1++l2) _ a w ?_ (by simp [hsz]) ?_ (fun k=>?_) ?_ h) (bubble C h2 l2 (fun z hz=>(List.pairwise_cons.1 hpw.2.1).1 z hz) l1 hs (fun z hz=>((hm z).1 (by simp [hz])).1) (fun z hz=>?_) a w h);·simp at hf ⊢;omega
   ·exact hs.sublist (List.Sublist.append (List.Sublist.refl _) (List.sublist_cons_self _ _))
   ·by_cases hki:k=i;·
     subst hki;have hlt:k<listed.size:=o_
     simp [hnot1,hnot2,hlt]
    ·rw [getD_set_ne true (fun e=>hki e.symm),← hm k];simp [hki]
   ·intro j o hj hl e he hb;by_cases hji:j=i;·
     subst hji;have:o=oi:=Option.some.inj (hj.symm.trans h2);subst this;exact getD_set_true (hall e he hb)
    ·rw [getD_set_ne true (fun e=>hji e.symm)] at hl;exact getD_set_true (hc j o hj hl e he hb)
   ·cases ht:(b.getD i 0).testBit z with
    | false=>rfl
    | true =>
     exfalso;have hzi:z<i:=hpw.2.2 z hz i i_;have h3:=mask_listed C hc hsz i i oi rfl h2 hall z hzi ht;have h4:=((hm z).1 (by simp [hz])).2;have hlt:z<listed.size:=o_
     simp [hlt] at h3 h4;rw [h3] at h4;cases h4
theorem Strict.imp {Q:Exit→Act→World→Prop}:∀ (e:Exit) (a:Act) (w:World),Strict ops (Q .normal) e a w→Q e a w:=fun e a w h=>by cases e<;>first|exact h.2|exact h.elim
end
theorem wRT {P:Program} {id:Nat} {l:List Oper} {Q:Exit→Act→World→Prop} {a:Act} {w:World} (hm:P.follows .mixedOrders=true)
  (hc:sortOK P l.toArray=true) (h:wpList P l.toArray (Strict l.toArray (Q .normal)) l a w.drew):(Code.region id l.toArray true).wp P Q a w:=by
 refine Code.wp_mono Strict.imp (wp_region_any hm (any_of_ops (Checked.of hc) _ (List.range l.length) _ a _ i_ i_ List.pairwise_lt_range (fun k=>?_) ?_ ?_));·
  simp;intro hk;rw [Array.getElem?_replicate];simp [hk]
 ·intro j o hj hl;have hlt:j<l.length:=by have:=(Array.getElem?_eq_some_iff.1 hj).1;simpa using this
  rw [Array.getD_eq_getD_getElem?,Array.getElem?_replicate] at hl;simp [hlt] at hl
 ·rw [List.range_eq_range',wpOps_eq_wpList l 0 i_];exact h
theorem sT_ {ops:Array Oper} {K:Act→World→Prop} {a:Act} {w:World} (hd:dynAll ops a=true) (h:K a w):Strict ops K .normal a w:=⟨hd,h⟩
theorem wT {P:Program}{id:Nat}{l:List Oper}{Q:Exit→Act→World→Prop}{a:Act}{w:World}(h:wpList P l.toArray (Strict l.toArray (Q .normal)) l a w.drew)(hm:P.follows .mixedOrders=true:=by kernel_rfl)(hc:sortOK P l.toArray=true:=by kernel_rfl):(Code.region id l.toArray true).wp P Q a w:=wRT hm hc h
end Go.Proofs.Rg
end
