/- Own texts of this claim, part 3: no condition. -/
import Derived.Test.YtdanghnadbkhfaaGreatRows
import Derived.LoopN
import Derived.Lib.Hide
import Derived.Test.YtdanghnadbkhfaaGreatZR1
set_option linter.unusedVariables false
set_option linter.unusedSimpArgs false
section
namespace Go.Proofs.Mp
open Go
section
variable {P:Program} {T E:TypeId} {q:IntKind} {n:Nat}
def ints (q:IntKind) (xs:List Int):Array Value:=(xs.map (Value.int q)).toArray
theorem run_underlying' {t:TypeId} {d:TypeDesc} (h:P.underlying t=some d) (w:World):(Go.underlying t).run P w=.ok d w:=by unfold Go.underlying;simp [h]
theorem run_sizeOf' {t:TypeId} {s:Nat} (h:(P.info? t).map (·.size)=some s) (w:World):(Go.sizeOf t).run P w=.ok s w:=by
 unfold Go.sizeOf Go.typeInfo
 cases hi:P.info? t with
 | none=>rw [hi] at h;cases h
 | some i=>rw [hi] at h;simp at h;simp [hi,h]
theorem run_part_int (hE:P.underlying E=some (.int q)) {cs:Array Value} {off:Nat} {v:Value} (hv:cs[off]?=some v) (w:World):(Go.part E cs off).run P w=.ok v w:=by
 unfold Go.part Go.isAgg
 rw [Sem.run_bind,Sem.run_bind,run_underlying' hE]
 simp [hv]
theorem ints_get {xs:List Int} {i:Nat} (h:i<xs.length):(ints q xs)[i]?=some (.int q (xs[i])):=by simp [ints,h]
theorem run_equal_int (hE:P.underlying E=some (.int q)) (d:Nat) (x y:Int) (w:World):(Op.equalIn (d+1) E (.int q x) (.int q y)).run P w=.ok (x == y) w:=by
 unfold Op.equalIn
 rw [Sem.run_bind,run_underlying' hE]
 simp
theorem eq_loop (hE:P.underlying E=some (.int q)) (hs:(P.info? E).map (·.size)=some 1) (d:Nat) (xs ys:List Int) (hl:xs.length=ys.length):∀ (m i:Nat) (w:World),i+m=xs.length →
  (forIn (List.range' i m) ((none:Option Bool),()) (fun i s=>do
   let a ← Go.part E (ints q xs) (i*1)
   let b ← Go.part E (ints q ys) (i*1)
   let r ← Op.equalIn (d+1) E a b
   if (!r)=true then pure (ForInStep.done (some false,())) else pure (ForInStep.yield (none,())):Nat→Option Bool×Unit→Sem (ForInStep (Option Bool×Unit)))).run P w =
   .ok (if xs.drop i=ys.drop i then none else some false,()) w
 | 0,i,w,h=>by
  rw [List.drop_of_length_le (by omega),List.drop_of_length_le (by omega)]
  rfl
 | m+1,i,w,h=>by
  rw [List.range'_succ,List.forIn_cons,Sem.run_bind,Sem.run_bind,run_part_int hE (by rw [Nat.mul_one];exact ints_get (by omega))]
  simp only [Result.andThen_ok]
  rw [Sem.run_bind,run_part_int hE (by rw [Nat.mul_one];exact ints_get (by omega))]
  simp only [Result.andThen_ok]
  rw [Sem.run_bind,run_equal_int hE]
  simp only [Result.andThen_ok]
  have ex:xs.drop i=xs[i]::xs.drop (i+1):=List.drop_eq_getElem_cons (by omega)
  have ey:ys.drop i=ys[i]::ys.drop (i+1):=List.drop_eq_getElem_cons (by omega)
  rw [ex,ey]
  by_cases hxy:xs[i]=ys[i]
  ·simp only [hxy,beq_self_eq_true,Bool.not_true,Bool.false_eq_true,if_false,Sem.run_pure,Result.andThen_ok,List.cons.injEq,true_and]
   exact eq_loop hE hs d xs ys hl m (i+1) w (by omega)
  ·have hb:(xs[i] == ys[i])=false:=by simpa using hxy
   have hn:¬ (xs[i]::xs.drop (i+1)=ys[i]::ys.drop (i+1)):=fun e=>hxy (List.cons.inj e).1
   rw [if_neg hn]
   simp [hb]
theorem run_equalIn_ints (hT:P.underlying T=some (.array n E)) (hE:P.underlying E=some (.int q)) (hs:(P.info? E).map (·.size)=some 1) (d:Nat) (xs ys:List Int) (hx:xs.length=n) (hy:ys.length=n) (w:World) :
  (Op.equalIn (d+2) T (.agg (ints q xs)) (.agg (ints q ys))).run P w=.ok (decide (xs=ys)) w:=by
 show Sem.run P (Op.equalIn ((d+1)+1) _ _ _) w=_
 unfold Op.equalIn
 rw [Sem.run_bind,run_underlying' hT]
 simp only [Result.andThen_ok]
 rw [Sem.run_bind,run_sizeOf' hs]
 simp only [Result.andThen_ok]
 rw [Sem.run_bind,Std.Legacy.Range.forIn_eq_forIn_range']
 have hl:List.range' [:n].start [:n].size [:n].step=List.range' 0 n:=by simp [Std.Legacy.Range.size]
 rw [hl]
 have:=eq_loop hE hs d xs ys (by omega) n 0 w (by omega)
 rw [this]
 simp only [List.drop_zero,Result.andThen_ok]
 by_cases h:xs=ys<;>simp [h]
theorem check_loop (hE:P.underlying E=some (.int q)) (hs:(P.info? E).map (·.size)=some 1) (d:Nat) (e:Bool) (xs:List Int):∀ (m i:Nat) (w:World),i+m=xs.length →
  (forIn (List.range' i m) () (fun i s=>do
   let n ← Go.sizeOf E
   let a ← Go.part E (ints q xs) (i*n)
   Instr.checkKey e (d+1) E a
   pure (ForInStep.yield ()):Nat→Unit→Sem (ForInStep Unit))).run P w=.ok () w
 | 0,i,w,h=>rfl
 | m+1,i,w,h=>by
  have hc:∀ x:Int,(Instr.checkKey e (d+1) E (.int q x)).run P w=.ok () w:=by
   intro x
   unfold Instr.checkKey
   rw [Sem.run_bind,run_underlying' hE]
   simp
  rw [List.range'_succ,List.forIn_cons,Sem.run_bind,Sem.run_bind,run_sizeOf' hs]
  simp only [Result.andThen_ok]
  rw [Sem.run_bind,run_part_int hE (by rw [Nat.mul_one];exact ints_get (by omega))]
  simp only [Result.andThen_ok]
  rw [Sem.run_bind,hc]
  simp only [Result.andThen_ok,Sem.run_pure]
  exact check_loop hE hs d e xs m (i+1) w (by omega)
theorem run_checkKey_ints (hT:P.underlying T=some (.array n E)) (hE:P.underlying E=some (.int q)) (hs:(P.info? E).map (·.size)=some 1) (d:Nat) (e:Bool) (xs:List Int) (hx:xs.length=n) (w:World) :
  (Instr.checkKey e (d+2) T (.agg (ints q xs))).run P w=.ok () w:=by
 show Sem.run P (Instr.checkKey e ((d+1)+1) _ _) w=_
 unfold Instr.checkKey
 rw [Sem.run_bind,run_underlying' hT]
 simp only [Result.andThen_ok]
 rw [Std.Legacy.Range.forIn_eq_forIn_range']
 have hl:List.range' [:n].start [:n].size [:n].step=List.range' 0 n:=by simp [Std.Legacy.Range.size]
 rw [hl]
 rw [Sem.run_bind,check_loop hE hs d e xs n 0 w (by omega)]
 rfl
theorem sameBits_int (d:Nat) (x:Int):Instr.sameBits d (.int q x) (.int q x)=true:=by cases d<;>simp [Instr.sameBits]
theorem zip_same:∀ (l:List Value),(∀ v∈l,∀ d,Instr.sameBits d v v=true)→∀ d,(l.zip l).all (fun p=>Instr.sameBits d p.1 p.2)=true
 | [],_,_=>rfl
 | v::l,h,d=>by
  simp only [List.zip_cons_cons,List.all_cons,Bool.and_eq_true]
  exact⟨h v (by simp) d,zip_same l (fun u hu=>h u (by simp [hu])) d⟩
theorem sameBits_ints (d:Nat) (xs:List Int):Instr.sameBits (d+1) (.agg (ints q xs)) (.agg (ints q xs))=true:=by
 unfold Instr.sameBits
 simp only [beq_self_eq_true,Bool.true_and,ints]
 exact zip_same _ (fun v hv d=>by obtain⟨x,_,rfl⟩:=List.mem_map.1 hv;exact sameBits_int d x) d
theorem KeysBy.ints {κ:Type} [DecidableEq κ] (f:κ→List Int) (hf:∀ a b,f a=f b→a=b) (hn:∀ a,(f a).length=n) (hT:P.underlying T=some (.array n E)) (hE:P.underlying E=some (.int q)) (hs:(P.info? E).map (·.size)=some 1) :
  KeysBy P T (fun k=>Value.agg (Mp.ints q (f k))):=by
 refine KeysBy.deep hT (fun k v=>rfl) (fun a b w=>?_) (fun e k w=>run_checkKey_ints hT hE hs 9998 e (f k) (hn k) w) fun k=>sameBits_ints 9999 (f k)
 have:=run_equalIn_ints hT hE hs 9998 (f a) (f b) (hn a) (hn b) w
 show (Op.equalIn 10000 T _ _).run P w=_
 rw [this]
 congr 1
 by_cases h:a=b
 ·simp [h]
 ·have:¬ f a=f b:=fun e=>h (hf a b e)
  simp [h,this]
end
end Go.Proofs.Mp
end
section
namespace Go.Proofs.Qs
structure K4 where
 a:Int
 b:Int
 c:Int
 d:Int
 deriving DecidableEq
def lvl (s:Int) (ls:List Int) (id:Int):Int:=if id<0 then -1 else if id<s then 0 else ls.getD (id - s).toNat (-1)
def levs (s:Int) (ns:List K4):List Int:=ns.foldl (fun ls k=>ls++[lvl s ls k.a+1]) []
theorem levs_snoc (s:Int) (ns:List K4) (k:K4):levs s (ns++[k])=levs s ns++[lvl s (levs s ns) k.a+1]:=by simp [levs]
theorem levs_length (s:Int) (ns:List K4):(levs s ns).length=ns.length:=by
 rcases List.eq_nil_or_concat ns with rfl|⟨l,x,rfl⟩
 ·rfl
 ·rw [List.concat_eq_append,levs_snoc]
  simp [levs_length s l]
termination_by ns.length
decreasing_by simp_all
theorem levs_take (s:Int) (ns:List K4):∀ i,(levs s ns).take i=levs s (ns.take i):=by
 intro i
 rcases List.eq_nil_or_concat ns with rfl|⟨l,x,rfl⟩
 ·simp [levs]
 ·rw [List.concat_eq_append,levs_snoc]
  rcases Nat.lt_or_ge l.length i with h|h
  ·rw [List.take_of_length_le (by simp [levs_length];omega),List.take_of_length_le (by simp;omega),levs_snoc]
  ·rw [List.take_append_of_le_length (by simp [levs_length];omega),List.take_append_of_le_length h,levs_take s l i]
termination_by ns.length
decreasing_by simp_all
def Fits (s:Int) (ns:List K4) (k:K4):Prop :=
 0≤lvl s (levs s ns) k.a∧lvl s (levs s ns) k.a<256∧lvl s (levs s ns) k.b=lvl s (levs s ns) k.a∧lvl s (levs s ns) k.c=lvl s (levs s ns) k.a∧lvl s (levs s ns) k.d=lvl s (levs s ns) k.a
instance (s:Int) (ns:List K4) (k:K4):Decidable (Fits s ns k):=by unfold Fits;exact inferInstance
def GoodQ (s:Int) (ns:List K4):Prop:=2≤s∧s≤8∧ns.length≤100000∧ns.Nodup∧∀ i k,ns[i]?=some k→Fits s (ns.take i) k
theorem GoodQ.nil {s:Int} (h:2≤s) (h':s≤8):GoodQ s []:=⟨h,h',by simp,by simp,by simp⟩
theorem GoodQ.snoc {s:Int} {ns:List K4} {k:K4} (h:GoodQ s ns) (hk:Fits s ns k) (hn:k∉ns) (hl:ns.length<100000):GoodQ s (ns++[k]):=by
 obtain⟨h1,h2,h3,h4,h5⟩:=h
 refine⟨h1,h2,by simp;omega,?_,?_⟩
 ·rw [List.nodup_append]
  refine⟨h4,by simp,?_⟩
  intro x hx y hy e
  simp at hy
  subst hy;subst e;exact hn hx
 ·intro i x hx
  rcases Nat.lt_or_ge i ns.length with hi|hi
  ·rw [List.getElem?_append_left hi] at hx
   rw [List.take_append_of_le_length (by omega)]
   exact h5 i x hx
  ·have hi':i=ns.length:=by
    have:=(List.getElem?_eq_some_iff.1 hx).1
    simp at this;omega
   subst hi'
   simp at hx
   subst hx
   simpa using hk
def joinIn (s:Int) (ns:List K4) (k:K4):(Int×Int)×List K4 :=
 match ns.idxOf? k with
  | some i=>((s+i,0),ns)
  | none=>if 100000≤ns.length then ((0,6),ns) else ((s+ns.length,0),ns++[k])
def join (s:Int) (ns:List K4) (k:K4):(Int×Int)×List K4 :=
 if lvl s (levs s ns) k.a<0∨lvl s (levs s ns) k.b<0∨lvl s (levs s ns) k.c<0∨lvl s (levs s ns) k.d<0 then ((0,13),ns)
 else if ¬ Fits s ns k then ((0,18),ns)
 else joinIn s ns k
theorem joinIn_hit {s:Int} {ns:List K4} {k:K4} {i:Nat} (h:ns.idxOf? k=some i):joinIn s ns k=((s+i,0),ns):=by unfold joinIn;rw [h]
theorem joinIn_full {s:Int} {ns:List K4} {k:K4} (h:ns.idxOf? k=none) (hl:100000≤ns.length):joinIn s ns k=((0,6),ns):=by unfold joinIn;rw [h];simp only [if_pos hl]
theorem joinIn_new {s:Int} {ns:List K4} {k:K4} (h:ns.idxOf? k=none) (hl:ns.length<100000):joinIn s ns k=((s+ns.length,0),ns++[k]):=by unfold joinIn;rw [h];simp only [if_neg (by omega:¬ 100000≤ns.length)]
def pairs (s:Int) (ns:List K4):List (K4×Int):=ns.zipIdx.map fun p=>(p.1,s+p.2)
theorem pairs_keys (s:Int) (ns:List K4):(pairs s ns).map (·.1)=ns:=by
 simp [pairs,List.map_map,Function.comp_def]
theorem pairs_snoc (s:Int) (ns:List K4) (k:K4):pairs s (ns++[k])=pairs s ns++[(k,s+ns.length)]:=by
 simp [pairs,List.zipIdx_append]
theorem pairs_get (s:Int) (ns:List K4) (i:Nat):(pairs s ns)[i]?=(ns[i]?).map fun k=>(k,s+i):=by
 simp [pairs,List.getElem?_zipIdx]
 cases ns[i]?<;>simp
end Go.Proofs.Qs
end
section
namespace Go.Proofs.YtdanghnadbkhfaaGreat
open Go Go.RowKit Mp Hp Qs
def kl (k:K4):List Int:=[k.a,k.b,k.c,k.d]
def kv (k:K4):Value:=.agg #[.int .i64 k.a,.int .i64 k.b,.int .i64 k.c,.int .i64 k.d]
theorem size_int:(Tryz.prog.info? 3).map (·.size)=some 1:=by kernel_rfl
theorem keys4:KeysBy Tryz.prog 81 kv :=
 KeysBy.ints (q:=.i64) kl (fun a b h=>by cases a;cases b;simpa [kl] using h) (fun _=>rfl) Tryz.underlying81 Tryz.underlying3 size_int
section
variable (w:World) (a b c d:Value)
theorem index4_0:(Instr.index 81 (.agg #[a,b,c,d]) (.int .i64 0)).run Tryz.prog w=.ok a w:=by kernel_rfl
theorem index4_1:(Instr.index 81 (.agg #[a,b,c,d]) (.int .i64 1)).run Tryz.prog w=.ok b w:=by kernel_rfl
theorem index4_2:(Instr.index 81 (.agg #[a,b,c,d]) (.int .i64 2)).run Tryz.prog w=.ok c w:=by kernel_rfl
theorem index4_3:(Instr.index 81 (.agg #[a,b,c,d]) (.int .i64 3)).run Tryz.prog w=.ok d w:=by kernel_rfl
end
theorem eq4 (w:World) (a b c d x y z u:Int):(Op.equalIn 10000 81 (.agg #[.int .i64 a,.int .i64 b,.int .i64 c,.int .i64 d]) (.agg #[.int .i64 x,.int .i64 y,.int .i64 z,.int .i64 u])).run Tryz.prog w =
  .ok (a == x && (b == y && (c == z && d == u))) w:=by
 refine (run_equalIn_ints (q:=.i64) Tryz.underlying81 Tryz.underlying3 size_int 9998 [a,b,c,d] [x,y,z,u] rfl rfl w).trans ?_
 congr 1
 rw [Bool.eq_iff_iff];simp
theorem eq4s (w:World) (a b c d x y z u:Int):(Op.equalIn 9999 81 (.agg #[.int .i64 a,.int .i64 b,.int .i64 c,.int .i64 d]) (.agg #[.int .i64 x,.int .i64 y,.int .i64 z,.int .i64 u])).run Tryz.prog w =
  .ok (a == x && (b == y && (c == z && d == u))) w:=by
 refine (run_equalIn_ints (q:=.i64) Tryz.underlying81 Tryz.underlying3 size_int 9997 [a,b,c,d] [x,y,z,u] rfl rfl w).trans ?_
 congr 1
 rw [Bool.eq_iff_iff];simp
attribute [go_sem] eq4 eq4s index4_0 index4_1 index4_2 index4_3
end Go.Proofs.YtdanghnadbkhfaaGreat
end
section
namespace Go.Proofs.YtdanghnadbkhfaaGreat
open Go Go.RowKit Rg Mp Hp Qs
def flat (ns:List K4):List Value:=ns.flatMap fun k=>[.int .i64 k.a,.int .i64 k.b,.int .i64 k.c,.int .i64 k.d]
structure StoreIn (w:World) (b:Nat) (s:Int) (ns:List K4) (nv lv:Value) (mb:Nat):Prop where
 blk:w.heap[b]?=some (.cells #[.int .i64 s,nv,lv,.map (some mb)] 137 (0,0))
 nodes:w.ownsRow 0 105 4 nv ns.length (flat ns)
 levels:w.ownsRow 0 3 1 lv ns.length ((levs s ns).map (Value.int .i64))
 known:MapIs w mb kv (Value.int .i64) (pairs s ns)
 ne1:b≠mb
 ne2:nv.ownBlock≠some b
 ne3:nv.ownBlock≠some mb
 ne4:lv.ownBlock≠some b
 ne5:lv.ownBlock≠some mb
 ne6:∀ g,nv.ownBlock=some g→lv.ownBlock≠some g
def foot (b:Nat) (nv lv:Value) (mb:Nat):List Nat:=b::mb::(nv.ownBlock.toList++lv.ownBlock.toList)
def StoreAt (w:World) (b:Nat) (s:Int) (ns:List K4) (F:List Nat):Prop:=GoodQ s ns∧∃ nv lv mb,StoreIn w b s ns nv lv mb∧F=foot b nv lv mb
theorem StoreIn.keep {w w':World} {b mb:Nat} {s:Int} {ns:List K4} {nv lv:Value} (h:StoreIn w b s ns nv lv mb) (hk:∀ x∈foot b nv lv mb,w'.heap[x]?=w.heap[x]?):StoreIn w' b s ns nv lv mb where
 blk:=(hk b (by simp [foot])).trans h.blk
 nodes:=oOB h.nodes fun g hg=>hk g (by simp [foot,hg])
 levels:=oOB h.levels fun g hg=>hk g (by simp [foot,hg])
 known:=h.known.of_block (hk mb (by simp [foot]))
 ne1:=h.ne1
 ne2:=h.ne2
 ne3:=h.ne3
 ne4:=h.ne4
 ne5:=h.ne5
 ne6:=h.ne6
theorem StoreIn.lt {w:World} {b mb:Nat} {s:Int} {ns:List K4} {nv lv:Value} (h:StoreIn w b s ns nv lv mb):∀ x∈foot b nv lv mb,x<w.heap.size:=by
 intro x hx
 simp only [foot,List.mem_cons,List.mem_append,Option.mem_toList] at hx
 rcases hx with rfl|rfl|hx|hx
 ·exact lBk h.blk
 ·exact h.known.lt
 ·exact oLT h.nodes hx
 ·exact oLT h.levels hx
theorem StoreAt.keep {w w':World} {b:Nat} {s:Int} {ns:List K4} {F:List Nat} (h:StoreAt w b s ns F) (hk:∀ x∈F,w'.heap[x]?=w.heap[x]?):StoreAt w' b s ns F:=by
 obtain⟨hg,nv,lv,mb,hS,rfl⟩:=h
 exact⟨hg,nv,lv,mb,hS.keep hk,rfl⟩
theorem StoreAt.lt {w:World} {b:Nat} {s:Int} {ns:List K4} {F:List Nat} (h:StoreAt w b s ns F):∀ x∈F,x<w.heap.size:=by
 obtain⟨hg,nv,lv,mb,hS,rfl⟩:=h
 exact hS.lt
theorem StoreAt.fr {w w':World} {b:Nat} {s:Int} {ns:List K4} {F G:List Nat} (h:StoreAt w b s ns F) (hf:Fr G w w') (hd:∀ x∈F,x∉G):StoreAt w' b s ns F :=
 h.keep fun x hx=>hf.block x (h.lt x hx) (hd x hx)
theorem StoreAt.drew {w w':World} {b:Nat} {s:Int} {ns:List K4} {F:List Nat} (h:StoreAt w b s ns F) (hd:Drew w w'):StoreAt w' b s ns F:=h.keep fun x _=>by rw [hd.heap]
set_option maxHeartbeats 400000 in
theorem Level_neg (b:Nat) (id:Int) (w:World) (h:id<0) :
  Calls Tryz.prog 39 #[.pointer (some ⟨b,0,none⟩),.int .i64 id] w fun e w'=>e=.returned (.int .i64 (-1))∧Drew w w':=by
 have hd:decide (id<0)=true:=by simpa using h
 go_enter Tryz.func39,Tryz.ntmps39
 go_wp2
 refine wRT (by kernel_rfl) (by kernel_rfl) ?_
 go_wp2
 refine Strict.intro rfl ?_
 go_wp2
 go_ret
 exact⟨rfl,(Drew.refl _).drew⟩
set_option maxHeartbeats 400000 in
theorem Level_state (b:Nat) (id s:Int) (na:Option Addr) (nl nc:Nat) (w:World) (h0:w.cell? ⟨b,0,none⟩=some (.int .i64 s)) (h1:w.cell? ⟨b,1,none⟩=some (.slice na nl nc))
  (hs:0≤s) (hs2:s≤8) (hnl:nl≤100000) (hid:0≤id) (hid2:id<s) :
  Calls Tryz.prog 39 #[.pointer (some ⟨b,0,none⟩),.int .i64 id] w fun e w'=>e=.returned (.int .i64 0)∧Drew w w':=by
 have hd:decide (id<0)=false:=by simp;omega
 go_enter Tryz.func39,Tryz.ntmps39
 go_wp2
 refine wRT (by kernel_rfl) (by kernel_rfl) ?_
 go_wp2
 refine Strict.intro rfl ?_
 go_wp2
 go_ret
 exact⟨rfl,(Drew.refl _).drew⟩
set_option maxHeartbeats 400000 in
theorem Level_far (b:Nat) (id s:Int) (na:Option Addr) (nl nc:Nat) (w:World) (h0:w.cell? ⟨b,0,none⟩=some (.int .i64 s)) (h1:w.cell? ⟨b,1,none⟩=some (.slice na nl nc))
  (hs:0≤s) (hs2:s≤8) (hnl:nl≤100000) (hid:s+nl≤id) :
  Calls Tryz.prog 39 #[.pointer (some ⟨b,0,none⟩),.int .i64 id] w fun e w'=>e=.returned (.int .i64 (-1))∧Drew w w':=by
 have hd:decide (id<0)=false:=by simp;omega
 go_enter Tryz.func39,Tryz.ntmps39
 go_wp2
 refine wRT (by kernel_rfl) (by kernel_rfl) ?_
 go_wp2
 refine Strict.intro rfl ?_
 go_wp2
 go_ret
 exact⟨rfl,(Drew.refl _).drew⟩
set_option maxHeartbeats 400000 in
theorem Level_node (b:Nat) (s:Int) (k:Nat) (na:Option Addr) (nl nc nl' nc' lb:Nat) (v:Int) (w:World) (h0:w.cell? ⟨b,0,none⟩=some (.int .i64 s)) (h1:w.cell? ⟨b,1,none⟩=some (.slice na nl nc))
  (h2:w.cell? ⟨b,2,none⟩=some (.slice (some ⟨lb,0,none⟩) nl' nc')) (hs:0≤s) (hs2:s≤8) (hnl:nl≤100000) (hid:k<nl) (hid':k<nl') (hc:w.cell? ⟨lb,k,none⟩=some (.int .i64 v)) :
  Calls Tryz.prog 39 #[.pointer (some ⟨b,0,none⟩),.int .i64 (s+k)] w fun e w'=>e=.returned (.int .i64 v)∧Drew w w':=by
 have hw1:IntKind.i64.wrap (s+↑k - s)=↑k:=IntWalk.i64_in _ (by omega) |>.trans (by omega)
 go_enter Tryz.func39,Tryz.ntmps39
 go_wp2
 refine wRT (by kernel_rfl) (by kernel_rfl) ?_
 go_wp2
 refine Strict.intro rfl ?_
 go_wp2
 refine wRT (by kernel_rfl) (by kernel_rfl) ?_
 go_wp2
 refine Strict.intro rfl ?_
 go_wp2
 go_ret
 exact⟨rfl,(Drew.refl _).drew.drew⟩
theorem Level_calls {w:World} {b:Nat} {s:Int} {ns:List K4} {F:List Nat} (hS:StoreAt w b s ns F) (id:Int) :
  Calls Tryz.prog 39 #[.pointer (some ⟨b,0,none⟩),.int .i64 id] w fun e w'=>e=.returned (.int .i64 (lvl s (levs s ns) id))∧Drew w w':=by
 obtain⟨⟨hs,hs2,hl,_⟩,nv,lv,mb,hI,rfl⟩:=hS
 obtain⟨na,nc,rfl,_⟩:=oFM hI.nodes
 obtain⟨la,lc,rfl,hla,_⟩:=oFM hI.levels
 have h0:w.cell? ⟨b,0,none⟩=some (.int .i64 s):=hEC hI.blk 0
 have h1:w.cell? ⟨b,1,none⟩=some (.slice na ns.length nc):=hEC hI.blk 1
 have h2:w.cell? ⟨b,2,none⟩=some (.slice la ns.length lc):=hEC hI.blk 2
 have hlen:=levs_length s ns
 unfold lvl
 by_cases hneg:id<0
 ·rw [if_pos hneg];exact Level_neg b id w hneg
 ·rw [if_neg hneg]
  by_cases hst:id<s
  ·rw [if_pos hst];exact Level_state b id s na _ nc w h0 h1 (by omega) hs2 hl (by omega) hst
  ·rw [if_neg hst]
   by_cases hfar:s+ns.length≤id
   ·rw [List.getD_eq_getElem?_getD,List.getElem?_eq_none (by omega)]
    exact Level_far b id s na _ nc w h0 h1 (by omega) hs2 hl hfar
   ·obtain⟨k,rfl⟩:∃ k:Nat,id=s+k:=⟨(id - s).toNat,by omega⟩
    obtain⟨g,rfl⟩:=hla (by omega)
    have hk:k<(levs s ns).length:=by omega
    have hk':(s+↑k - s).toNat=k:=by omega
    rw [hk',List.getD_eq_getElem?_getD,List.getElem?_eq_getElem hk]
    exact Level_node b s k na _ nc _ lc g _ w h0 h1 h2 (by omega) hs2 hl (by omega) (by omega) (owns_cell hI.levels rfl (by simp [hk]))
end Go.Proofs.YtdanghnadbkhfaaGreat
end
section
namespace Go.Proofs.YtdanghnadbkhfaaGreat
open Go Go.RowKit Rg Mp Hp Qs
theorem find_hit {s:Int} {ns:List K4} {k:K4} {i:Nat} (h:ns.idxOf? k=some i):get? (pairs s ns) k=some (s+i):=by
 unfold get?
 rw [pairs_keys,h]
 have hi:i<ns.length:=by rw [List.idxOf?_eq_some_iff] at h;exact h.1
 simp [pairs_get,hi]
theorem find_miss {s:Int} {ns:List K4} {k:K4} (h:ns.idxOf? k=none):get? (pairs s ns) k=none:=by
 unfold get?
 rw [pairs_keys,h];rfl
theorem put_miss {s:Int} {ns:List K4} {k:K4} (h:ns.idxOf? k=none):put (pairs s ns) k (s+ns.length)=pairs s (ns++[k]):=by
 unfold put
 rw [pairs_keys,h,pairs_snoc]
theorem flat_snoc (ns:List K4) (k:K4):flat (ns++[k])=flat ns++[.int .i64 k.a,.int .i64 k.b,.int .i64 k.c,.int .i64 k.d]:=by simp [flat]
theorem info_quad:(Tryz.prog.info? 105).map (fun i=>(i.zero,i.size,i.bytes))=some (some (.agg #[.int .i64 0,.int .i64 0,.int .i64 0,.int .i64 0]),4,32):=by kernel_rfl
theorem info_int:(Tryz.prog.info? 3).map (fun i=>(i.zero,i.size,i.bytes))=some (some (.int .i64 0),1,8):=by kernel_rfl
theorem zero_int (w:World):(zeroValue 3).run Tryz.prog w=.ok (.int .i64 0) w:=by kernel_rfl
def kcells (k:K4):List Value:=[.int .i64 k.a,.int .i64 k.b,.int .i64 k.c,.int .i64 k.d]
theorem append_quad {ops:Array Oper} {rest:List Oper} {o:Oper} {a:Act} {W:World} {Q:Exit→Act→World→Prop} (hgd:o.guard=none) {s x:Operand} (ho:o.op=.call { callee:=.builtin .append,args:=#[s,x],argTypes:=#[22,22] })
  {base:Nat} {v:Value} {n:Nat} {xs:List Value} (hs:a.eval s=v) (hown:W.ownsRow base 105 4 v n xs) {nb c:Nat} {k:K4} (hx:a.eval x=.slice (some ⟨nb,0,none⟩) 1 c)
  (hnb:W.heap[nb]?=some (.cells #[.int .i64 k.a,.int .i64 k.b,.int .i64 k.c,.int .i64 k.d] 105 (0,0))) (hn:n≤4000000000000) (hbase:base≤W.heap.size)
  (h:∀ g cap w',w'.ownsRow base 105 4 (.slice (some ⟨g,0,none⟩) (n+1) cap) (n+1) (xs++kcells k)→(∀ b,b<W.heap.size→v.ownBlock≠some b→w'.heap[b]?=W.heap[b]?)→Fr v.ownBlock.toList W w'→(v.ownBlock=some g∨g=W.heap.size)→g<w'.heap.size →
   wpList Tryz.prog ops Q rest (a.put o.dst (.slice (some ⟨g,0,none⟩) (n+1) cap)) w'):wpList Tryz.prog ops Q (o::rest) a W :=
 append_new hgd ho Tryz.underlying22 info_quad rfl (by decide) hs hown hx (news:=kcells k) hnb rfl (by intro u hu;simp [kcells] at hu;rcases hu with rfl|rfl|rfl|rfl<;>rfl) (by unfold maxLen;omega) (by omega) hbase h
def JoinPost (w:World) (b:Nat) (s:Int) (ns:List K4) (F:List Nat) (k:K4) (e:Ending) (w':World):Prop :=
 e=.returned (.tuple #[.int .i64 (join s ns k).1.1,.int .i64 (join s ns k).1.2])∧∃ F',StoreAt w' b s (join s ns k).2 F'∧Fr F w w'∧(∀ x∈F',x∈F∨w.heap.size≤x)
theorem JoinPost.same {w w':World} {b:Nat} {s:Int} {ns:List K4} {F:List Nat} {k:K4} {r e:Int} (hS:StoreAt w b s ns F) (hf:Fr [] w w') (hj:join s ns k=((r,e),ns)) :
  JoinPost w b s ns F k (.returned (.tuple #[.int .i64 r,.int .i64 e])) w':=by
 unfold JoinPost
 rw [hj]
 exact⟨rfl,F,hS.fr hf (by simp),hf.mono (by simp),fun x hx=>.inl hx⟩
set_option maxHeartbeats 8000000 in
set_option maxRecDepth 100000 in
theorem Join_calls {w:World} {b:Nat} {s:Int} {ns:List K4} {F:List Nat} (hS:StoreAt w b s ns F) (k:K4) :
  Calls Tryz.prog 75 #[.pointer (some ⟨b,0,none⟩),.int .i64 k.a,.int .i64 k.b,.int .i64 k.c,.int .i64 k.d] w (JoinPost w b s ns F k):=by
 have hL:∀ w1,Fr [] w w1→∀ id,Calls Tryz.prog 39 #[.pointer (some ⟨b,0,none⟩),.int .i64 id] w1 fun e w'=>e=.returned (.int .i64 (lvl s (levs s ns) id))∧Drew w1 w':=fun w1 hf id=>Level_calls (hS.fr hf (by simp)) id
 have ea:=(hL · · k.a)
 have eb:=(hL · · k.b)
 have ec:=(hL · · k.c)
 have ed:=(hL · · k.d)
 clear hL
 generalize hla:lvl s (levs s ns) k.a=la at *
 generalize hlb:lvl s (levs s ns) k.b=lb at *
 generalize hlc:lvl s (levs s ns) k.c=lc at *
 generalize hld:lvl s (levs s ns) k.d=ld at *
 have Hla:=Lib.hid hla
 have Hlb:=Lib.hid hlb
 have Hlc:=Lib.hid hlc
 have Hld:=Lib.hid hld
 clear hla hlb hlc hld
 go_enter Tryz.func75,Tryz.ntmps75
 go_wp2
 refine wp_loop_rounds 5 ?_
 rw [rounds_succ]
 go_wp2_with fail
 refine (ea _ ?_).mono ?_
 ·repeat (first|exact Fr.refl _ _|apply Fr.drewN|apply Fr.drew|apply Fr.alloc)
 rintro e w' ⟨rfl,n1,rfl⟩
 go_wp2
 ·go_ret2
  refine JoinPost.same hS (by repeat (first|exact Fr.refl _ _|apply Fr.drewN|apply Fr.drew|apply Fr.alloc|refine Fr.setCell ?_ (Or.inr (by simp)) _)) ?_
  have h:la<0:=by assumption
  simp [join,Hla.out,h]
 rw [rounds_succ]
 go_wp2_with fail
 refine (eb _ ?_).mono ?_
 ·repeat (first|exact Fr.refl _ _|apply Fr.drewN|apply Fr.drew|apply Fr.alloc|refine Fr.setCell ?_ (Or.inr (by simp)) _)
 rintro e w' ⟨rfl,n2,rfl⟩
 go_wp2
 ·go_ret2
  refine JoinPost.same hS (by repeat (first|exact Fr.refl _ _|apply Fr.drewN|apply Fr.drew|apply Fr.alloc|refine Fr.setCell ?_ (Or.inr (by simp)) _)) ?_
  have h:lb<0:=by assumption
  simp [join,Hlb.out,h]
 rw [rounds_succ]
 go_wp2_with fail
 refine (ec _ ?_).mono ?_
 ·repeat (first|exact Fr.refl _ _|apply Fr.drewN|apply Fr.drew|apply Fr.alloc|refine Fr.setCell ?_ (Or.inr (by simp)) _)
 rintro e w' ⟨rfl,n3,rfl⟩
 go_wp2
 ·go_ret2
  refine JoinPost.same hS (by repeat (first|exact Fr.refl _ _|apply Fr.drewN|apply Fr.drew|apply Fr.alloc|refine Fr.setCell ?_ (Or.inr (by simp)) _)) ?_
  have h:lc<0:=by assumption
  simp [join,Hlc.out,h]
 rw [rounds_succ]
 go_wp2_with fail
 refine (ed _ ?_).mono ?_
 ·repeat (first|exact Fr.refl _ _|apply Fr.drewN|apply Fr.drew|apply Fr.alloc|refine Fr.setCell ?_ (Or.inr (by simp)) _)
 rintro e w' ⟨rfl,n4,rfl⟩
 go_wp2
 ·go_ret2
  refine JoinPost.same hS (by repeat (first|exact Fr.refl _ _|apply Fr.drewN|apply Fr.drew|apply Fr.alloc|refine Fr.setCell ?_ (Or.inr (by simp)) _)) ?_
  have h:ld<0:=by assumption
  simp [join,Hld.out,h]
 rw [rounds_succ]
 go_wp2
 rotate_right
 ·go_ret2
  refine JoinPost.same hS (by repeat (first|exact Fr.refl _ _|apply Fr.drewN|apply Fr.drew|apply Fr.alloc|refine Fr.setCell ?_ (Or.inr (by simp)) _)) ?_
  have h:¬(lb=la∧lc=la∧ld=la):=by assumption
  unfold join
  rw [if_neg (by rw [Hla.out,Hlb.out,Hlc.out,Hld.out];omega),if_pos (by unfold Fits;rw [Hla.out,Hlb.out,Hlc.out,Hld.out];omega)]
 ·go_ret2
  refine JoinPost.same hS (by repeat (first|exact Fr.refl _ _|apply Fr.drewN|apply Fr.drew|apply Fr.alloc|refine Fr.setCell ?_ (Or.inr (by simp)) _)) ?_
  have h:256≤la:=by assumption
  unfold join
  rw [if_neg (by rw [Hla.out,Hlb.out,Hlc.out,Hld.out];omega),if_pos (by unfold Fits;rw [Hla.out,Hlb.out,Hlc.out,Hld.out];omega)]
 have hfit:Fits s ns k:=by
  have h1:lb=la∧lc=la∧ld=la:=by assumption
  have h2:la<256:=by assumption
  unfold Fits;rw [Hla.out,Hlb.out,Hlc.out,Hld.out];omega
 have hjoin:join s ns k=joinIn s ns k:=by
  unfold join
  rw [if_neg (by rw [Hla.out,Hlb.out,Hlc.out,Hld.out];omega),if_neg (by simpa using hfit)]
 have Hj:=Lib.hid hjoin
 clear hjoin
 refine aBW (fun W=>Fr [] w W∧W.heap.size=w.heap.size+2∧W.heap[w.heap.size]?=some (.cells #[.int .i64 k.a,.int .i64 k.b,.int .i64 k.c,.int .i64 k.d] 81 (0,0)) ∧
  W.heap[w.heap.size+1]?=some (.cells #[.int .i64 la,.int .i64 la,.int .i64 la,.int .i64 la] 81 (0,0))) ?_ ?_
 ·refine⟨by repeat (first|exact Fr.refl _ _|apply Fr.drewN|apply Fr.drew|apply Fr.alloc|refine Fr.setCell ?_ (Or.inr (by simp)) _),by simp only [hDN,hAz,hSz],?_,?_⟩
  ·simp only [hDN,hAz,hAC,hSC,show ¬ (w.heap.size=w.heap.size+1) by omega,if_true,if_false]
  ·simp only [hDN,hAz,hAC,hSC,if_true,Option.map_some,uPC,List.set_cons_zero,List.set_cons_succ]
 rintro W ⟨hW,hsz,hk0,hk1⟩
 clear ea eb ec ed
 have hSW:=hS.fr hW (by simp)
 obtain⟨hgood,nv,lv,mb,hI,rfl⟩:=hSW
 have hSW':StoreAt W b s ns (foot b nv lv mb):=⟨hgood,nv,lv,mb,hI,rfl⟩
 obtain⟨na,nc,rfl,hx1⟩:=oFM hI.nodes
 obtain⟨la',lc',rfl,hx2⟩:=oFM hI.levels
 clear hx1 hx2
 have hlen:ns.length≤100000:=hgood.2.2.1
 have hs1:2≤s:=hgood.1
 have hs2:s≤8:=hgood.2.1
 have b0:W.cell? ⟨b,0,none⟩=some (.int .i64 s):=hEC hI.blk 0
 have b1:W.cell? ⟨b,1,none⟩=some (.slice na ns.length nc):=hEC hI.blk 1
 have b2:W.cell? ⟨b,2,none⟩=some (.slice la' ns.length lc'):=hEC hI.blk 2
 have b3:W.cell? ⟨b,3,none⟩=some (.map (some mb)):=hEC hI.blk 3
 have k0:W.cell? ⟨w.heap.size,0,none⟩=some (.int .i64 k.a):=hEC hk0 0
 have k1:W.cell? ⟨w.heap.size,1,none⟩=some (.int .i64 k.b):=hEC hk0 1
 have k2:W.cell? ⟨w.heap.size,2,none⟩=some (.int .i64 k.c):=hEC hk0 2
 have k3:W.cell? ⟨w.heap.size,3,none⟩=some (.int .i64 k.d):=hEC hk0 3
 have HB:=Lib.hid hI
 have Hsz:=Lib.hid hsz
 have hle:w.heap.size+1<W.heap.size:=by omega
 clear hsz
 have HK0:=Lib.hid hk0
 have HK1:=Lib.hid hk1
 clear hI hk0 hk1
 refine wRT (by kernel_rfl) (by kernel_rfl) ?_
 cases hfind:ns.idxOf? k with
 | some i =>
  go_wp2_with (at_lookup;refine wpList_lookup_hit (f:=kv) (g:=Value.int .i64) (k:=k) (z:=.int .i64 0) rfl rfl rfl rfl (HB.out.known.of_block rfl) Tryz.underlying135 keys4 (zero_int _) (find_hit hfind) ?_)
  refine Strict.intro rfl ?_
  go_wp2
  go_ret2
  refine JoinPost.same hS (hW.drew) ?_
  rw [Hj.out,joinIn_hit hfind]
 | none =>
  have l0:W.cell? ⟨w.heap.size+1,0,none⟩=some (.int .i64 la):=hEC HK1.out 0
  by_cases hfull:ns.length<100000
  ·have hd:decide ((100000:Int)≤↑ns.length)=false:=by simp;omega
   have Hlen:=Lib.hid hlen
   have Hfull:=Lib.hid hfull
   clear hlen hfull
   have hl:ns.length≤1048576:=by have:=Hlen.out;omega
   go_wp2_with (at_lookup;refine wpList_lookup_miss (f:=kv) (g:=Value.int .i64) (k:=k) (z:=.int .i64 0) rfl rfl rfl rfl (HB.out.known.of_block rfl) Tryz.underlying135 keys4 (zero_int _) (find_miss hfind) ?_)
   refine Strict.intro rfl ?_
   go_wp2_with fail
   refine wRT (by kernel_rfl) (by kernel_rfl) ?_
   go_wp2
   refine Strict.intro rfl ?_
   go_wp2
   obtain⟨i0,hi0,hi1,hi2,hi3⟩:=info_parts info_quad
   obtain⟨j0,hj0,hj1,hj2,hj3⟩:=info_parts info_int
   refine wRT (by kernel_rfl) (by kernel_rfl) ?_
   go_wp2_with (at_builtin;refine wpList_append_lies _ rfl _ _ 22 rfl 0 105 i0 _ 4 32 Tryz.underlying22 hi0 hi1 hi2 hi3 rfl (by decide) (.slice na ns.length nc) ns.length (flat ns) rfl ?e2 _ 1 1 [.int .i64 k.a,.int .i64 k.b,.int .i64 k.c,.int .i64 k.d] rfl rfl ?e3 ?e4 (by decide) ?e5 ?e6 (Nat.zero_le _) _ rfl ?_)
   case e2=>exact oOB HB.out.nodes fun x hx=>hAE _ _ _ (oLT HB.out.nodes hx)
   case e3 =>
    intro j u hj
    have hsz':(W.alloc (.cells #[.int .i64 k.a,.int .i64 k.b,.int .i64 k.c,.int .i64 k.d] 105)).heap[W.heap.size]?=some (.cells #[.int .i64 k.a,.int .i64 k.b,.int .i64 k.c,.int .i64 k.d] 105):=by rw [hAC,if_pos rfl]
    have:=cell_row_add hsz' j
    rw [show (World.drew (World.drew (World.drew (W.alloc (.cells #[.int .i64 k.a,.int .i64 k.b,.int .i64 k.c,.int .i64 k.d] 105))))).cell? _=_ from this]
    simpa using hj
   case e4=>intro u hu;simp at hu;rcases hu with rfl|rfl|rfl|rfl<;>rfl
   case e5=>unfold maxLen;omega
   case e6=>omega
   intro g cap w1 hown1 hgrow1 hloc1 hg1
   have hW1:∀ x,x<W.heap.size→(Value.slice na ns.length nc).ownBlock≠some x→w1.heap[x]?=W.heap[x]?:=fun x hx hn=>(hgrow1.block x (by rw [hDR,hDR,hDR,hAz];omega) (fun e=>hn e.symm)).trans (hAE _ _ _ hx)
   have hsz1:W.heap.size+1≤w1.heap.size:=by have:=hgrow1.size;rw [hDR,hDR,hDR,hAz] at this;exact this
   have hbW:=lBk HB.out.blk
   have hb1:=(hW1 b hbW HB.out.ne2).trans HB.out.blk
   have c0:=hEC hb1 0
   have c1:=hEC hb1 1
   have c2:=hEC hb1 2
   have c3:=hEC hb1 3
   have f1:=hEF hb1 1
   have Hown1:=Lib.hid hown1
   have Hgrow1:=Lib.hid hgrow1
   have Hloc1:=Lib.hid hloc1
   have HW1:=Lib.hid hW1
   clear hown1 hgrow1 hloc1 hW1 hb1
   go_wp2
   refine Strict.intro rfl ?_
   go_wp2
   refine aBW (fun V=>V.heap.size=w1.heap.size∧(∀ x,x≠b→V.heap[x]?=w1.heap[x]?) ∧
    V.heap[b]?=some (.cells #[.int .i64 s,.slice (some ⟨g,0,none⟩) (ns.length+1) cap,.slice la' ns.length lc',.map (some mb)] 137 (0,0))∧Fr (foot b (.slice na ns.length nc) (.slice la' ns.length lc') mb) W V) ?_ ?_
   ·refine⟨by simp only [hSz],fun x hx=>?_,?_,?_⟩
    ·simp only [hSC,if_neg hx]
    ·simp only [hSC,if_true,(HW1.out b hbW HB.out.ne2).trans HB.out.blk,Option.map_some,uPC,List.set_cons_zero,List.set_cons_succ]
    ·refine (((((((Fr.refl _ W).alloc _).drew).drew).drew).grown Hgrow1.out fun x hx=>.inl ?_).setCell (.inl ?_) _)
     ·simp [foot,hx]
     ·simp [foot]
   rintro V ⟨hVs,hVo,hVb,hVf⟩
   have hV:∀ x,x<W.heap.size→x≠b→(Value.slice na ns.length nc).ownBlock≠some x→V.heap[x]?=W.heap[x]?:=fun x hx hn hn'=>(hVo x hn).trans (HW1.out x hx hn')
   have hVl:V.ownsRow 0 3 1 (.slice la' ns.length lc') ns.length ((levs s ns).map (Value.int .i64)):=oOB HB.out.levels fun x hx=>hV x (oLT HB.out.levels hx) (fun e=>HB.out.ne4 (by rw [hx,e])) fun e=>HB.out.ne6 x e hx
   have hbnew:∀ x,w.heap.size≤x→x<w.heap.size+2→V.heap[x]?=W.heap[x]?:=fun x hx hx'=>by
    have hSx:=hS.lt
    refine hV x (by have:=Hsz.out;omega) (fun e=>?_) fun e=>?_
    ·have:=hSx b (by simp [foot]);omega
    ·have:=hSx x (by simp [foot,e]);omega
   have v1:V.cell? ⟨w.heap.size+1,0,none⟩=some (.int .i64 la):=hEC ((hbnew _ (by omega) (by omega)).trans HK1.out) 0
   have d0:=hEC hVb 0
   have d1:=hEC hVb 1
   have d2:=hEC hVb 2
   have d3:=hEC hVb 3
   have e2:=hEF hVb 2
   have HVo:=Lib.hid hVo
   have HV:=Lib.hid hV
   have HVb:=Lib.hid hVb
   have HVf:=Lib.hid hVf
   have HVl:=Lib.hid hVl
   have HVs:=Lib.hid hVs
   have Hbnew:=Lib.hid hbnew
   clear hVo hV hVb hVf hVl hVs hbnew b0 b1 b2 b3 c0 c1 c2 c3 f1 k0 k1 k2 k3 l0
   have hla0:0≤la:=by assumption
   have hla1:la<256:=by assumption
   refine wRT (by kernel_rfl) (by kernel_rfl) ?_
   go_wp2_with (at_builtin;refine wpList_append_lies _ rfl _ _ 134 rfl 0 3 j0 _ 1 8 Tryz.underlying134 hj0 hj1 hj2 hj3 rfl (by decide) (.slice la' ns.length lc') ns.length ((levs s ns).map (Value.int .i64)) rfl ?e2 _ 1 1 [.int .i64 (la+1)] rfl rfl ?e3 ?e4 (by decide) ?e5 ?e6 (Nat.zero_le _) _ rfl ?_)
   case e2=>exact oOB HVl.out fun x hx=>hAE _ _ _ (oLT HVl.out hx)
   case e3 =>
    intro j u hj
    have hsz':(V.alloc (.cells #[.int .i64 (la+1)] 3)).heap[V.heap.size]?=some (.cells #[.int .i64 (la+1)] 3):=by rw [hAC,if_pos rfl]
    have:=cell_row_add hsz' j
    rw [show (World.drew (V.alloc (.cells #[.int .i64 (la+1)] 3))).cell? _=_ from this]
    simpa using hj
   case e4=>intro u hu;simp at hu;subst hu;rfl
   case e5=>unfold maxLen;omega
   case e6=>omega
   intro g2 cap2 w2 hown2 hgrow2 hloc2 hg2
   have hbV:b<V.heap.size:=lBk HVb.out
   have hW2:∀ x,x<V.heap.size→(Value.slice la' ns.length lc').ownBlock≠some x→w2.heap[x]?=V.heap[x]?:=fun x hx hn=>(hgrow2.block x (by rw [hDR,hAz];omega) (fun e=>hn e.symm)).trans (hAE _ _ _ hx)
   have hb2:=(hW2 b hbV HB.out.ne4).trans HVb.out
   have c0:=hEC hb2 0
   have c1:=hEC hb2 1
   have c2:=hEC hb2 2
   have c3:=hEC hb2 3
   have f2:=hEF hb2 2
   have Hown2:=Lib.hid hown2
   have Hgrow2:=Lib.hid hgrow2
   have Hloc2:=Lib.hid hloc2
   have HW2:=Lib.hid hW2
   clear hown2 hgrow2 hloc2 hW2 hb2
   go_wp2
   refine Strict.intro rfl ?_
   go_wp2
   refine aBW (fun U=>(∀ x,x≠b→U.heap[x]?=w2.heap[x]?) ∧
    U.heap[b]?=some (.cells #[.int .i64 s,.slice (some ⟨g,0,none⟩) (ns.length+1) cap,.slice (some ⟨g2,0,none⟩) (ns.length+1) cap2,.map (some mb)] 137 (0,0)) ∧
    Fr (foot b (.slice na ns.length nc) (.slice la' ns.length lc') mb) W U) ?_ ?_
   ·refine⟨fun x hx=>?_,?_,?_⟩
    ·simp only [hSC,if_neg hx]
    ·simp only [hSC,if_true,(HW2.out b hbV HB.out.ne4).trans HVb.out,Option.map_some,uPC,List.set_cons_zero,List.set_cons_succ]
    ·refine HVf.out.trans (((((Fr.refl (foot b (.slice na ns.length nc) (.slice la' ns.length lc') mb) V).alloc _).drew).grown Hgrow2.out fun x hx=>.inl ?_).setCell (.inl ?_) _) fun x hx=>.inl hx
     ·simp [foot,hx]
     ·simp [foot]
   rintro U ⟨hUo,hUb,hUf⟩
   have hU:∀ x,x<W.heap.size→x≠b→(Value.slice na ns.length nc).ownBlock≠some x→(Value.slice la' ns.length lc').ownBlock≠some x→U.heap[x]?=W.heap[x]?:=fun x hx h1 h2 h3 =>
    (hUo x h1).trans ((HW2.out x (by have:=HVs.out;omega) h3).trans (HV.out x hx h1 h2))
   have hmbW:mb<W.heap.size:=HB.out.known.lt
   have hmap:MapIs U mb kv (Value.int .i64) (pairs s ns):=HB.out.known.of_block (hU mb hmbW (fun e=>HB.out.ne1 e.symm) HB.out.ne3 HB.out.ne5)
   have hkid:U.heap[w.heap.size]?=some (.cells #[.int .i64 k.a,.int .i64 k.b,.int .i64 k.c,.int .i64 k.d] 81 (0,0)):=by
    have hSx:=hS.lt
    refine (hU _ (by omega) (fun e=>?_) (fun e=>?_) fun e=>?_).trans HK0.out
    ·have:=hSx b (by simp [foot]);omega
    ·have:=hSx w.heap.size (by simp [foot,e]);omega
    ·have:=hSx w.heap.size (by simp [foot,e]);omega
   have k0:=hEC hkid 0
   have k1:=hEC hkid 1
   have k2:=hEC hkid 2
   have k3:=hEC hkid 3
   have d0:=hEC hUb 0
   have d1:=hEC hUb 1
   have d2:=hEC hUb 2
   have d3:=hEC hUb 3
   have HUo:=Lib.hid hUo
   have HUb:=Lib.hid hUb
   have HUf:=Lib.hid hUf
   have Hmap:=Lib.hid hmap
   have Hkid:=Lib.hid hkid
   have HU:=Lib.hid hU
   clear hUo hUb hUf hmap hkid hU c0 c1 c2 c3 f2 v1 e2
   refine wRT (by kernel_rfl) (by kernel_rfl) ?_
   go_wp2_with (at_mapUpdate;refine wpList_update_is (f:=kv) (g:=Value.int .i64) (k:=k) (v:=s+ns.length) rfl rfl rfl rfl rfl (Hmap.out.of_block rfl) Tryz.underlying135 keys4 ?_)
   intro q hq
   go_wp2
   refine Strict.intro rfl ?_
   go_wp2
   go_ret2
   have hput:=put_miss (s:=s) hfind
   rw [hput] at hq
   have hjn:join s ns k=((s+ns.length,0),ns++[k]):=by rw [Hj.out,joinIn_new hfind Hfull.out]
   have hg1l:g<w1.heap.size:=hg1
   have hgb:g≠b:=fun e=>by
    rcases Hloc1.out with h|h
    ·exact HB.out.ne2 (by rw [h,e])
    ·omega
   have hgm:g≠mb:=fun e=>by
    rcases Hloc1.out with h|h
    ·exact HB.out.ne3 (by rw [h,e])
    ·omega
   have hgl:(Value.slice la' ns.length lc').ownBlock≠some g:=fun e=>by
    rcases Hloc1.out with h|h
    ·exact HB.out.ne6 g h e
    ·have:=oLT HB.out.levels e;omega
   have hg2b:g2≠b:=fun e=>by
    rcases Hloc2.out with h|h
    ·exact HB.out.ne4 (by rw [h,e])
    ·omega
   have hg2m:g2≠mb:=fun e=>by
    rcases Hloc2.out with h|h
    ·exact HB.out.ne5 (by rw [h,e])
    ·have:=HVs.out;omega
   have hgg:g2≠g:=fun e=>by
    rcases Hloc2.out with h|h
    ·exact hgl (by rw [h,e])
    ·have:=HVs.out;omega
   unfold JoinPost
   rw [hjn]
   have hset:∀ x,x≠mb→(U.heap.setIfInBounds mb q)[x]?=U.heap[x]?:=fun x hx=>by rw [Array.getElem?_setIfInBounds_ne fun e=>hx e.symm]
   refine⟨rfl,foot b (.slice (some ⟨g,0,none⟩) (ns.length+1) cap) (.slice (some ⟨g2,0,none⟩) (ns.length+1) cap2) mb,?_,?_,?_⟩
   ·refine⟨hgood.snoc hfit (by simpa using hfind) Hfull.out,_,_,mb,⟨?_,?_,?_,hq,HB.out.ne1,?_,?_,?_,?_,?_⟩,rfl⟩
    ·exact (hset b HB.out.ne1).trans HUb.out
    ·rw [flat_snoc,List.length_append,List.length_singleton]
     refine oOB Hown1.out fun x hx=>?_
     obtain rfl:g=x:=by simpa [Value.ownBlock] using hx
     exact (hset g hgm).trans ((HUo.out g hgb).trans ((HW2.out g (by have:=HVs.out;omega) hgl).trans (HVo.out g hgb)))
    ·rw [levs_snoc,List.map_append,List.length_append,List.length_singleton,Hla.out]
     refine oOB Hown2.out fun x hx=>?_
     obtain rfl:g2=x:=by simpa [Value.ownBlock] using hx
     exact (hset g2 hg2m).trans (HUo.out g2 hg2b)
    ·simpa [Value.ownBlock] using hgb
    ·simpa [Value.ownBlock] using hgm
    ·simpa [Value.ownBlock] using hg2b
    ·simpa [Value.ownBlock] using hg2m
    ·intro x hx
     obtain rfl:g=x:=by simpa [Value.ownBlock] using hx
     simpa [Value.ownBlock] using hgg
   ·refine ((hW.mono (by simp)).trans HUf.out fun x hx=>.inl hx).trans ((((Fr.refl [mb] U).drew).setBlock (.inl (by simp)) q)) fun x hx=>.inl ?_
    simp at hx;subst hx;simp [foot]
   ·intro x hx
    have hwW:w.heap.size≤W.heap.size:=by omega
    simp only [foot,List.mem_cons,List.mem_append,Option.mem_toList,Value.ownBlock,Option.some.injEq] at hx
    rcases hx with rfl|rfl|rfl|rfl
    ·left;simp [foot]
    ·left;simp [foot]
    ·rcases Hloc1.out with h|h
     ·left;simp [foot,h]
     ·right;omega
    ·rcases Hloc2.out with h|h
     ·left;simp [foot,h]
     ·right;have:=HVs.out;omega
  ·have hd:decide ((100000:Int)≤↑ns.length)=true:=by simp;omega
   have Hlen:=Lib.hid hlen
   have Hfull:=Lib.hid hfull
   clear hlen hfull
   go_wp2_with (at_lookup;refine wpList_lookup_miss (f:=kv) (g:=Value.int .i64) (k:=k) (z:=.int .i64 0) rfl rfl rfl rfl (HB.out.known.of_block rfl) Tryz.underlying135 keys4 (zero_int _) (find_miss hfind) ?_)
   refine Strict.intro rfl ?_
   go_wp2_with fail
   go_ret2
   refine JoinPost.same hS (hW.drew) ?_
   rw [Hj.out,joinIn_full hfind (by have:=Hfull.out;omega)]
end Go.Proofs.YtdanghnadbkhfaaGreat
end
