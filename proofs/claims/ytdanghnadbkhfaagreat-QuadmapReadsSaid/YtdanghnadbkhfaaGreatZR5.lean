/- Own texts of this claim, part 6: no condition. -/
import Derived.Maps.AppendAt
import Derived.Laws.AppendOwnNone
import Derived.Deep.MidRow
import Derived.Test.YtdanghnadbkhfaaGreatZR3
import Derived.Test.YtdanghnadbkhfaaGreatZR4
set_option linter.unusedVariables false
set_option linter.unusedSimpArgs false
section
namespace Go.Proofs.Hp
open Go Go.RowKit
def iv (l:List Int):List Value:=l.map fun n=>Value.int .i64 n
theorem iv_get {l:List Int} {i:Nat} {x:Int} (h:l[i]?=some x):(iv l)[i]?=some (.int .i64 x):=by rw [iv,List.getElem?_map,h];rfl
theorem iv_set (l:List Int) (i:Nat) (x:Int):(iv l).set i (.int .i64 x)=iv (l.set i x):=by unfold iv;rw [List.map_set]
def IntsAt (w:World) (v:Value) (l:List Int):Prop:=Reads w v l.length 1 (iv l)
theorem IntsAt.fr {w w':World} {v:Value} {l:List Int} (h:IntsAt w v l) (hf:Fr [] w w'):IntsAt w' v l:=Reads.fr h hf
theorem IntsAt.form {w:World} {v:Value} {l:List Int} (h:IntsAt w v l):∃ a c,v=.slice a l.length c:=by
 obtain⟨_,a,c,h,_⟩:=h
 exact⟨a,c,h⟩
def RowsAt (w:World) (v:Value) (L:List (List Int)):Prop:=∃ vs:List Value,Reads w v L.length 1 vs∧∀ (i:Nat) (r:List Int),L[i]?=some r→∃ u,vs[i]?=some u∧IntsAt w u r
theorem RowsAt.fr {w w':World} {v:Value} {L:List (List Int)} (h:RowsAt w v L) (hf:Fr [] w w'):RowsAt w' v L:=by
 obtain⟨vs,h1,h2⟩:=h
 refine⟨vs,h1.fr hf,fun i r hi=>?_⟩
 obtain⟨u,hu,hr⟩:=h2 i r hi
 exact⟨u,hu,hr.fr hf⟩
theorem RowsAt.form {w:World} {v:Value} {L:List (List Int)} (h:RowsAt w v L):∃ a c,v=.slice a L.length c:=by
 obtain⟨_,⟨_,a,c,h,_⟩,_⟩:=h
 exact⟨a,c,h⟩
theorem RowsAt.row {w:World} {a:Option Addr} {n c:Nat} {L:List (List Int)} (h:RowsAt w (.slice a n c) L) {i:Nat} {r:List Int} (hi:L[i]?=some r) :
  ∃ g off ra rc,a=some ⟨g,off,none⟩∧g<w.heap.size∧w.cell? ⟨g,off+i,none⟩=some (.slice ra r.length rc)∧IntsAt w (.slice ra r.length rc) r:=by
 obtain⟨vs,⟨hl,a',c',he,hp⟩,h2⟩:=h
 cases he
 obtain⟨u,hu,hr⟩:=h2 i r hi
 obtain⟨ra,rc,rfl⟩:=hr.form
 have hlt:=(List.getElem?_eq_some_iff.1 hi).1
 obtain⟨g,off,rfl,hg,hc⟩:=hp (by omega)
 exact⟨g,off,ra,rc,rfl,hg,hc i _ hu,hr⟩
theorem IntsAt.cell {w:World} {a:Option Addr} {n c:Nat} {l:List Int} (h:IntsAt w (.slice a n c) l) {i:Nat} {x:Int} (hi:l[i]?=some x) :
  ∃ g off,a=some ⟨g,off,none⟩∧g<w.heap.size∧w.cell? ⟨g,off+i,none⟩=some (.int .i64 x):=by
 obtain⟨hl,a',c',he,hp⟩:=h
 cases he
 have hlt:=(List.getElem?_eq_some_iff.1 hi).1
 obtain⟨g,off,rfl,hg,hc⟩:=hp (by omega)
 exact⟨g,off,rfl,hg,hc i _ (iv_get hi)⟩
theorem IntsAt.part {w:World} {a:Option Addr} {g off n c c':Nat} {l:List Int} (h:IntsAt w (.slice (some ⟨g,off,none⟩) n c) l) {i m:Nat} (hm:i+m≤l.length):IntsAt w (.slice (some ⟨g,off+i,none⟩) m c') ((l.drop i).take m):=by
 obtain⟨hl,a',c'',he,hp⟩:=h
 cases he
 have hlen:((l.drop i).take m).length=m:=by simp;omega
 refine⟨by simp [iv],_,_,by rw [hlen],fun h0=>?_⟩
 rw [hlen] at h0
 obtain⟨g',off',he,hg,hc⟩:=hp (by omega)
 cases he
 refine⟨g,off+i,rfl,hg,fun j u hj=>?_⟩
 have hj':(iv l)[i+j]?=some u:=by
  unfold iv at hj ⊢
  rw [List.getElem?_map,List.getElem?_take] at hj
  split at hj
  ·rw [List.getElem?_drop] at hj;rw [List.getElem?_map];exact hj
  ·simp at hj
 have:=hc (i+j) u hj'
 rwa [← Nat.add_assoc] at this
theorem RowsAt.of_owns {w:World} {base e:Nat} {v:Value} {vs:List Value} {L:List (List Int)} (h:w.ownsRow base e 1 v L.length vs) (hr:∀ (i:Nat) (r:List Int),L[i]?=some r→∃ u,vs[i]?=some u∧IntsAt w u r):RowsAt w v L:=⟨vs,Reads.of_owns h,hr⟩
end Go.Proofs.Hp
end
section
namespace Go.Proofs.Rg
open Go
theorem aGR {P:Program} {ops:Array Oper} {k:Nat} {o:Oper} {a:Act} {w:World} {T:TypeId} {x:Operand} {b off:Nat} {cs:List Value} {d:TypeDesc} (hk:ops[k]?=some o) (ho:o.op=.load T x)
  (hx:a.eval x=.pointer (some ⟨b,off,none⟩)) (hT:P.underlying T=some d) (hd:d.isRow=true) (hi:(P.info? T).map (·.size)=some cs.length) (hc:w.rangeAt b off cs)
  (hv:(a.put o.dst (.agg cs.toArray)).tmps=a.tmps):again P ops k a w:=by
 intro o' ho' _
 obtain rfl:o=o':=Option.some.inj (hk.symm.trans ho')
 refine⟨_,?_,hv⟩
 unfold execOp
 simp only [ho,hx,Sem.run_bind,run_loadAt_mid w b off T cs d hc hT hd hi,Result.andThen_ok]
 rfl
end Go.Proofs.Rg
end
section
namespace Go.Proofs.Ev
open Qs
def filled (n:Nat) (G:Nat→Int) (k:Nat):List Int:=(List.range n).map fun i=>if i<k then G i else 0
theorem filled_get {n:Nat} {G:Nat→Int} {k i:Nat} (hi:i<n):(filled n G k)[i]?=some (if i<k then G i else 0):=by simp [filled,hi]
theorem filled_set {n:Nat} {G:Nat→Int} {k:Nat} (hk:k<n):(filled n G k).set k (G k)=filled n G (k+1):=by
 apply List.ext_getElem?
 intro i
 rw [List.getElem?_set]
 by_cases h:k=i
 ·subst h
  rw [if_pos rfl,if_pos (by simp [filled];exact hk),filled_get hk,if_pos (by omega)]
 ·rw [if_neg h]
  by_cases hi:i<n
  ·rw [filled_get hi,filled_get hi]
   by_cases h2:i<k
   ·rw [if_pos h2,if_pos (by omega)]
   ·rw [if_neg h2,if_neg (by omega)]
  ·rw [List.getElem?_eq_none (by simp [filled];omega),List.getElem?_eq_none (by simp [filled];omega)]
end Go.Proofs.Ev
namespace Go.Proofs.YtdanghnadbkhfaaGreat
open Go Go.RowKit Rg Mp Hp Qs Ev
theorem filled_cell {W w:World} {b n k:Nat} {G:Nat→Int} {T:TypeId} {Ps:List Res} (h:Has W w (Hp.blk b (.cells (iv (filled n G k)).toArray T (0,0))::Ps)) {i:Nat} (hi:i<n):w.cell? ⟨b,i,none⟩=some (.int .i64 (if i<k then G i else 0)):=by
 rw [(hCE h).1 i]
 have:=iv_get (filled_get (n:=n) (G:=G) (k:=k) hi)
 simpa using this
theorem filled_set_has {W w:World} {b n k:Nat} {G:Nat→Int} {T:TypeId} {Ps:List Res} (h:Has W w (Hp.blk b (.cells (iv (filled n G k)).toArray T (0,0))::Ps)) (hk:k<n) {v:Int} (hv:v=G k):Has W (w.setCell ⟨b,k,none⟩ (.int .i64 v)) (Hp.blk b (.cells (iv (filled n G (k+1))).toArray T (0,0))::Ps):=by
 subst hv
 have:=hST h k (.int .i64 (G k))
 rwa [show (iv (filled n G k)).toArray.setIfInBounds k (.int .i64 (G k))=(iv (filled n G (k+1))).toArray by rw [← filled_set hk,← iv_set];simp] at this
def At5 (P:Nat→Prop) (z:Int):Prop:=z=0∧P 0∨z=1∧P 1∨z=2∧P 2∨z=3∧P 3∨z=4∧P 4
section
variable {W w:World} {b:Nat} {s:Int} {ns:List K4} {Ps:List Res}
end
end Go.Proofs.YtdanghnadbkhfaaGreat
end
section
namespace Go.Proofs.YtdanghnadbkhfaaGreat
open Go Go.RowKit Rg Mp Hp Qs
theorem join_len (s:Int) (ns:List K4) (k:K4):(join s ns k).2.length≤ns.length+1:=by
 unfold join
 split
 ·simp
 ·split
  ·simp
  ·unfold joinIn
   split
   ·simp
   ·split<;>simp
end Go.Proofs.YtdanghnadbkhfaaGreat
end
section
namespace Go.Proofs.YtdanghnadbkhfaaGreat
open Go Qs Ev
def kr (f:List K4→Nat→(Int×Int)×List K4):Nat→List K4→Int×List Int×List K4
 | 0,ns=>(0,[],ns)
 | k+1,ns=>if (kr f k ns).1≠0 then kr f k ns else if (f (kr f k ns).2.2 k).1.2=0 then (0,(kr f k ns).2.1++[(f (kr f k ns).2.2 k).1.1],(f (kr f k ns).2.2 k).2) else ((f (kr f k ns).2.2 k).1.2,(kr f k ns).2.1,(f (kr f k ns).2.2 k).2)
def k4l (l:List Int):K4:=⟨l.getD 0 0,l.getD 1 0,l.getD 2 0,l.getD 3 0⟩
def fin4 (s:Int) (f:List K4→Nat→(Int×Int)×List K4) (ns:List K4):(Int×Int)×List K4 :=
 if (kr f 4 ns).1≠0 then ((0,(kr f 4 ns).1),(kr f 4 ns).2.2) else join s (kr f 4 ns).2.2 (k4l (kr f 4 ns).2.1)
theorem kr_ok {f:List K4→Nat→(Int×Int)×List K4} {k:Nat} {ns ms ms':List K4} {ids:List Int} {id:Int} (h:kr f k ns=(0,ids,ms)) (h2:f ms k=((id,0),ms')):kr f (k+1) ns=(0,ids++[id],ms'):=by
 rw [kr,h]
 simp only [ne_eq,not_true_eq_false,if_false]
 rw [h2]
 simp
theorem kr_bad {f:List K4→Nat→(Int×Int)×List K4} {k:Nat} {ns ms ms':List K4} {ids:List Int} {id e:Int} (h:kr f k ns=(0,ids,ms)) (h2:f ms k=((id,e),ms')) (he:e≠0):kr f (k+1) ns=(e,ids,ms'):=by
 rw [kr,h]
 simp only [ne_eq,not_true_eq_false,if_false]
 rw [h2]
 simp [he]
theorem kr_stay {f:List K4→Nat→(Int×Int)×List K4} {k:Nat} {ns ms:List K4} {ids:List Int} {e:Int} (h:kr f k ns=(e,ids,ms)) (he:e≠0):∀ m,kr f (k+m) ns=(e,ids,ms)
 | 0=>h
 | m+1=>by
  show kr f (k+m+1) ns=_
  rw [kr,kr_stay h he m,if_pos he]
theorem fin4_bad {s:Int} {f:List K4→Nat→(Int×Int)×List K4} {k:Nat} {ns ms ms':List K4} {ids:List Int} {id e:Int} (hk:k<4) (h:kr f k ns=(0,ids,ms)) (h2:f ms k=((id,e),ms')) (he:e≠0):fin4 s f ns=((0,e),ms'):=by
 have:=kr_stay (kr_bad h h2 he) he (3 - k)
 rw [show k+1+(3 - k)=4 by omega] at this
 unfold fin4
 rw [this,if_pos he]
theorem fin4_ok {s:Int} {f:List K4→Nat→(Int×Int)×List K4} {ns ms:List K4} {ids:List Int} (h:kr f 4 ns=(0,ids,ms)):fin4 s f ns=join s ms (k4l ids):=by
 unfold fin4
 rw [h,if_neg (by simp)]
theorem kr_len {f:List K4→Nat→(Int×Int)×List K4}:∀ {k:Nat} {ns ms:List K4} {ids:List Int},kr f k ns=(0,ids,ms)→ids.length=k
 | 0,ns,ms,ids,h=>by
  simp only [kr,Prod.mk.injEq] at h
  rw [← h.2.1];rfl
 | k+1,ns,ms,ids,h=>by
  obtain⟨e,i2,m2,h2⟩:∃ e i2 m2,kr f k ns=(e,i2,m2):=⟨_,_,_,rfl⟩
  by_cases he:e=0
  ·subst he
   obtain⟨id,e3,m3,h3⟩:∃ id e3 m3,f m2 k=((id,e3),m3):=⟨_,_,_,rfl⟩
   by_cases h4:e3=0
   ·subst h4
    rw [kr_ok h2 h3] at h
    simp only [Prod.mk.injEq] at h
    rw [← h.2.1]
    simp [kr_len h2]
   ·rw [kr_bad h2 h3 h4] at h
    simp only [Prod.mk.injEq] at h
    exact absurd h.1 h4
  ·have:=kr_stay h2 he 1
   rw [this] at h
   simp only [Prod.mk.injEq] at h
   exact absurd h.1 he
structure Spot where
 x:Nat
 y:Nat
 st:Int
def quadOf (h:Nat) (c:Spot):Nat:=(if h≤c.x then 1 else 0)+(if h≤c.y then 2 else 0)
def intoQ (h:Nat) (c:Spot):Spot:=⟨if h≤c.x then c.x - h else c.x,if h≤c.y then c.y - h else c.y,c.st⟩
def partQ (h:Nat) (k:Nat) (l:List Spot):List Spot:=(l.filter fun c=>decide (quadOf h c=k)).map (intoQ h)
theorem partQ_snoc (h k:Nat) (l:List Spot) (c:Spot):partQ h k (l++[c])=partQ h k l++if quadOf h c=k then [intoQ h c] else []:=by
 unfold partQ
 rw [List.filter_append,List.map_append]
 by_cases hc:quadOf h c=k<;>simp [hc]
def buildQ (s:Int):Nat→List K4→List Spot→(Int×Int)×List K4
 | n,ns,[]=>emptyQ s ns n
 | 0,ns,c::_=>((c.st,0),ns)
 | n+1,ns,c::l=>fin4 s (fun ms k=>buildQ s n ms (partQ (2 ^ n) k (c::l))) ns
theorem buildQ_nil (s:Int) (n:Nat) (ns:List K4):buildQ s n ns []=emptyQ s ns n:=by cases n<;>rfl
def putK (k:K4) (q:Nat) (v:Int):K4:=if q=0 then { k with a:=v } else if q=1 then { k with b:=v } else if q=2 then { k with c:=v } else { k with d:=v }
def qd (n x y:Nat):Nat:=x / 2 ^ n % 2+2*(y / 2 ^ n % 2)
theorem qd_lt (n x y:Nat):qd n x y<4:=by unfold qd;omega
def setQ (s:Int):Nat→List K4→Int→Nat→Nat→Int→(Int×Int)×List K4
 | 0,ns,id,x,y,st=>((st,0),ns)
 | n+1,ns,id,x,y,st =>
  if (setQ s n ns ((nodeOf s ns id).get (qd n x y)) x y st).1.2≠0 then ((0,(setQ s n ns ((nodeOf s ns id).get (qd n x y)) x y st).1.2),(setQ s n ns ((nodeOf s ns id).get (qd n x y)) x y st).2)
  else join s (setQ s n ns ((nodeOf s ns id).get (qd n x y)) x y st).2 (putK (nodeOf s ns id) (qd n x y) (setQ s n ns ((nodeOf s ns id).get (qd n x y)) x y st).1.1)
def lookQ (s:Int) (ns:List K4):Nat→Int→Nat→Nat→Int
 | 0,id,_,_=>id
 | n+1,id,x,y=>lookQ s ns n ((nodeOf s ns id).get (qd n x y)) x y
theorem mod_step (x n:Nat):x % 2 ^ (n+1)=x % 2 ^ n+2 ^ n*(x / 2 ^ n % 2):=by rw [Nat.pow_succ,Nat.mod_mul]
end Go.Proofs.YtdanghnadbkhfaaGreat
end
section
namespace Go.Proofs.YtdanghnadbkhfaaGreat
open Go Qs Ev
def popT:Tr→Nat
 | .leaf v=>if v=0 then 0 else 1
 | .node a b c d=>popT a+popT b+popT c+popT d
theorem popT_le:∀ {n:Nat} {t:Tr},Full n t→popT t≤4 ^ n
 | 0,.leaf v,_=>by unfold popT;split<;>simp
 | 0,.node _ _ _ _,h=>h.elim
 | n+1,.leaf _,h=>h.elim
 | n+1,.node a b c d,⟨ha,hb,hc,hd⟩=>by
  have:=popT_le ha;have:=popT_le hb;have:=popT_le hc;have:=popT_le hd
  show popT a+popT b+popT c+popT d≤_
  rw [Nat.pow_succ];omega
def cellsT:Nat→Tr→Nat→Nat→List Spot
 | 0,.leaf v,x,y=>if v=0 then [] else [⟨x,y,v⟩]
 | n+1,.node a b c d,x,y=>cellsT n a x y++(cellsT n b (x+2 ^ n) y++(cellsT n c x (y+2 ^ n)++cellsT n d (x+2 ^ n) (y+2 ^ n)))
 | _,_,_,_=>[]
theorem cellsT_len:∀ {n:Nat} {t:Tr} {x y:Nat},Full n t→(cellsT n t x y).length=popT t
 | 0,.leaf v,x,y,_=>by unfold cellsT popT;split<;>simp
 | 0,.node _ _ _ _,_,_,h=>h.elim
 | n+1,.leaf _,_,_,h=>h.elim
 | n+1,.node a b c d,x,y,⟨ha,hb,hc,hd⟩=>by
  unfold cellsT popT
  rw [List.length_append,List.length_append,List.length_append,cellsT_len ha,cellsT_len hb,cellsT_len hc,cellsT_len hd];omega
theorem cellsT_none {n:Nat} {t:Tr} {x y:Nat} (h:Full n t) (h0:popT t=0):cellsT n t x y=[]:=List.length_eq_zero_iff.1 ((cellsT_len h).trans h0)
abbrev Frm:=Int×Int×Int×Int
def joinF (o x:Option Frm) (dx dy:Int):Option Frm :=
 match x,o with
 | none,o=>o
 | some (l,t,r,b),none=>some (l+dx,t+dy,r+dx,b+dy)
 | some (l,t,r,b),some (l',t',r',b')=>some (min (l+dx) l',min (t+dy) t',max (r+dx) r',max (b+dy) b')
def frT:Nat→Tr→Option Frm
 | 0,.leaf v=>if v=0 then none else some (0,0,0,0)
 | n+1,.node a b c d=>joinF (joinF (joinF (joinF none (frT n a) 0 0) (frT n b) ((2 ^ n:Nat):Int) 0) (frT n c) 0 ((2 ^ n:Nat):Int)) (frT n d) ((2 ^ n:Nat):Int) ((2 ^ n:Nat):Int)
 | _,_=>none
def inF (h:Int) (f:Frm):Prop:=0≤f.1∧f.1<h∧0≤f.2.1∧f.2.1<h∧0≤f.2.2.1∧f.2.2.1<h∧0≤f.2.2.2∧f.2.2.2<h
theorem joinF_in {h:Int} {o x:Option Frm} {dx dy:Int} (ho:∀ f,o=some f→inF (h+h) f) (hx:∀ f,x=some f→inF h f) (h1:0≤dx) (h2:dx≤h) (h3:0≤dy) (h4:dy≤h):∀ f,joinF o x dx dy=some f→inF (h+h) f:=by
 intro f hf
 cases x with
 | none=>exact ho f hf
 | some x =>
  obtain⟨a,b,c,d⟩:=x
  obtain⟨x1,x2,x3,x4,x5,x6,x7,x8⟩:=hx _ rfl
  simp only at x1 x2 x3 x4 x5 x6 x7 x8
  cases o with
  | none =>
   simp only [joinF,Option.some.injEq] at hf
   subst hf
   simp only [inF];omega
  | some o =>
   obtain⟨a',b',c',d'⟩:=o
   obtain⟨y1,y2,y3,y4,y5,y6,y7,y8⟩:=ho _ rfl
   simp only at y1 y2 y3 y4 y5 y6 y7 y8
   simp only [joinF,Option.some.injEq] at hf
   subst hf
   simp only [inF];omega
theorem frT_in:∀ {n:Nat} {t:Tr},∀ f,frT n t=some f→inF ((2 ^ n:Nat):Int) f
 | 0,.leaf v,f,h=>by
  unfold frT at h
  split at h
  ·cases h
  ·simp only [Option.some.injEq] at h
   subst h
   simp [inF]
 | 0,.node _ _ _ _,f,h=>by simp [frT] at h
 | n+1,.leaf _,f,h=>by simp [frT] at h
 | n+1,.node a b c d,f,h=>by
  have hp:=Nat.pow_pos (n:=n) (show 0<2 by omega)
  rw [show (2 ^ (n+1):Nat)=2 ^ n+2 ^ n by rw [Nat.pow_succ];omega,Int.natCast_add]
  have h1:(0:Int)<((2 ^ n:Nat):Int):=by omega
  exact joinF_in (joinF_in (joinF_in (joinF_in (by simp) (frT_in (t:=a)) (by omega) (by omega) (by omega) (by omega)) (frT_in (t:=b)) (by omega) (by omega) (by omega) (by omega)) (frT_in (t:=c)) (by omega) (by omega) (by omega) (by omega)) (frT_in (t:=d)) (by omega) (by omega) (by omega) (by omega) f h
theorem join_pre (s:Int) (ns:List K4) (k:K4):ns <+: (join s ns k).2:=by
 unfold join
 split
 ·exact List.prefix_refl _
 ·split
  ·exact List.prefix_refl _
  ·unfold joinIn
   split
   ·exact List.prefix_refl _
   ·split
    ·exact List.prefix_refl _
    ·exact List.prefix_append _ _
theorem grow_pre (s:Int):∀ (m:Nat) (id:Int) (ns:List K4),ns <+: (grow s m id ns).2∧(grow s m id ns).2.length≤ns.length+m
 | 0,id,ns=>⟨List.prefix_refl _,Nat.le_refl _⟩
 | m+1,id,ns=>by
  obtain⟨h1,h2⟩:=grow_pre s m (join s ns (four id)).1.1 (join s ns (four id)).2
  have:=join_len s ns (four id)
  exact⟨(join_pre s ns (four id)).trans h1,by unfold grow;omega⟩
theorem emptyQ_grows {s:Int} {ns:List K4} (L:Nat):ns <+: (emptyQ s ns L).2∧(emptyQ s ns L).2.length≤ns.length+L:=by
 unfold emptyQ
 split
 ·exact⟨List.prefix_refl _,by simp⟩
 ·split
  ·exact⟨List.prefix_refl _,by simp⟩
  ·obtain⟨h1,h2⟩:=grow_pre s (((L:Nat):Int).toNat - (climb s ns ((L:Nat):Int).toNat 0 0).2) (climb s ns ((L:Nat):Int).toNat 0 0).1 ns
   exact⟨h1,by simp only [Int.toNat_natCast] at h2 ⊢;omega⟩
end Go.Proofs.YtdanghnadbkhfaaGreat
end
section
namespace Go.Proofs.YtdanghnadbkhfaaGreat
open Go Go.RowKit Rg Mp Hp Qs Ev
def knownQ (s:Int) (ns:List K4) (id:Int):Int:=if lvl s (levs s ns) id<0 then 13 else 0
def cornerK (o v:Int) (k:Nat):K4:=putK ⟨o,o,o,o⟩ k v
def expandQ (s:Int) (ns:List K4) (id:Int):(Int×Int)×List K4 :=
 if lvl s (levs s ns) id<0 then ((0,13),ns) else if lvl s (levs s ns) id<1∨256≤lvl s (levs s ns) id then ((0,18),ns)
 else if (emptyQ s ns (lvl s (levs s ns) id - 1)).1.2≠0 then ((0,(emptyQ s ns (lvl s (levs s ns) id - 1)).1.2),(emptyQ s ns (lvl s (levs s ns) id - 1)).2)
 else fin4 s (fun ms k=>join s ms (cornerK (emptyQ s ns (lvl s (levs s ns) id - 1)).1.1 ((nodeOf s ns id).get k) (3 - k))) (emptyQ s ns (lvl s (levs s ns) id - 1)).2
def centreQ (s:Int) (ns:List K4) (id:Int):(Int×Int)×List K4 :=
 if lvl s (levs s ns) id<0 then ((0,13),ns) else if lvl s (levs s ns) id<2 then ((0,18),ns)
 else join s ns ⟨(nodeOf s ns (nodeOf s ns id).a).get 3,(nodeOf s ns (nodeOf s ns id).b).get 2,(nodeOf s ns (nodeOf s ns id).c).get 1,(nodeOf s ns (nodeOf s ns id).d).get 0⟩
section
variable {W w:World} {b:Nat} {s:Int} {ns:List K4} {Ps:List Res}
theorem Empty_has (h:Has W w (sTR b s ns::Ps)) (l:Int) :
  Calls Tryz.prog 36 #[.pointer (some ⟨b,0,none⟩),.int .i64 l] w fun e w'=>e=.returned (.tuple #[.int .i64 (emptyQ s ns l).1.1,.int .i64 (emptyQ s ns l).1.2])∧Has W w' (sTR b s (emptyQ s ns l).2::Ps) :=
 h.upd (P':=sTR b s (emptyQ s ns l).2) (R:=fun e=>e=.returned (.tuple #[.int .i64 (emptyQ s ns l).1.1,.int .i64 (emptyQ s ns l).1.2])) fun F hS=>(Empty_calls hS l).mono fun e w' h=>h
theorem known_q (h:Has W w (sTR b s ns::Ps)) (id:Int) :
  Calls Tryz.prog 46 #[.pointer (some ⟨b,0,none⟩),.int .i64 id] w fun e w'=>e=.returned (.int .i64 (knownQ s ns id))∧Has W w' (sTR b s ns::Ps)∧Fr [] w w':=by
 have HL:=Lib.hid (fun w1 (hf:Fr [] w w1)=>Level_has (h.step hf) id)
 clear h
 obtain⟨l,hl⟩:∃ l,lvl s (levs s ns) id=l:=⟨_,rfl⟩
 unfold knownQ
 rw [hl] at HL ⊢
 clear hl
 by_cases h0:l<0
 ·have hd:decide (l<0)=true:=by simpa using h0
  rw [if_pos h0]
  go_enter Tryz.func46,Tryz.ntmps46
  go_wp2_with fail
  refine (HL.out _ (by (repeat first|exact Fr.refl _ _|assumption|apply Fr.n|apply Fr.d|apply Fr.a|refine Fr.s ?_ (.inr (by simp;try omega)) _))).mono ?_
  rintro e w1 ⟨rfl,h,hf⟩
  have H:=Lib.hid (And.intro h hf)
  clear h hf
  go_wp2
  go_ret
  exact⟨rfl,H.out.1,H.out.2⟩
 ·have hd:decide (l<0)=false:=by simpa using h0
  rw [if_neg h0]
  go_enter Tryz.func46,Tryz.ntmps46
  go_wp2_with fail
  refine (HL.out _ (by (repeat first|exact Fr.refl _ _|assumption|apply Fr.n|apply Fr.d|apply Fr.a|refine Fr.s ?_ (.inr (by simp;try omega)) _))).mono ?_
  rintro e w1 ⟨rfl,h,hf⟩
  have H:=Lib.hid (And.intro h hf)
  clear h hf
  go_wp2
  go_ret
  exact⟨rfl,H.out.1,H.out.2⟩
theorem isState_q (h:Has W w (sTR b s ns::Ps)) (id:Int) :
  Calls Tryz.prog 64 #[.pointer (some ⟨b,0,none⟩),.int .i64 id] w fun e w'=>e=.returned (.bool (decide (0≤id∧id<s)))∧Has W w' (sTR b s ns::Ps)∧Fr [] w w':=by
 have HL:=Lib.hid (fun w1 (hf:Fr [] w w1)=>Level_has (h.step hf) id)
 have he:((lvl s (levs s ns) id) == 0)=decide (0≤id∧id<s):=by
  have hg:=has_good h
  by_cases hk:Kn s ns id
  ·rcases hk.cases with ⟨h0,h1⟩|⟨i,k,rfl,hi⟩
   ·rw [decide_eq_true ⟨h0,h1⟩]
    unfold lvl
    rw [if_neg (by omega),if_pos h1];rfl
   ·have h2:=good_lvl hg hi
    rw [decide_eq_false (by omega)]
    rw [h2.1]
    simp;omega
  ·have h2:lvl s (levs s ns) id<0:=by
    have h3:=(kn_lvl hg id).1
    exact Int.not_le.1 fun h4=>hk (h3 h4)
   rw [decide_eq_false (by unfold Kn at hk;omega)]
   simp;omega
 rw [← he]
 clear h he
 obtain⟨l,hl⟩:∃ l,lvl s (levs s ns) id=l:=⟨_,rfl⟩
 rw [hl] at HL ⊢
 clear hl
 go_enter Tryz.func64,Tryz.ntmps64
 go_wp2_with fail
 refine (HL.out _ (by (repeat first|exact Fr.refl _ _|assumption|apply Fr.n|apply Fr.d|apply Fr.a|refine Fr.s ?_ (.inr (by simp;try omega)) _))).mono ?_
 rintro e w1 ⟨rfl,h,hf⟩
 have H:=Lib.hid (And.intro h hf)
 clear h hf
 go_wp2
 go_ret
 exact⟨rfl,H.out.1,H.out.2⟩
end
end Go.Proofs.YtdanghnadbkhfaaGreat
end
section
namespace Go.Proofs.YtdanghnadbkhfaaGreat
open Go Go.RowKit Rg Mp Hp Qs Ev
theorem level_nat {s:Int} {ns:List K4} (hg:GoodQ s ns) {id:Int} (h:0≤lvl s (levs s ns) id):∃ n:Nat,lvl s (levs s ns) id=n∧n≤256∧Is s ns n id (tr s ns id):=by
 refine⟨(lvl s (levs s ns) id).toNat,by omega,?_,Is.of_lvl hg (by omega)⟩
 have hk:=(kn_lvl hg id).1 h
 rcases hk.cases with ⟨h0,h1⟩|⟨i,k,rfl,hi⟩
 ·have:lvl s (levs s ns) id=0:=by unfold lvl;rw [if_neg (by omega),if_pos h1]
  omega
 ·have:=good_lvl hg hi;omega
set_option maxHeartbeats 4000000 in
theorem Centre_q {W w:World} {b:Nat} {s:Int} {ns:List K4} {Ps:List Res} (h:Has W w (sTR b s ns::Ps)) (id:Int) :
  Calls Tryz.prog 27 #[.pointer (some ⟨b,0,none⟩),.int .i64 id] w fun e w' =>
   e=.returned (.tuple #[.int .i64 (centreQ s ns id).1.1,.int .i64 (centreQ s ns id).1.2])∧Has W w' (sTR b s (centreQ s ns id).2::Ps):=by
 have hg:=has_good h
 have HN:=Lib.hid (fun w1 Qs (h1:Has W w1 (sTR b s ns::Qs))=>known_q h1 id)
 have HL:=Lib.hid (fun w1 Qs (h1:Has W w1 (sTR b s ns::Qs))=>Level_has h1 id)
 have H:=Lib.hid h
 unfold knownQ at HN
 unfold centreQ
 by_cases h0:lvl s (levs s ns) id<0
 ·simp only [if_pos h0] at HN ⊢
  clear HL h hg
  go_enter Tryz.func27,Tryz.ntmps27
  go_wp2_with fail
  refine (HN.out _ _ H.out).mono ?_
  rintro e w1 ⟨rfl,h,hf⟩
  have H:=Lib.hid h
  clear h hf
  go_wp2
  go_ret2
  exact⟨rfl,H.out⟩
 simp only [if_neg h0] at HN ⊢
 obtain⟨m,hm,hm256,hi⟩:=level_nat hg (id:=id) (by omega)
 rw [hm] at HL h0 ⊢
 by_cases h2:(m:Int)<2
 ·rw [if_pos h2]
  have hd:decide ((m:Int)<2)=true:=by simpa using h2
  clear h hg hi hm h2
  go_enter Tryz.func27,Tryz.ntmps27
  go_wp2_with fail
  refine (HN.out _ _ H.out).mono ?_
  rintro e w1 ⟨rfl,h,hf⟩
  have H:=Lib.hid h
  clear h hf
  go_wp2_with fail
  refine (HL.out _ _ H.out).mono ?_
  rintro e w2 ⟨rfl,h,hf⟩
  have H:=Lib.hid h
  clear h hf
  go_wp2
  go_ret2
  exact⟨rfl,H.out⟩
 rw [if_neg h2]
 have hd:decide ((m:Int)<2)=false:=by simpa using h2
 obtain⟨n,rfl⟩:∃ n,m=n+2:=⟨m - 2,by omega⟩
 obtain⟨_,_,hk⟩:=hi.node hg
 have HK:=Lib.hid (fun w1 Qs (h1:Has W w1 (sTR b s ns::Qs))=>Kids_has h1 hi)
 have HK1:=Lib.hid (fun w1 Qs q (hq:q<4) (h1:Has W w1 (sTR b s ns::Qs))=>Kids_has h1 (hk q hq))
 clear h hg hi hm h2 hk h0
 go_enter Tryz.func27,Tryz.ntmps27
 go_wp2_with fail
 refine (HN.out _ _ H.out).mono ?_
 rintro e w1 ⟨rfl,h,hf⟩
 have H:=Lib.hid h
 clear h hf
 go_wp2_with fail
 refine (HL.out _ _ H.out).mono ?_
 rintro e w2 ⟨rfl,h,hf⟩
 have H:=Lib.hid h
 clear h hf
 go_wp2_with fail
 have h:=(hAL H.out #[.int .i64 0,.int .i64 0,.int .i64 0,.int .i64 0] 81).swap
 refine (HK.out _ _ h).mono ?_
 rintro e w3 ⟨rfl,h,hf⟩
 obtain⟨ib,hib⟩:∃ ib,w2.heap.size=ib:=⟨_,rfl⟩
 rw [hib] at h ⊢
 have H3:=Lib.hid h
 clear h hf hib H
 go_wp2
 go_loopw [31] (fun x wr=>∃ z:Int,x=.int .i64 z∧At5 (fun k=>Has W wr (sTR b s ns::Hp.blk ib (.cells (iv (filled 4 (fun q=>(nodeOf s ns ((nodeOf s ns id).get q)).get (3 - q)) k)).toArray 81 (0,0))::Ps)) z) (fun x _=>4 - (intOf x).toNat)
 case atStart =>
  refine⟨0,rfl,.inl ⟨rfl,?_⟩⟩
  have h0:=H3.out.step (by (repeat first|exact Fr.refl _ _|assumption|apply Fr.n|apply Fr.d|apply Fr.a|refine Fr.s ?_ (.inr (by simp;try omega)) _):Fr [] w3 (w3.alloc (.cells #[.int .i64 (nodeOf s ns id).a,.int .i64 (nodeOf s ns id).b,.int .i64 (nodeOf s ns id).c,.int .i64 (nodeOf s ns id).d] 81)))
  exact h0
 case round =>
  obtain⟨z,rfl,hz⟩:=hrel
  clear H3
  rcases hz with ⟨rfl,h⟩|⟨rfl,h⟩|⟨rfl,h⟩|⟨rfl,h⟩|⟨rfl,h⟩
  ·
   have H:=Lib.hid h
   clear h
   go_wp2_with fail
   refine (HK1.out _ _ 0 (by omega) H.out).mono ?_
   rintro e w5 ⟨rfl,h,hf⟩
   have c0:=filled_cell h.swap (i:=0) (by omega)
   simp only [Nat.lt_irrefl,if_false] at c0
   have cz:=(hCE h.swap).2.1 0
   have cl:=(hCE h.swap).2.2
   have H5:=Lib.hid h
   clear h hf
   go_wp2
   go_roundw
   case rel=>exact⟨1,rfl,(.inr (.inl ⟨rfl,(filled_set_has H5.out.swap (by omega) rfl).swap.step ((Fr.refl [] _).alloc _)⟩))⟩
   case measure=>simp [intOf]
  ·
   have H:=Lib.hid h
   clear h
   go_wp2_with fail
   refine (HK1.out _ _ 1 (by omega) H.out).mono ?_
   rintro e w5 ⟨rfl,h,hf⟩
   have c0:=filled_cell h.swap (i:=1) (by omega)
   simp only [Nat.lt_irrefl,if_false] at c0
   have cz:=(hCE h.swap).2.1 1
   have cl:=(hCE h.swap).2.2
   have H5:=Lib.hid h
   clear h hf
   go_wp2
   go_roundw
   case rel=>exact⟨2,rfl,(.inr (.inr (.inl ⟨rfl,(filled_set_has H5.out.swap (by omega) rfl).swap.step ((Fr.refl [] _).alloc _)⟩)))⟩
   case measure=>simp [intOf]
  ·
   have H:=Lib.hid h
   clear h
   go_wp2_with fail
   refine (HK1.out _ _ 2 (by omega) H.out).mono ?_
   rintro e w5 ⟨rfl,h,hf⟩
   have c0:=filled_cell h.swap (i:=2) (by omega)
   simp only [Nat.lt_irrefl,if_false] at c0
   have cz:=(hCE h.swap).2.1 2
   have cl:=(hCE h.swap).2.2
   have H5:=Lib.hid h
   clear h hf
   go_wp2
   go_roundw
   case rel=>exact⟨3,rfl,(.inr (.inr (.inr (.inl ⟨rfl,(filled_set_has H5.out.swap (by omega) rfl).swap.step ((Fr.refl [] _).alloc _)⟩))))⟩
   case measure=>simp [intOf]
  ·
   have H:=Lib.hid h
   clear h
   go_wp2_with fail
   refine (HK1.out _ _ 3 (by omega) H.out).mono ?_
   rintro e w5 ⟨rfl,h,hf⟩
   have c0:=filled_cell h.swap (i:=3) (by omega)
   simp only [Nat.lt_irrefl,if_false] at c0
   have cz:=(hCE h.swap).2.1 3
   have cl:=(hCE h.swap).2.2
   have H5:=Lib.hid h
   clear h hf
   go_wp2
   go_roundw
   case rel=>exact⟨4,rfl,(.inr (.inr (.inr (.inr ⟨rfl,(filled_set_has H5.out.swap (by omega) rfl).swap.step ((Fr.refl [] _).alloc _)⟩))))⟩
   case measure=>simp [intOf]
  ·have H:=Lib.hid h
   have c0:=filled_cell h.swap (i:=0) (by omega)
   have c1:=filled_cell h.swap (i:=1) (by omega)
   have c2:=filled_cell h.swap (i:=2) (by omega)
   have c3:=filled_cell h.swap (i:=3) (by omega)
   simp only [show (0:Nat)<4 by omega,show (1:Nat)<4 by omega,show (2:Nat)<4 by omega,show (3:Nat)<4 by omega,if_true] at c0 c1 c2 c3
   clear h
   go_wp2_with fail
   refine (Join_has H.out _ _ _ _).mono ?_
   rintro e w9 ⟨rfl,h1⟩
   have HF:=Lib.hid h1
   clear h1
   go_wp2
   go_ret2
   exact⟨rfl,HF.out.swap.drop⟩
def mixL (k:K4) (ids:List Int):List Int:=ids++[k.a,k.b,k.c,k.d].drop ids.length
theorem len2 {α:Type} {l:List α} (h:l.length=2):∃ a b,l=[a,b]:=by
 rcases l with _|⟨a,_|⟨b,_|⟨c,l⟩⟩⟩<;>simp at h
 exact⟨_,_,rfl⟩
theorem len3 {α:Type} {l:List α} (h:l.length=3):∃ a b c,l=[a,b,c]:=by
 rcases l with _|⟨a,_|⟨b,_|⟨c,_|⟨d,l⟩⟩⟩⟩<;>simp at h
 exact⟨_,_,_,rfl⟩
theorem len4 {α:Type} {l:List α} (h:l.length=4):∃ a b c d,l=[a,b,c,d]:=by
 rcases l with _|⟨a,_|⟨b,_|⟨c,_|⟨d,_|⟨e,l⟩⟩⟩⟩⟩<;>simp at h
 exact⟨_,_,_,_,rfl⟩
set_option maxHeartbeats 4000000 in
theorem Expand_q {W w:World} {b:Nat} {s:Int} {ns:List K4} {Ps:List Res} (h:Has W w (sTR b s ns::Ps)) (id:Int) :
  Calls Tryz.prog 29 #[.pointer (some ⟨b,0,none⟩),.int .i64 id] w fun e w' =>
   e=.returned (.tuple #[.int .i64 (expandQ s ns id).1.1,.int .i64 (expandQ s ns id).1.2])∧Has W w' (sTR b s (expandQ s ns id).2::Ps):=by
 have hg:=has_good h
 have HN:=Lib.hid (fun w1 Qs (h1:Has W w1 (sTR b s ns::Qs))=>known_q h1 id)
 have HL:=Lib.hid (fun w1 Qs (h1:Has W w1 (sTR b s ns::Qs))=>Level_has h1 id)
 have H:=Lib.hid h
 unfold knownQ at HN
 unfold expandQ
 by_cases h0:lvl s (levs s ns) id<0
 ·simp only [if_pos h0] at HN ⊢
  clear HL h hg
  go_enter Tryz.func29,Tryz.ntmps29
  go_wp2_with fail
  refine (HN.out _ _ H.out).mono ?_
  rintro e w1 ⟨rfl,h,hf⟩
  have H:=Lib.hid h
  clear h hf
  go_wp2
  go_ret2
  exact⟨rfl,H.out⟩
 simp only [if_neg h0] at HN ⊢
 obtain⟨m,hm,hm256,hi⟩:=level_nat hg (id:=id) (by omega)
 rw [hm] at HL h0 ⊢
 by_cases h1:(m:Int)<1
 ·rw [if_pos (.inl h1)]
  have hd:decide ((m:Int)<1)=true:=by simpa using h1
  clear h hg hi hm h1
  go_enter Tryz.func29,Tryz.ntmps29
  go_wp2_with fail
  refine (HN.out _ _ H.out).mono ?_
  rintro e w1 ⟨rfl,h,hf⟩
  have H:=Lib.hid h
  clear h hf
  go_wp2_with fail
  refine (HL.out _ _ H.out).mono ?_
  rintro e w2 ⟨rfl,h,hf⟩
  have H:=Lib.hid h
  clear h hf
  go_wp2
  go_ret2
  exact⟨rfl,H.out⟩
 have hd:decide ((m:Int)<1)=false:=by simpa using h1
 by_cases h2:256≤(m:Int)
 ·rw [if_pos (.inr h2)]
  have hd2:decide ((m:Int) ≥ 256)=true:=by simpa using h2
  clear h hg hi hm h1 h2
  go_enter Tryz.func29,Tryz.ntmps29
  go_wp2_with fail
  refine (HN.out _ _ H.out).mono ?_
  rintro e w1 ⟨rfl,h,hf⟩
  have H:=Lib.hid h
  clear h hf
  go_wp2_with fail
  refine (HL.out _ _ H.out).mono ?_
  rintro e w2 ⟨rfl,h,hf⟩
  have H:=Lib.hid h
  clear h hf
  go_wp2
  go_ret2
  exact⟨rfl,H.out⟩
 have hd2:decide ((m:Int) ≥ 256)=false:=by simpa using h2
 rw [if_neg (by omega)]
 obtain⟨⟨o,eo⟩,no,hE⟩:∃ (r:Int×Int) (no:List K4),emptyQ s ns ((m:Int) - 1)=(r,no):=⟨_,_,rfl⟩
 have HE:=Lib.hid (fun w1 Qs (h1:Has W w1 (sTR b s ns::Qs))=>Empty_has h1 ((m:Int) - 1))
 rw [hE] at HE ⊢
 simp only at HE ⊢
 by_cases heo:eo=0
 case neg =>
  rw [if_pos heo]
  have hb:(eo != 0)=true:=by simpa using heo
  clear h hg hi hm h1 h2 hE h0
  go_enter Tryz.func29,Tryz.ntmps29
  go_wp2_with fail
  refine (HN.out _ _ H.out).mono ?_
  rintro e w1 ⟨rfl,h,hf⟩
  have H:=Lib.hid h
  clear h hf
  go_wp2_with fail
  refine (HL.out _ _ H.out).mono ?_
  rintro e w2 ⟨rfl,h,hf⟩
  have H:=Lib.hid h
  clear h hf
  go_wp2_with fail
  refine (HE.out _ _ H.out).mono ?_
  rintro e w3 ⟨rfl,h⟩
  have H3:=Lib.hid h
  clear h
  go_wp2
  go_ret2
  exact⟨rfl,H3.out⟩
 subst heo
 rw [if_neg (by simp)]
 have hb:((0:Int) != 0)=false:=rfl
 obtain⟨n,hnm⟩:∃ n,m=n+1:=⟨m - 1,by omega⟩
 have hpre:ns <+: no:=by
  have:=emptyQ_grows (s:=s) (ns:=ns) n
  rw [show ((m:Int) - 1)=((n:Nat):Int) by omega] at hE
  rw [hE] at this
  exact this.1
 rw [hnm] at hi
 have hi':=hi.grow hpre
 have hnode:nodeOf s no id=nodeOf s ns id:=by
  obtain⟨i,k,rfl,hk,_⟩:=hi.kids hg
  obtain⟨xs,rfl⟩:=hpre
  have hlt:=(List.getElem?_eq_some_iff.1 hk).1
  unfold nodeOf
  rw [List.getD_eq_getElem?_getD,List.getD_eq_getElem?_getD,List.getElem?_append_left (by omega)]
 have HK:=Lib.hid (fun w1 Qs (h1:Has W w1 (sTR b s no::Qs))=>Kids_has h1 hi')
 rw [hnode] at HK
 clear h hg hi hm h1 h2 hE h0 hi' hnode hpre hnm
 go_enter Tryz.func29,Tryz.ntmps29
 go_wp2_with fail
 refine (HN.out _ _ H.out).mono ?_
 rintro e w1 ⟨rfl,h,hf⟩
 have H:=Lib.hid h
 clear h hf
 go_wp2_with fail
 refine (HL.out _ _ H.out).mono ?_
 rintro e w2 ⟨rfl,h,hf⟩
 have H:=Lib.hid h
 clear h hf
 go_wp2_with fail
 refine (HE.out _ _ H.out).mono ?_
 rintro e w3 ⟨rfl,h⟩
 have H3:=Lib.hid h
 clear h
 go_wp2_with fail
 refine (HK.out _ _ H3.out).mono ?_
 rintro e w4 ⟨rfl,h,hf⟩
 have h:=(hAL h #[.int .i64 (nodeOf s ns id).a,.int .i64 (nodeOf s ns id).b,.int .i64 (nodeOf s ns id).c,.int .i64 (nodeOf s ns id).d] 81).swap
 obtain⟨ib,hib⟩:∃ ib,w4.heap.size=ib:=⟨_,rfl⟩
 rw [hib] at h
 have H4:=Lib.hid h
 clear h hf H3
 go_wp2
 clear hib
 go_loopw [45] (fun x wr=>∃ z:Int,x=.int .i64 z∧At5 (fun k=>∃ ids ms,kr (fun ms k=>join s ms (cornerK o ((nodeOf s ns id).get k) (3 - k))) k no=(0,ids,ms)∧Has W wr (sTR b s ms::Hp.blk ib (.cells (iv (mixL (nodeOf s ns id) ids)).toArray 81 (0,0))::Ps)) z) (fun x _=>4 - (intOf x).toNat)
 case atStart=>exact⟨0,rfl,.inl ⟨rfl,[],no,rfl,H4.out⟩⟩
 case round =>
  obtain⟨z,rfl,hz⟩:=hrel
  clear H4
  rcases hz with ⟨rfl,hz⟩|⟨rfl,hz⟩|⟨rfl,hz⟩|⟨rfl,hz⟩|⟨rfl,hz⟩
  ·
   obtain⟨ids,ms,hkr,h⟩:=hz
   have hl:=kr_len hkr
   obtain rfl:=List.length_eq_zero_iff.1 hl
   have Hkr:=Lib.hid hkr
   have c0:_=some (Value.int .i64 ((nodeOf s ns id).get 0)):=(hCE h.swap).1 0
   have cz:=(hCE h.swap).2.1 0
   have cl:=(hCE h.swap).2.2
   have H:=Lib.hid h
   clear h hkr hl
   go_wp2_with fail
   refine (Join_has (H.out.step (by (repeat first|exact Fr.refl _ _|assumption|apply Fr.n|apply Fr.d|apply Fr.a|refine Fr.s ?_ (.inr (by simp;try omega)) _))) _ _ _ _).mono ?_
   obtain⟨id5,e5,ms5,hj⟩:∃ id5 e5 ms5,join s ms (cornerK o ((nodeOf s ns id).get 0) (3 - 0))=((id5,e5),ms5):=⟨_,_,_,rfl⟩
   rintro e w5 ⟨rfl,h1⟩
   rw [show (⟨o,o,o,(nodeOf s ns id).get 0⟩:K4)=cornerK o ((nodeOf s ns id).get 0) (3 - 0) from rfl,hj] at h1 ⊢
   clear c0 cz cl
   have c0:_=some (Value.int .i64 ((nodeOf s ns id).get 0)):=(hCE h1.swap).1 0
   have cz:=(hCE h1.swap).2.1 0
   have cl:=(hCE h1.swap).2.2
   by_cases he5:e5=0
   ·subst he5
    have hb5:((0:Int) != 0)=false:=rfl
    have Hkr5:=Lib.hid (kr_ok Hkr.out (show (fun ms k=>join s ms (cornerK o ((nodeOf s ns id).get k) (3 - k))) ms 0=((id5,0),ms5) from hj))
    have H5:=Lib.hid h1
    clear h1 hj
    go_wp2
    go_roundw
    case rel=>exact⟨1,rfl,(.inr (.inl ⟨rfl,_,_,Hkr5.out,(hST H5.out.swap 0 _).swap⟩))⟩
    case measure=>simp [intOf]
   ·have hb5:(e5 != 0)=true:=by simpa using he5
    have HF5:=Lib.hid (fin4_bad (s:=s) (by omega) Hkr.out (show (fun ms k=>join s ms (cornerK o ((nodeOf s ns id).get k) (3 - k))) ms 0=((id5,e5),ms5) from hj) he5)
    have H5:=Lib.hid h1
    clear h1 hj he5
    go_wp2
    go_ret2
    rw [HF5.out]
    exact⟨rfl,(hST H5.out.swap 0 _).drop⟩
  ·
   obtain⟨ids,ms,hkr,h⟩:=hz
   have hl:=kr_len hkr
   obtain⟨i0,rfl⟩:=List.length_eq_one_iff.1 hl
   have Hkr:=Lib.hid hkr
   have c0:_=some (Value.int .i64 ((nodeOf s ns id).get 1)):=(hCE h.swap).1 1
   have cz:=(hCE h.swap).2.1 1
   have cl:=(hCE h.swap).2.2
   have H:=Lib.hid h
   clear h hkr hl
   go_wp2_with fail
   refine (Join_has (H.out.step (by (repeat first|exact Fr.refl _ _|assumption|apply Fr.n|apply Fr.d|apply Fr.a|refine Fr.s ?_ (.inr (by simp;try omega)) _))) _ _ _ _).mono ?_
   obtain⟨id5,e5,ms5,hj⟩:∃ id5 e5 ms5,join s ms (cornerK o ((nodeOf s ns id).get 1) (3 - 1))=((id5,e5),ms5):=⟨_,_,_,rfl⟩
   rintro e w5 ⟨rfl,h1⟩
   rw [show (⟨o,o,(nodeOf s ns id).get 1,o⟩:K4)=cornerK o ((nodeOf s ns id).get 1) (3 - 1) from rfl,hj] at h1 ⊢
   clear c0 cz cl
   have c0:_=some (Value.int .i64 ((nodeOf s ns id).get 1)):=(hCE h1.swap).1 1
   have cz:=(hCE h1.swap).2.1 1
   have cl:=(hCE h1.swap).2.2
   by_cases he5:e5=0
   ·subst he5
    have hb5:((0:Int) != 0)=false:=rfl
    have Hkr5:=Lib.hid (kr_ok Hkr.out (show (fun ms k=>join s ms (cornerK o ((nodeOf s ns id).get k) (3 - k))) ms 1=((id5,0),ms5) from hj))
    have H5:=Lib.hid h1
    clear h1 hj
    go_wp2
    go_roundw
    case rel=>exact⟨2,rfl,(.inr (.inr (.inl ⟨rfl,_,_,Hkr5.out,(hST H5.out.swap 1 _).swap⟩)))⟩
    case measure=>simp [intOf]
   ·have hb5:(e5 != 0)=true:=by simpa using he5
    have HF5:=Lib.hid (fin4_bad (s:=s) (by omega) Hkr.out (show (fun ms k=>join s ms (cornerK o ((nodeOf s ns id).get k) (3 - k))) ms 1=((id5,e5),ms5) from hj) he5)
    have H5:=Lib.hid h1
    clear h1 hj he5
    go_wp2
    go_ret2
    rw [HF5.out]
    exact⟨rfl,(hST H5.out.swap 1 _).drop⟩
  ·
   obtain⟨ids,ms,hkr,h⟩:=hz
   have hl:=kr_len hkr
   obtain⟨i0,i1,rfl⟩:=len2 hl
   have Hkr:=Lib.hid hkr
   have c0:_=some (Value.int .i64 ((nodeOf s ns id).get 2)):=(hCE h.swap).1 2
   have cz:=(hCE h.swap).2.1 2
   have cl:=(hCE h.swap).2.2
   have H:=Lib.hid h
   clear h hkr hl
   go_wp2_with fail
   refine (Join_has (H.out.step (by (repeat first|exact Fr.refl _ _|assumption|apply Fr.n|apply Fr.d|apply Fr.a|refine Fr.s ?_ (.inr (by simp;try omega)) _))) _ _ _ _).mono ?_
   obtain⟨id5,e5,ms5,hj⟩:∃ id5 e5 ms5,join s ms (cornerK o ((nodeOf s ns id).get 2) (3 - 2))=((id5,e5),ms5):=⟨_,_,_,rfl⟩
   rintro e w5 ⟨rfl,h1⟩
   rw [show (⟨o,(nodeOf s ns id).get 2,o,o⟩:K4)=cornerK o ((nodeOf s ns id).get 2) (3 - 2) from rfl,hj] at h1 ⊢
   clear c0 cz cl
   have c0:_=some (Value.int .i64 ((nodeOf s ns id).get 2)):=(hCE h1.swap).1 2
   have cz:=(hCE h1.swap).2.1 2
   have cl:=(hCE h1.swap).2.2
   by_cases he5:e5=0
   ·subst he5
    have hb5:((0:Int) != 0)=false:=rfl
    have Hkr5:=Lib.hid (kr_ok Hkr.out (show (fun ms k=>join s ms (cornerK o ((nodeOf s ns id).get k) (3 - k))) ms 2=((id5,0),ms5) from hj))
    have H5:=Lib.hid h1
    clear h1 hj
    go_wp2
    go_roundw
    case rel=>exact⟨3,rfl,(.inr (.inr (.inr (.inl ⟨rfl,_,_,Hkr5.out,(hST H5.out.swap 2 _).swap⟩))))⟩
    case measure=>simp [intOf]
   ·have hb5:(e5 != 0)=true:=by simpa using he5
    have HF5:=Lib.hid (fin4_bad (s:=s) (by omega) Hkr.out (show (fun ms k=>join s ms (cornerK o ((nodeOf s ns id).get k) (3 - k))) ms 2=((id5,e5),ms5) from hj) he5)
    have H5:=Lib.hid h1
    clear h1 hj he5
    go_wp2
    go_ret2
    rw [HF5.out]
    exact⟨rfl,(hST H5.out.swap 2 _).drop⟩
  ·
   obtain⟨ids,ms,hkr,h⟩:=hz
   have hl:=kr_len hkr
   obtain⟨i0,i1,i2,rfl⟩:=len3 hl
   have Hkr:=Lib.hid hkr
   have c0:_=some (Value.int .i64 ((nodeOf s ns id).get 3)):=(hCE h.swap).1 3
   have cz:=(hCE h.swap).2.1 3
   have cl:=(hCE h.swap).2.2
   have H:=Lib.hid h
   clear h hkr hl
   go_wp2_with fail
   refine (Join_has (H.out.step (by (repeat first|exact Fr.refl _ _|assumption|apply Fr.n|apply Fr.d|apply Fr.a|refine Fr.s ?_ (.inr (by simp;try omega)) _))) _ _ _ _).mono ?_
   obtain⟨id5,e5,ms5,hj⟩:∃ id5 e5 ms5,join s ms (cornerK o ((nodeOf s ns id).get 3) (3 - 3))=((id5,e5),ms5):=⟨_,_,_,rfl⟩
   rintro e w5 ⟨rfl,h1⟩
   rw [show (⟨(nodeOf s ns id).get 3,o,o,o⟩:K4)=cornerK o ((nodeOf s ns id).get 3) (3 - 3) from rfl,hj] at h1 ⊢
   clear c0 cz cl
   have c0:_=some (Value.int .i64 ((nodeOf s ns id).get 3)):=(hCE h1.swap).1 3
   have cz:=(hCE h1.swap).2.1 3
   have cl:=(hCE h1.swap).2.2
   by_cases he5:e5=0
   ·subst he5
    have hb5:((0:Int) != 0)=false:=rfl
    have Hkr5:=Lib.hid (kr_ok Hkr.out (show (fun ms k=>join s ms (cornerK o ((nodeOf s ns id).get k) (3 - k))) ms 3=((id5,0),ms5) from hj))
    have H5:=Lib.hid h1
    clear h1 hj
    go_wp2
    go_roundw
    case rel=>exact⟨4,rfl,(.inr (.inr (.inr (.inr ⟨rfl,_,_,Hkr5.out,(hST H5.out.swap 3 _).swap⟩))))⟩
    case measure=>simp [intOf]
   ·have hb5:(e5 != 0)=true:=by simpa using he5
    have HF5:=Lib.hid (fin4_bad (s:=s) (by omega) Hkr.out (show (fun ms k=>join s ms (cornerK o ((nodeOf s ns id).get k) (3 - k))) ms 3=((id5,e5),ms5) from hj) he5)
    have H5:=Lib.hid h1
    clear h1 hj he5
    go_wp2
    go_ret2
    rw [HF5.out]
    exact⟨rfl,(hST H5.out.swap 3 _).drop⟩
  ·obtain⟨ids,ms,hkr,h⟩:=hz
   obtain⟨i0,i1,i2,i3,rfl⟩:=len4 (kr_len hkr)
   have c0:_=some (Value.int .i64 i0):=(hCE h.swap).1 0
   have c1:_=some (Value.int .i64 i1):=(hCE h.swap).1 1
   have c2:_=some (Value.int .i64 i2):=(hCE h.swap).1 2
   have c3:_=some (Value.int .i64 i3):=(hCE h.swap).1 3
   have cl:=(hCE h.swap).2.2
   have HF:=Lib.hid (fin4_ok (s:=s) hkr)
   have H:=Lib.hid h
   clear h hkr
   go_wp2_with fail
   refine (Join_has H.out _ _ _ _).mono ?_
   rintro e w5 ⟨rfl,h1⟩
   have H5:=Lib.hid h1
   clear h1
   go_wp2
   go_ret2
   rw [HF.out]
   exact⟨rfl,H5.out.swap.drop⟩
end Go.Proofs.YtdanghnadbkhfaaGreat
end
section
namespace Go.Proofs.Bn
def val (B:Nat):List Nat→Nat
 | []=>0
 | d::l=>d+B*val B l
def Dig (B:Nat) (l:List Nat):Prop:=∀ d∈l,d<B
theorem val_append (B:Nat):∀ (l m:List Nat),val B (l++m)=val B l+B ^ l.length*val B m
 | [],m=>by simp [val]
 | d::l,m=>by
  rw [List.cons_append,val,val,val_append B l m,List.length_cons,Nat.pow_succ]
  rw [Nat.mul_add,Nat.add_assoc]
  congr 2
  rw [← Nat.mul_assoc,Nat.mul_comm B]
theorem val_snoc (B:Nat) (l:List Nat) (d:Nat):val B (l++[d])=val B l+B ^ l.length*d:=by
 rw [val_append];simp [val]
theorem Dig.tail {B:Nat} {d:Nat} {l:List Nat} (h:Dig B (d::l)):Dig B l:=fun x hx=>h x (by simp [hx])
theorem Dig.head {B:Nat} {d:Nat} {l:List Nat} (h:Dig B (d::l)):d<B:=h d (by simp)
theorem Dig.take {B:Nat} {l:List Nat} (h:Dig B l) (i:Nat):Dig B (l.take i):=fun x hx=>h x (List.mem_of_mem_take hx)
theorem Dig.drop {B:Nat} {l:List Nat} (h:Dig B l) (i:Nat):Dig B (l.drop i):=fun x hx=>h x (List.mem_of_mem_drop hx)
theorem Dig.append {B:Nat} {l m:List Nat} (h:Dig B l) (k:Dig B m):Dig B (l++m):=fun x hx=>by
 rw [List.mem_append] at hx
 rcases hx with hx|hx
 ·exact h x hx
 ·exact k x hx
theorem Dig.set {B:Nat} {l:List Nat} (h:Dig B l) {i d:Nat} (hd:d<B):Dig B (l.set i d):=fun x hx=>by
 rcases List.mem_or_eq_of_mem_set hx with hx|rfl
 ·exact h x hx
 ·exact hd
theorem Dig.getD {B:Nat} {l:List Nat} (h:Dig B l) (hB:0<B) (i:Nat):l.getD i 0<B:=by
 rw [List.getD_eq_getElem?_getD]
 by_cases hi:i<l.length
 ·rw [List.getElem?_eq_getElem hi];exact h _ (List.getElem_mem _)
 ·rw [List.getElem?_eq_none (by omega)];exact hB
theorem Dig.replicate {B:Nat} (hB:0<B) (n:Nat):Dig B (List.replicate n 0):=fun x hx=>by
 rw [List.mem_replicate] at hx;omega
theorem Dig.nil {B:Nat}:Dig B []:=fun x hx=>by cases hx
theorem val_lt {B:Nat}:∀ {l:List Nat},Dig B l→val B l<B ^ l.length
 | [],_=>by simp [val]
 | d::l,h=>by
  have h1:=h.head
  have h2:=val_lt h.tail
  rw [val,List.length_cons,Nat.pow_succ]
  have:B*val B l+B≤B*B ^ l.length:=by
   rw [← Nat.mul_succ];exact Nat.mul_le_mul_left _ h2
  rw [Nat.mul_comm (B ^ l.length)]
  omega
theorem val_replicate (B n:Nat):val B (List.replicate n 0)=0:=by
 induction n with
 | zero=>rfl
 | succ n ih=>rw [List.replicate_succ,val,ih];simp
theorem val_take_drop (B:Nat) (l:List Nat) (i:Nat) (h:i≤l.length):val B l=val B (l.take i)+B ^ i*val B (l.drop i):=by
 have:=val_append B (l.take i) (l.drop i)
 rw [List.take_append_drop,List.length_take,Nat.min_eq_left h] at this
 exact this
theorem val_take_succ (B:Nat) (l:List Nat) (i:Nat):val B (l.take (i+1))=val B (l.take i)+B ^ i*l.getD i 0:=by
 by_cases h:i<l.length
 ·rw [List.take_add_one,List.getElem?_eq_getElem h,Option.toList_some,val_snoc,List.length_take,Nat.min_eq_left (by omega),List.getD_eq_getElem?_getD,List.getElem?_eq_getElem h];rfl
 ·rw [List.take_of_length_le (by omega),List.take_of_length_le (by omega),List.getD_eq_getElem?_getD,List.getElem?_eq_none (by omega)]
  simp
theorem val_drop (B:Nat) (l:List Nat) (i:Nat):val B (l.drop i)=l.getD i 0+B*val B (l.drop (i+1)):=by
 by_cases h:i<l.length
 ·rw [List.drop_eq_getElem_cons h,val,List.getD_eq_getElem?_getD,List.getElem?_eq_getElem h];rfl
 ·rw [List.drop_eq_nil_of_le (by omega),List.drop_eq_nil_of_le (by omega),List.getD_eq_getElem?_getD,List.getElem?_eq_none (by omega)]
  simp [val]
theorem val_div {B:Nat} {l:List Nat} (h:Dig B l) {i:Nat} (hi:i≤l.length):val B l / B ^ i=val B (l.drop i):=by
 have h1:=val_take_drop B l i hi
 have h2:=val_lt (h.take i)
 rw [List.length_take,Nat.min_eq_left hi] at h2
 rw [h1,Nat.add_mul_div_left _ _ (by omega),Nat.div_eq_of_lt h2,Nat.zero_add]
theorem val_digit {B:Nat} {l:List Nat} (h:Dig B l) (hB:0<B) (i:Nat):val B l / B ^ i % B=l.getD i 0:=by
 by_cases hi:i≤l.length
 ·rw [val_div h hi,val_drop,Nat.add_mul_mod_self_left,Nat.mod_eq_of_lt (h.getD hB i)]
 ·have:=val_lt h
  rw [List.getD_eq_getElem?_getD,List.getElem?_eq_none (by omega),Nat.div_eq_of_lt (Nat.lt_of_lt_of_le this (Nat.pow_le_pow_right hB (by omega)))]
  simp
theorem val_of_digits {B X:Nat} (hB:0<B):∀ {l:List Nat},(∀ i,i<l.length→l.getD i 0=X / B ^ i % B)→val B l=X % B ^ l.length:=by
 intro l
 have key:∀ i,i≤l.length→(∀ i,i<l.length→l.getD i 0=X / B ^ i % B)→val B (l.take i)=X % B ^ i:=by
  intro i
  induction i with
  | zero=>intro _ _;simp [val,Nat.mod_one]
  | succ i ih =>
   intro hi h
   rw [val_take_succ,ih (by omega) h,h i (by omega),Nat.pow_succ,Nat.mod_mul]
 intro h
 have:=key l.length (Nat.le_refl _) h
 rwa [List.take_length] at this
def Canon (l:List Nat):Prop:=l.getLast?≠some 0
instance (l:List Nat):Decidable (Canon l):=by unfold Canon;exact inferInstance
def dg (B n:Nat):List Nat:=if h:n=0∨B<2 then [] else n % B::dg B (n / B)
termination_by n
decreasing_by exact Nat.div_lt_self (by omega) (by omega)
theorem dg_zero (B:Nat):dg B 0=[]:=by rw [dg,dif_pos (.inl rfl)]
theorem dg_succ {B n:Nat} (hB:2≤B) (hn:n≠0):dg B n=n % B::dg B (n / B):=by rw [dg,dif_neg (by omega)]
theorem val_dg {B:Nat} (hB:2≤B) (n:Nat):val B (dg B n)=n:=by
 induction n using Nat.strongRecOn with
 | ind n ih =>
  by_cases hn:n=0
  ·subst hn;rw [dg_zero];rfl
  ·rw [dg_succ hB hn,val,ih _ (Nat.div_lt_self (by omega) (by omega)),Nat.mod_add_div]
theorem dg_dig {B:Nat} (hB:2≤B) (n:Nat):Dig B (dg B n):=by
 induction n using Nat.strongRecOn with
 | ind n ih =>
  by_cases hn:n=0
  ·subst hn;rw [dg_zero];exact Dig.nil
  ·rw [dg_succ hB hn]
   intro d hd
   rcases List.mem_cons.1 hd with rfl|hd
   ·exact Nat.mod_lt _ (by omega)
   ·exact ih _ (Nat.div_lt_self (by omega) (by omega)) d hd
theorem dg_eq_nil {B:Nat} (hB:2≤B) {n:Nat}:dg B n=[]↔n=0:=by
 constructor
 ·intro h
  have:=val_dg hB n
  rw [h] at this
  exact this.symm
 ·rintro rfl;exact dg_zero B
theorem dg_canon {B:Nat} (hB:2≤B) (n:Nat):Canon (dg B n):=by
 induction n using Nat.strongRecOn with
 | ind n ih =>
  by_cases hn:n=0
  ·subst hn;rw [dg_zero];unfold Canon;simp
  ·have ih':=ih _ (Nat.div_lt_self (by omega) (by omega):n / B<n)
   rw [dg_succ hB hn]
   unfold Canon at *
   by_cases h:dg B (n / B)=[]
   ·rw [h]
    rw [dg_eq_nil hB] at h
    simp only [List.getLast?_singleton,ne_eq,Option.some.injEq]
    intro hz
    have:=Nat.mod_add_div n B
    rw [h,hz] at this
    simp at this
    omega
   ·rwa [List.getLast?_cons,List.getLast?_eq_some_getLast h,Option.getD_some,← List.getLast?_eq_some_getLast h]
theorem canon_tail {d:Nat} {l:List Nat} (h:Canon (d::l)):Canon l:=by
 unfold Canon at *
 cases l with
 | nil=>simp
 | cons x l=>rwa [List.getLast?_cons_cons] at h
theorem canon_pos {B:Nat} (hB:0<B):∀ {l:List Nat},Canon l→l≠[]→0<val B l
 | [],_,h=>absurd rfl h
 | [d],h,_=>by
  unfold Canon at h
  simp at h
  rw [val];omega
 | d::x::l,h,_=>by
  have:=canon_pos hB (canon_tail h) (by simp)
  rw [val]
  have:=Nat.mul_pos hB this
  omega
theorem dg_val {B:Nat} (hB:2≤B):∀ {l:List Nat},Dig B l→Canon l→dg B (val B l)=l
 | [],_,_=>dg_zero B
 | d::l,h,c=>by
  have hp:=canon_pos (by omega:0<B) c (by simp)
  have h1:=h.head
  have ih:=dg_val hB h.tail (canon_tail c)
  rw [dg_succ hB (by omega)]
  have e1:val B (d::l) % B=d:=by rw [val,Nat.add_mul_mod_self_left,Nat.mod_eq_of_lt h1]
  have e2:val B (d::l) / B=val B l:=by rw [val,Nat.add_mul_div_left _ _ (by omega),Nat.div_eq_of_lt h1,Nat.zero_add]
  rw [e1,e2,ih]
theorem dg_length_le {B:Nat} (hB:2≤B) (k:Nat):∀ {n:Nat},(dg B n).length≤k↔n<B ^ k:=by
 induction k with
 | zero =>
  intro n
  rw [Nat.pow_zero,Nat.le_zero,List.length_eq_zero_iff,dg_eq_nil hB]
  omega
 | succ k ih =>
  intro n
  by_cases hn:n=0
  ·subst hn
   rw [dg_zero]
   simp
   exact Nat.pow_pos (by omega)
  ·rw [dg_succ hB hn,List.length_cons,Nat.add_le_add_iff_right,ih,Nat.pow_succ,Nat.div_lt_iff_lt_mul (by omega)]
theorem canon_le {B:Nat} (hB:2≤B) {l:List Nat} (h:Dig B l) (c:Canon l) (hl:l≠[]):B ^ (l.length - 1)≤val B l:=by
 have h1:=dg_val hB h c
 rcases Nat.lt_or_ge (val B l) (B ^ (l.length - 1)) with hlt|hge
 ·have:=(dg_length_le hB (l.length - 1)).2 hlt
  rw [h1] at this
  have:=List.length_pos_iff.2 hl
  omega
 ·exact hge
def trimL (B:Nat) (l:List Nat):List Nat:=dg B (val B l)
theorem trimL_zero {B:Nat} (l:List Nat):trimL B (l++[0])=trimL B l:=by unfold trimL;rw [val_snoc];simp
theorem trimL_nil (B:Nat):trimL B []=[]:=dg_zero B
theorem canon_snoc {l:List Nat} {d:Nat} (h:d≠0):Canon (l++[d]):=by unfold Canon;simpa using h
theorem trimL_canon {B:Nat} (hB:2≤B) {l:List Nat} (h:Dig B l) (c:Canon l):trimL B l=l:=dg_val hB h c
theorem trimL_prefix {B:Nat} (hB:2≤B):∀ (n:Nat) {l:List Nat},l.length=n→Dig B l→∃ k,k≤l.length∧trimL B l=l.take k
 | 0,l,hn,h=>by
  obtain rfl:=List.eq_nil_of_length_eq_zero hn
  exact⟨0,by simp,dg_zero B⟩
 | n+1,l,hn,h=>by
  have hl:l≠[]:=fun e=>by rw [e] at hn;cases hn
  by_cases c:Canon l
  ·exact⟨l.length,Nat.le_refl _,by rw [List.take_length];exact trimL_canon hB h c⟩
  ·have hz:l.getLast?=some 0:=by unfold Canon at c;exact Classical.not_not.1 c
   have hs:l.take n++[0]=l:=by
    have h2:=List.dropLast_concat_getLast hl
    rw [List.getLast?_eq_some_getLast hl] at hz
    rw [Option.some.inj hz] at h2
    rw [← h2]
    congr 1
    rw [List.dropLast_eq_take,hn]
    simp
    rw [List.take_append_of_le_length (by simp;omega),List.take_take]
    simp
   obtain⟨k,hk,hp⟩:=trimL_prefix hB n (l:=l.take n) (by rw [List.length_take];omega) (h.take n)
   rw [List.length_take] at hk
   refine⟨k,by omega,?_⟩
   rw [← hs,trimL_zero,hp,List.take_append_of_le_length (by rw [List.length_take];omega)]
end Go.Proofs.Bn
end
