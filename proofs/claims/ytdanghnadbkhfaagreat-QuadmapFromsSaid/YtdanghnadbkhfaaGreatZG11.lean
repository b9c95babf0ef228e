/- Own texts of this claim, part 12: no condition. -/
import Derived.Test.YtdanghnadbkhfaaGreatZG9
import Derived.Test.YtdanghnadbkhfaaGreatZG10
import Derived.Test.YtdanghnadbkhfaaGreatZG4
set_option linter.unusedVariables false
set_option linter.unusedSimpArgs false
section
namespace Go.Proofs.YtdanghnadbkhfaaGreat
open Go Qs Ev
def kr (f:List K4→Nat→(Int×Int)×List K4):Nat→List K4→Int×List Int×List K4
 | 0,ns=>(0,[],ns)
 | k+1,ns=>if (kr f k ns).1≠0 then kr f k ns else if (f (kr f k ns).2.2 k).1.2=0 then (0,(kr f k ns).2.1++[(f (kr f k ns).2.2 k).1.1],(f (kr f k ns).2.2 k).2) else ((f (kr f k ns).2.2 k).1.2,(kr f k ns).2.1,(f (kr f k ns).2.2 k).2)
def k4l (l:List Int):K4:=⟨l.getD 0 0,l.getD 1 0,l.getD 2 0,l.getD 3 0⟩
def fin4 (s:Int) (f:List K4→Nat→(Int×Int)×List K4) (ns:List K4):(Int×Int)×List K4 :=
 if (kr f 4 ns).1≠0 then ((0,(kr f 4 ns).1),(kr f 4 ns).2.2) else join s (kr f 4 ns).2.2 (k4l (kr f 4 ns).2.1)
theorem kr_ok {f:List K4→Nat→(Int×Int)×List K4} {k:Nat} {ns ms ms':List K4} {ids:List Int} {id:Int} (h:kr f k ns=(0,ids,ms)) (h2:f ms k=((id,0),ms')):kr f (k+1) ns=(0,ids++[id],ms'):=by
 rw [kr,h]
 simp only [ne_eq,not_true_eq_false,if_false]
 rw [h2]
 simp
theorem kr_bad {f:List K4→Nat→(Int×Int)×List K4} {k:Nat} {ns ms ms':List K4} {ids:List Int} {id e:Int} (h:kr f k ns=(0,ids,ms)) (h2:f ms k=((id,e),ms')) (he:e≠0):kr f (k+1) ns=(e,ids,ms'):=by
 rw [kr,h]
 simp only [ne_eq,not_true_eq_false,if_false]
 rw [h2]
 simp [he]
theorem kr_stay {f:List K4→Nat→(Int×Int)×List K4} {k:Nat} {ns ms:List K4} {ids:List Int} {e:Int} (h:kr f k ns=(e,ids,ms)) (he:e≠0):∀ m,kr f (k+m) ns=(e,ids,ms)
 | 0=>h
 | m+1=>by
  show kr f (k+m+1) ns=_
  rw [kr,kr_stay h he m,if_pos he]
theorem fin4_bad {s:Int} {f:List K4→Nat→(Int×Int)×List K4} {k:Nat} {ns ms ms':List K4} {ids:List Int} {id e:Int} (hk:k<4) (h:kr f k ns=(0,ids,ms)) (h2:f ms k=((id,e),ms')) (he:e≠0):fin4 s f ns=((0,e),ms'):=by
 have:=kr_stay (kr_bad h h2 he) he (3 - k)
 rw [show k+1+(3 - k)=4 by omega] at this
 unfold fin4
 rw [this,if_pos he]
theorem fin4_ok {s:Int} {f:List K4→Nat→(Int×Int)×List K4} {ns ms:List K4} {ids:List Int} (h:kr f 4 ns=(0,ids,ms)):fin4 s f ns=join s ms (k4l ids):=by
 unfold fin4
 rw [h,if_neg (by simp)]
theorem kr_len {f:List K4→Nat→(Int×Int)×List K4}:∀ {k:Nat} {ns ms:List K4} {ids:List Int},kr f k ns=(0,ids,ms)→ids.length=k
 | 0,ns,ms,ids,h=>by
  simp only [kr,Prod.mk.injEq] at h
  rw [← h.2.1];rfl
 | k+1,ns,ms,ids,h=>by
  obtain⟨e,i2,m2,h2⟩:∃ e i2 m2,kr f k ns=(e,i2,m2):=⟨_,_,_,rfl⟩
  by_cases he:e=0
  ·subst he
   obtain⟨id,e3,m3,h3⟩:∃ id e3 m3,f m2 k=((id,e3),m3):=⟨_,_,_,rfl⟩
   by_cases h4:e3=0
   ·subst h4
    rw [kr_ok h2 h3] at h
    simp only [Prod.mk.injEq] at h
    rw [← h.2.1]
    simp [kr_len h2]
   ·rw [kr_bad h2 h3 h4] at h
    simp only [Prod.mk.injEq] at h
    exact absurd h.1 h4
  ·have:=kr_stay h2 he 1
   rw [this] at h
   simp only [Prod.mk.injEq] at h
   exact absurd h.1 he
structure Spot where
 x:Nat
 y:Nat
 st:Int
def quadOf (h:Nat) (c:Spot):Nat:=(if h≤c.x then 1 else 0)+(if h≤c.y then 2 else 0)
def intoQ (h:Nat) (c:Spot):Spot:=⟨if h≤c.x then c.x - h else c.x,if h≤c.y then c.y - h else c.y,c.st⟩
def partQ (h:Nat) (k:Nat) (l:List Spot):List Spot:=(l.filter fun c=>decide (quadOf h c=k)).map (intoQ h)
theorem partQ_snoc (h k:Nat) (l:List Spot) (c:Spot):partQ h k (l++[c])=partQ h k l++if quadOf h c=k then [intoQ h c] else []:=by
 unfold partQ
 rw [List.filter_append,List.map_append]
 by_cases hc:quadOf h c=k<;>simp [hc]
def buildQ (s:Int):Nat→List K4→List Spot→(Int×Int)×List K4
 | n,ns,[]=>emptyQ s ns n
 | 0,ns,c::_=>((c.st,0),ns)
 | n+1,ns,c::l=>fin4 s (fun ms k=>buildQ s n ms (partQ (2 ^ n) k (c::l))) ns
theorem buildQ_nil (s:Int) (n:Nat) (ns:List K4):buildQ s n ns []=emptyQ s ns n:=by cases n<;>rfl
def putK (k:K4) (q:Nat) (v:Int):K4:=if q=0 then { k with a:=v } else if q=1 then { k with b:=v } else if q=2 then { k with c:=v } else { k with d:=v }
def qd (n x y:Nat):Nat:=x / 2 ^ n % 2+2*(y / 2 ^ n % 2)
def setQ (s:Int):Nat→List K4→Int→Nat→Nat→Int→(Int×Int)×List K4
 | 0,ns,id,x,y,st=>((st,0),ns)
 | n+1,ns,id,x,y,st =>
  if (setQ s n ns ((nodeOf s ns id).get (qd n x y)) x y st).1.2≠0 then ((0,(setQ s n ns ((nodeOf s ns id).get (qd n x y)) x y st).1.2),(setQ s n ns ((nodeOf s ns id).get (qd n x y)) x y st).2)
  else join s (setQ s n ns ((nodeOf s ns id).get (qd n x y)) x y st).2 (putK (nodeOf s ns id) (qd n x y) (setQ s n ns ((nodeOf s ns id).get (qd n x y)) x y st).1.1)
def lookQ (s:Int) (ns:List K4):Nat→Int→Nat→Nat→Int
 | 0,id,_,_=>id
 | n+1,id,x,y=>lookQ s ns n ((nodeOf s ns id).get (qd n x y)) x y
theorem mod_step (x n:Nat):x % 2 ^ (n+1)=x % 2 ^ n+2 ^ n*(x / 2 ^ n % 2):=by rw [Nat.pow_succ,Nat.mod_mul]
end Go.Proofs.YtdanghnadbkhfaaGreat
end
section
namespace Go.Proofs.YtdanghnadbkhfaaGreat
open Go Qs Ev
def popT:Tr→Nat
 | .leaf v=>if v=0 then 0 else 1
 | .node a b c d=>popT a+popT b+popT c+popT d
theorem popT_le:∀ {n:Nat} {t:Tr},Full n t→popT t≤4 ^ n
 | 0,.leaf v,_=>by unfold popT;split<;>simp
 | 0,.node _ _ _ _,h=>h.elim
 | n+1,.leaf _,h=>h.elim
 | n+1,.node a b c d,⟨ha,hb,hc,hd⟩=>by
  have:=popT_le ha;have:=popT_le hb;have:=popT_le hc;have:=popT_le hd
  show popT a+popT b+popT c+popT d≤_
  rw [Nat.pow_succ];omega
def cellsT:Nat→Tr→Nat→Nat→List Spot
 | 0,.leaf v,x,y=>if v=0 then [] else [⟨x,y,v⟩]
 | n+1,.node a b c d,x,y=>cellsT n a x y++(cellsT n b (x+2 ^ n) y++(cellsT n c x (y+2 ^ n)++cellsT n d (x+2 ^ n) (y+2 ^ n)))
 | _,_,_,_=>[]
theorem cellsT_len:∀ {n:Nat} {t:Tr} {x y:Nat},Full n t→(cellsT n t x y).length=popT t
 | 0,.leaf v,x,y,_=>by unfold cellsT popT;split<;>simp
 | 0,.node _ _ _ _,_,_,h=>h.elim
 | n+1,.leaf _,_,_,h=>h.elim
 | n+1,.node a b c d,x,y,⟨ha,hb,hc,hd⟩=>by
  unfold cellsT popT
  rw [List.length_append,List.length_append,List.length_append,cellsT_len ha,cellsT_len hb,cellsT_len hc,cellsT_len hd];omega
theorem cellsT_none {n:Nat} {t:Tr} {x y:Nat} (h:Full n t) (h0:popT t=0):cellsT n t x y=[]:=List.length_eq_zero_iff.1 ((cellsT_len h).trans h0)
abbrev Frm:=Int×Int×Int×Int
def joinF (o x:Option Frm) (dx dy:Int):Option Frm :=
 match x,o with
 | none,o=>o
 | some (l,t,r,b),none=>some (l+dx,t+dy,r+dx,b+dy)
 | some (l,t,r,b),some (l',t',r',b')=>some (min (l+dx) l',min (t+dy) t',max (r+dx) r',max (b+dy) b')
def frT:Nat→Tr→Option Frm
 | 0,.leaf v=>if v=0 then none else some (0,0,0,0)
 | n+1,.node a b c d=>joinF (joinF (joinF (joinF none (frT n a) 0 0) (frT n b) ((2 ^ n:Nat):Int) 0) (frT n c) 0 ((2 ^ n:Nat):Int)) (frT n d) ((2 ^ n:Nat):Int) ((2 ^ n:Nat):Int)
 | _,_=>none
def inF (h:Int) (f:Frm):Prop:=0≤f.1∧f.1<h∧0≤f.2.1∧f.2.1<h∧0≤f.2.2.1∧f.2.2.1<h∧0≤f.2.2.2∧f.2.2.2<h
theorem joinF_in {h:Int} {o x:Option Frm} {dx dy:Int} (ho:∀ f,o=some f→inF (h+h) f) (hx:∀ f,x=some f→inF h f) (h1:0≤dx) (h2:dx≤h) (h3:0≤dy) (h4:dy≤h):∀ f,joinF o x dx dy=some f→inF (h+h) f:=by
 intro f hf
 cases x with
 | none=>exact ho f hf
 | some x =>
  obtain⟨a,b,c,d⟩:=x
  obtain⟨x1,x2,x3,x4,x5,x6,x7,x8⟩:=hx _ rfl
  simp only at x1 x2 x3 x4 x5 x6 x7 x8
  cases o with
  | none =>
   simp only [joinF,Option.some.injEq] at hf
   subst hf
   simp only [inF];omega
  | some o =>
   obtain⟨a',b',c',d'⟩:=o
   obtain⟨y1,y2,y3,y4,y5,y6,y7,y8⟩:=ho _ rfl
   simp only at y1 y2 y3 y4 y5 y6 y7 y8
   simp only [joinF,Option.some.injEq] at hf
   subst hf
   simp only [inF];omega
theorem frT_in:∀ {n:Nat} {t:Tr},∀ f,frT n t=some f→inF ((2 ^ n:Nat):Int) f
 | 0,.leaf v,f,h=>by
  unfold frT at h
  split at h
  ·cases h
  ·simp only [Option.some.injEq] at h
   subst h
   simp [inF]
 | 0,.node _ _ _ _,f,h=>by simp [frT] at h
 | n+1,.leaf _,f,h=>by simp [frT] at h
 | n+1,.node a b c d,f,h=>by
  have hp:=Nat.pow_pos (n:=n) (show 0<2 by omega)
  rw [show (2 ^ (n+1):Nat)=2 ^ n+2 ^ n by rw [Nat.pow_succ];omega,Int.natCast_add]
  have h1:(0:Int)<((2 ^ n:Nat):Int):=by omega
  exact joinF_in (joinF_in (joinF_in (joinF_in (by simp) (frT_in (t:=a)) (by omega) (by omega) (by omega) (by omega)) (frT_in (t:=b)) (by omega) (by omega) (by omega) (by omega)) (frT_in (t:=c)) (by omega) (by omega) (by omega) (by omega)) (frT_in (t:=d)) (by omega) (by omega) (by omega) (by omega) f h
def emptyT:Nat→Tr
 | 0=>.leaf 0
 | n+1=>.node (emptyT n) (emptyT n) (emptyT n) (emptyT n)
theorem join_pre (s:Int) (ns:List K4) (k:K4):ns <+: (join s ns k).2:=by
 unfold join
 split
 ·exact List.prefix_refl _
 ·split
  ·exact List.prefix_refl _
  ·unfold joinIn
   split
   ·exact List.prefix_refl _
   ·split
    ·exact List.prefix_refl _
    ·exact List.prefix_append _ _
theorem grow_pre (s:Int):∀ (m:Nat) (id:Int) (ns:List K4),ns <+: (grow s m id ns).2∧(grow s m id ns).2.length≤ns.length+m
 | 0,id,ns=>⟨List.prefix_refl _,Nat.le_refl _⟩
 | m+1,id,ns=>by
  obtain⟨h1,h2⟩:=grow_pre s m (join s ns (four id)).1.1 (join s ns (four id)).2
  have:=join_len s ns (four id)
  exact⟨(join_pre s ns (four id)).trans h1,by unfold grow;omega⟩
theorem emptyQ_grows {s:Int} {ns:List K4} (L:Nat):ns <+: (emptyQ s ns L).2∧(emptyQ s ns L).2.length≤ns.length+L:=by
 unfold emptyQ
 split
 ·exact⟨List.prefix_refl _,by simp⟩
 ·split
  ·exact⟨List.prefix_refl _,by simp⟩
  ·obtain⟨h1,h2⟩:=grow_pre s (((L:Nat):Int).toNat - (climb s ns ((L:Nat):Int).toNat 0 0).2) (climb s ns ((L:Nat):Int).toNat 0 0).1 ns
   exact⟨h1,by simp only [Int.toNat_natCast] at h2 ⊢;omega⟩
theorem chain_is {s:Int} {ns:List K4} (hg:GoodQ s ns):∀ {L:Nat} {a:Int},Chain s ns L a→Is s ns L a (emptyT L)
 | 0,a,h=>by
  have:a=0:=h
  subst this
  exact Is.leaf (by omega) (by have:=hg.1;omega)
 | L+1,a,h=>by
  obtain⟨b,i,hb,hi,rfl⟩:=h
  have hk:=idx_get hi
  have h1:=chain_is hg hb
  refine⟨⟨by have:=hg.1;omega,?_⟩,?_,⟨h1.2.2.1,h1.2.2.1,h1.2.2.1,h1.2.2.1⟩,⟨h1.2.2.2,h1.2.2.2,h1.2.2.2,h1.2.2.2⟩⟩
  ·have:=(List.getElem?_eq_some_iff.1 hk).1;omega
  ·rw [tr_node hg hk]
   show Tr.node (tr s ns b) (tr s ns b) (tr s ns b) (tr s ns b)=_
   rw [h1.2.1];rfl
end Go.Proofs.YtdanghnadbkhfaaGreat
end
section
namespace Go.Proofs.YtdanghnadbkhfaaGreat
open Go Go.RowKit Rg Mp Hp Qs Ev
def knownQ (s:Int) (ns:List K4) (id:Int):Int:=if lvl s (levs s ns) id<0 then 13 else 0
def cornerK (o v:Int) (k:Nat):K4:=putK ⟨o,o,o,o⟩ k v
def expandQ (s:Int) (ns:List K4) (id:Int):(Int×Int)×List K4 :=
 if lvl s (levs s ns) id<0 then ((0,13),ns) else if lvl s (levs s ns) id<1∨256≤lvl s (levs s ns) id then ((0,18),ns)
 else if (emptyQ s ns (lvl s (levs s ns) id - 1)).1.2≠0 then ((0,(emptyQ s ns (lvl s (levs s ns) id - 1)).1.2),(emptyQ s ns (lvl s (levs s ns) id - 1)).2)
 else fin4 s (fun ms k=>join s ms (cornerK (emptyQ s ns (lvl s (levs s ns) id - 1)).1.1 ((nodeOf s ns id).get k) (3 - k))) (emptyQ s ns (lvl s (levs s ns) id - 1)).2
def centreQ (s:Int) (ns:List K4) (id:Int):(Int×Int)×List K4 :=
 if lvl s (levs s ns) id<0 then ((0,13),ns) else if lvl s (levs s ns) id<2 then ((0,18),ns)
 else join s ns ⟨(nodeOf s ns (nodeOf s ns id).a).get 3,(nodeOf s ns (nodeOf s ns id).b).get 2,(nodeOf s ns (nodeOf s ns id).c).get 1,(nodeOf s ns (nodeOf s ns id).d).get 0⟩
section
variable {W w:World} {b:Nat} {s:Int} {ns:List K4} {Ps:List Res}
theorem Empty_has (h:Has W w (sTR b s ns::Ps)) (l:Int) :
  Calls Tryz.prog 36 #[.pointer (some ⟨b,0,none⟩),.int .i64 l] w fun e w'=>e=.returned (.tuple #[.int .i64 (emptyQ s ns l).1.1,.int .i64 (emptyQ s ns l).1.2])∧Has W w' (sTR b s (emptyQ s ns l).2::Ps) :=
 h.upd (P':=sTR b s (emptyQ s ns l).2) (R:=fun e=>e=.returned (.tuple #[.int .i64 (emptyQ s ns l).1.1,.int .i64 (emptyQ s ns l).1.2])) fun F hS=>(Empty_calls hS l).mono fun e w' h=>h
theorem known_q (h:Has W w (sTR b s ns::Ps)) (id:Int) :
  Calls Tryz.prog 46 #[.pointer (some ⟨b,0,none⟩),.int .i64 id] w fun e w'=>e=.returned (.int .i64 (knownQ s ns id))∧Has W w' (sTR b s ns::Ps)∧Fr [] w w':=by
 have HL:=Lib.hid (fun w1 (hf:Fr [] w w1)=>Level_has (h.step hf) id)
 clear h
 obtain⟨l,hl⟩:∃ l,lvl s (levs s ns) id=l:=⟨_,rfl⟩
 unfold knownQ
 rw [hl] at HL ⊢
 clear hl
 by_cases h0:l<0
 ·have hd:decide (l<0)=true:=by simpa using h0
  rw [if_pos h0]
  go_enter Tryz.func46,Tryz.ntmps46
  go_wp2_with fail
  refine (HL.out _ (by (repeat first|exact Fr.refl _ _|assumption|apply Fr.n|apply Fr.d|apply Fr.a|refine Fr.s ?_ (.inr (by simp;try omega)) _))).mono ?_
  rintro e w1 ⟨rfl,h,hf⟩
  have H:=Lib.hid (And.intro h hf)
  clear h hf
  go_wp2
  go_ret
  exact⟨rfl,H.out.1,H.out.2⟩
 ·have hd:decide (l<0)=false:=by simpa using h0
  rw [if_neg h0]
  go_enter Tryz.func46,Tryz.ntmps46
  go_wp2_with fail
  refine (HL.out _ (by (repeat first|exact Fr.refl _ _|assumption|apply Fr.n|apply Fr.d|apply Fr.a|refine Fr.s ?_ (.inr (by simp;try omega)) _))).mono ?_
  rintro e w1 ⟨rfl,h,hf⟩
  have H:=Lib.hid (And.intro h hf)
  clear h hf
  go_wp2
  go_ret
  exact⟨rfl,H.out.1,H.out.2⟩
theorem isState_q (h:Has W w (sTR b s ns::Ps)) (id:Int) :
  Calls Tryz.prog 64 #[.pointer (some ⟨b,0,none⟩),.int .i64 id] w fun e w'=>e=.returned (.bool (decide (0≤id∧id<s)))∧Has W w' (sTR b s ns::Ps)∧Fr [] w w':=by
 have HL:=Lib.hid (fun w1 (hf:Fr [] w w1)=>Level_has (h.step hf) id)
 have he:((lvl s (levs s ns) id) == 0)=decide (0≤id∧id<s):=by
  have hg:=has_good h
  by_cases hk:Kn s ns id
  ·rcases hk.cases with ⟨h0,h1⟩|⟨i,k,rfl,hi⟩
   ·rw [decide_eq_true ⟨h0,h1⟩]
    unfold lvl
    rw [if_neg (by omega),if_pos h1];rfl
   ·have h2:=good_lvl hg hi
    rw [decide_eq_false (by omega)]
    rw [h2.1]
    simp;omega
  ·have h2:lvl s (levs s ns) id<0:=by
    have h3:=(kn_lvl hg id).1
    exact Int.not_le.1 fun h4=>hk (h3 h4)
   rw [decide_eq_false (by unfold Kn at hk;omega)]
   simp;omega
 rw [← he]
 clear h he
 obtain⟨l,hl⟩:∃ l,lvl s (levs s ns) id=l:=⟨_,rfl⟩
 rw [hl] at HL ⊢
 clear hl
 go_enter Tryz.func64,Tryz.ntmps64
 go_wp2_with fail
 refine (HL.out _ (by (repeat first|exact Fr.refl _ _|assumption|apply Fr.n|apply Fr.d|apply Fr.a|refine Fr.s ?_ (.inr (by simp;try omega)) _))).mono ?_
 rintro e w1 ⟨rfl,h,hf⟩
 have H:=Lib.hid (And.intro h hf)
 clear h hf
 go_wp2
 go_ret
 exact⟨rfl,H.out.1,H.out.2⟩
end
end Go.Proofs.YtdanghnadbkhfaaGreat
end
section
namespace Go.Proofs.YtdanghnadbkhfaaGreat
open Go Go.RowKit Rg Mp Hp Qs Ev
theorem level_nat {s:Int} {ns:List K4} (hg:GoodQ s ns) {id:Int} (h:0≤lvl s (levs s ns) id):∃ n:Nat,lvl s (levs s ns) id=n∧n≤256∧Is s ns n id (tr s ns id):=by
 refine⟨(lvl s (levs s ns) id).toNat,by omega,?_,Is.of_lvl hg (by omega)⟩
 have hk:=(kn_lvl hg id).1 h
 rcases hk.cases with ⟨h0,h1⟩|⟨i,k,rfl,hi⟩
 ·have:lvl s (levs s ns) id=0:=by unfold lvl;rw [if_neg (by omega),if_pos h1]
  omega
 ·have:=good_lvl hg hi;omega
set_option maxHeartbeats 4000000 in
theorem Centre_q {W w:World} {b:Nat} {s:Int} {ns:List K4} {Ps:List Res} (h:Has W w (sTR b s ns::Ps)) (id:Int) :
  Calls Tryz.prog 27 #[.pointer (some ⟨b,0,none⟩),.int .i64 id] w fun e w' =>
   e=.returned (.tuple #[.int .i64 (centreQ s ns id).1.1,.int .i64 (centreQ s ns id).1.2])∧Has W w' (sTR b s (centreQ s ns id).2::Ps):=by
 have hg:=has_good h
 have HN:=Lib.hid (fun w1 Qs (h1:Has W w1 (sTR b s ns::Qs))=>known_q h1 id)
 have HL:=Lib.hid (fun w1 Qs (h1:Has W w1 (sTR b s ns::Qs))=>Level_has h1 id)
 have H:=Lib.hid h
 unfold knownQ at HN
 unfold centreQ
 by_cases h0:lvl s (levs s ns) id<0
 ·simp only [if_pos h0] at HN ⊢
  clear HL h hg
  go_enter Tryz.func27,Tryz.ntmps27
  go_wp2_with fail
  refine (HN.out _ _ H.out).mono ?_
  rintro e w1 ⟨rfl,h,hf⟩
  have H:=Lib.hid h
  clear h hf
  go_wp2
  go_ret2
  exact⟨rfl,H.out⟩
 simp only [if_neg h0] at HN ⊢
 obtain⟨m,hm,hm256,hi⟩:=level_nat hg (id:=id) (by omega)
 rw [hm] at HL h0 ⊢
 by_cases h2:(m:Int)<2
 ·rw [if_pos h2]
  have hd:decide ((m:Int)<2)=true:=by simpa using h2
  clear h hg hi hm h2
  go_enter Tryz.func27,Tryz.ntmps27
  go_wp2_with fail
  refine (HN.out _ _ H.out).mono ?_
  rintro e w1 ⟨rfl,h,hf⟩
  have H:=Lib.hid h
  clear h hf
  go_wp2_with fail
  refine (HL.out _ _ H.out).mono ?_
  rintro e w2 ⟨rfl,h,hf⟩
  have H:=Lib.hid h
  clear h hf
  go_wp2
  go_ret2
  exact⟨rfl,H.out⟩
 rw [if_neg h2]
 have hd:decide ((m:Int)<2)=false:=by simpa using h2
 obtain⟨n,rfl⟩:∃ n,m=n+2:=⟨m - 2,by omega⟩
 obtain⟨_,_,hk⟩:=hi.node hg
 have HK:=Lib.hid (fun w1 Qs (h1:Has W w1 (sTR b s ns::Qs))=>Kids_has h1 hi)
 have HK1:=Lib.hid (fun w1 Qs q (hq:q<4) (h1:Has W w1 (sTR b s ns::Qs))=>Kids_has h1 (hk q hq))
 clear h hg hi hm h2 hk h0
 go_enter Tryz.func27,Tryz.ntmps27
 go_wp2_with fail
 refine (HN.out _ _ H.out).mono ?_
 rintro e w1 ⟨rfl,h,hf⟩
 have H:=Lib.hid h
 clear h hf
 go_wp2_with fail
 refine (HL.out _ _ H.out).mono ?_
 rintro e w2 ⟨rfl,h,hf⟩
 have H:=Lib.hid h
 clear h hf
 go_wp2_with fail
 have h:=(hAL H.out #[.int .i64 0,.int .i64 0,.int .i64 0,.int .i64 0] 81).swap
 refine (HK.out _ _ h).mono ?_
 rintro e w3 ⟨rfl,h,hf⟩
 obtain⟨ib,hib⟩:∃ ib,w2.heap.size=ib:=⟨_,rfl⟩
 rw [hib] at h ⊢
 have H3:=Lib.hid h
 clear h hf hib H
 go_wp2
 go_loopw [31] (fun x wr=>∃ z:Int,x=.int .i64 z∧At5 (fun k=>Has W wr (sTR b s ns::Hp.blk ib (.cells (iv (filled 4 (fun q=>(nodeOf s ns ((nodeOf s ns id).get q)).get (3 - q)) k)).toArray 81 (0,0))::Ps)) z) (fun x _=>4 - (intOf x).toNat)
 case atStart =>
  refine⟨0,rfl,.inl ⟨rfl,?_⟩⟩
  have h0:=H3.out.step (by (repeat first|exact Fr.refl _ _|assumption|apply Fr.n|apply Fr.d|apply Fr.a|refine Fr.s ?_ (.inr (by simp;try omega)) _):Fr [] w3 (w3.alloc (.cells #[.int .i64 (nodeOf s ns id).a,.int .i64 (nodeOf s ns id).b,.int .i64 (nodeOf s ns id).c,.int .i64 (nodeOf s ns id).d] 81)))
  exact h0
 case round =>
  obtain⟨z,rfl,hz⟩:=hrel
  clear H3
  rcases hz with ⟨rfl,h⟩|⟨rfl,h⟩|⟨rfl,h⟩|⟨rfl,h⟩|⟨rfl,h⟩
  ·
   have H:=Lib.hid h
   clear h
   go_wp2_with fail
   refine (HK1.out _ _ 0 (by omega) H.out).mono ?_
   rintro e w5 ⟨rfl,h,hf⟩
   have c0:=filled_cell h.swap (i:=0) (by omega)
   simp only [Nat.lt_irrefl,if_false] at c0
   have cz:=(hCE h.swap).2.1 0
   have cl:=(hCE h.swap).2.2
   have H5:=Lib.hid h
   clear h hf
   go_wp2
   go_roundw
   case rel=>exact⟨1,rfl,(.inr (.inl ⟨rfl,(filled_set_has H5.out.swap (by omega) rfl).swap.step ((Fr.refl [] _).alloc _)⟩))⟩
   case measure=>simp [intOf]
  ·
   have H:=Lib.hid h
   clear h
   go_wp2_with fail
   refine (HK1.out _ _ 1 (by omega) H.out).mono ?_
   rintro e w5 ⟨rfl,h,hf⟩
   have c0:=filled_cell h.swap (i:=1) (by omega)
   simp only [Nat.lt_irrefl,if_false] at c0
   have cz:=(hCE h.swap).2.1 1
   have cl:=(hCE h.swap).2.2
   have H5:=Lib.hid h
   clear h hf
   go_wp2
   go_roundw
   case rel=>exact⟨2,rfl,(.inr (.inr (.inl ⟨rfl,(filled_set_has H5.out.swap (by omega) rfl).swap.step ((Fr.refl [] _).alloc _)⟩)))⟩
   case measure=>simp [intOf]
  ·
   have H:=Lib.hid h
   clear h
   go_wp2_with fail
   refine (HK1.out _ _ 2 (by omega) H.out).mono ?_
   rintro e w5 ⟨rfl,h,hf⟩
   have c0:=filled_cell h.swap (i:=2) (by omega)
   simp only [Nat.lt_irrefl,if_false] at c0
   have cz:=(hCE h.swap).2.1 2
   have cl:=(hCE h.swap).2.2
   have H5:=Lib.hid h
   clear h hf
   go_wp2
   go_roundw
   case rel=>exact⟨3,rfl,(.inr (.inr (.inr (.inl ⟨rfl,(filled_set_has H5.out.swap (by omega) rfl).swap.step ((Fr.refl [] _).alloc _)⟩))))⟩
   case measure=>simp [intOf]
  ·
   have H:=Lib.hid h
   clear h
   go_wp2_with fail
   refine (HK1.out _ _ 3 (by omega) H.out).mono ?_
   rintro e w5 ⟨rfl,h,hf⟩
   have c0:=filled_cell h.swap (i:=3) (by omega)
   simp only [Nat.lt_irrefl,if_false] at c0
   have cz:=(hCE h.swap).2.1 3
   have cl:=(hCE h.swap).2.2
   have H5:=Lib.hid h
   clear h hf
   go_wp2
   go_roundw
   case rel=>exact⟨4,rfl,(.inr (.inr (.inr (.inr ⟨rfl,(filled_set_has H5.out.swap (by omega) rfl).swap.step ((Fr.refl [] _).alloc _)⟩))))⟩
   case measure=>simp [intOf]
  ·have H:=Lib.hid h
   have c0:=filled_cell h.swap (i:=0) (by omega)
   have c1:=filled_cell h.swap (i:=1) (by omega)
   have c2:=filled_cell h.swap (i:=2) (by omega)
   have c3:=filled_cell h.swap (i:=3) (by omega)
   simp only [show (0:Nat)<4 by omega,show (1:Nat)<4 by omega,show (2:Nat)<4 by omega,show (3:Nat)<4 by omega,if_true] at c0 c1 c2 c3
   clear h
   go_wp2_with fail
   refine (Join_has H.out _ _ _ _).mono ?_
   rintro e w9 ⟨rfl,h1⟩
   have HF:=Lib.hid h1
   clear h1
   go_wp2
   go_ret2
   exact⟨rfl,HF.out.swap.drop⟩
def mixL (k:K4) (ids:List Int):List Int:=ids++[k.a,k.b,k.c,k.d].drop ids.length
theorem len2 {α:Type} {l:List α} (h:l.length=2):∃ a b,l=[a,b]:=by
 rcases l with _|⟨a,_|⟨b,_|⟨c,l⟩⟩⟩<;>simp at h
 exact⟨_,_,rfl⟩
theorem len3 {α:Type} {l:List α} (h:l.length=3):∃ a b c,l=[a,b,c]:=by
 rcases l with _|⟨a,_|⟨b,_|⟨c,_|⟨d,l⟩⟩⟩⟩<;>simp at h
 exact⟨_,_,_,rfl⟩
theorem len4 {α:Type} {l:List α} (h:l.length=4):∃ a b c d,l=[a,b,c,d]:=by
 rcases l with _|⟨a,_|⟨b,_|⟨c,_|⟨d,_|⟨e,l⟩⟩⟩⟩⟩<;>simp at h
 exact⟨_,_,_,_,rfl⟩
set_option maxHeartbeats 4000000 in
theorem Expand_q {W w:World} {b:Nat} {s:Int} {ns:List K4} {Ps:List Res} (h:Has W w (sTR b s ns::Ps)) (id:Int) :
  Calls Tryz.prog 29 #[.pointer (some ⟨b,0,none⟩),.int .i64 id] w fun e w' =>
   e=.returned (.tuple #[.int .i64 (expandQ s ns id).1.1,.int .i64 (expandQ s ns id).1.2])∧Has W w' (sTR b s (expandQ s ns id).2::Ps):=by
 have hg:=has_good h
 have HN:=Lib.hid (fun w1 Qs (h1:Has W w1 (sTR b s ns::Qs))=>known_q h1 id)
 have HL:=Lib.hid (fun w1 Qs (h1:Has W w1 (sTR b s ns::Qs))=>Level_has h1 id)
 have H:=Lib.hid h
 unfold knownQ at HN
 unfold expandQ
 by_cases h0:lvl s (levs s ns) id<0
 ·simp only [if_pos h0] at HN ⊢
  clear HL h hg
  go_enter Tryz.func29,Tryz.ntmps29
  go_wp2_with fail
  refine (HN.out _ _ H.out).mono ?_
  rintro e w1 ⟨rfl,h,hf⟩
  have H:=Lib.hid h
  clear h hf
  go_wp2
  go_ret2
  exact⟨rfl,H.out⟩
 simp only [if_neg h0] at HN ⊢
 obtain⟨m,hm,hm256,hi⟩:=level_nat hg (id:=id) (by omega)
 rw [hm] at HL h0 ⊢
 by_cases h1:(m:Int)<1
 ·rw [if_pos (.inl h1)]
  have hd:decide ((m:Int)<1)=true:=by simpa using h1
  clear h hg hi hm h1
  go_enter Tryz.func29,Tryz.ntmps29
  go_wp2_with fail
  refine (HN.out _ _ H.out).mono ?_
  rintro e w1 ⟨rfl,h,hf⟩
  have H:=Lib.hid h
  clear h hf
  go_wp2_with fail
  refine (HL.out _ _ H.out).mono ?_
  rintro e w2 ⟨rfl,h,hf⟩
  have H:=Lib.hid h
  clear h hf
  go_wp2
  go_ret2
  exact⟨rfl,H.out⟩
 have hd:decide ((m:Int)<1)=false:=by simpa using h1
 by_cases h2:256≤(m:Int)
 ·rw [if_pos (.inr h2)]
  have hd2:decide ((m:Int) ≥ 256)=true:=by simpa using h2
  clear h hg hi hm h1 h2
  go_enter Tryz.func29,Tryz.ntmps29
  go_wp2_with fail
  refine (HN.out _ _ H.out).mono ?_
  rintro e w1 ⟨rfl,h,hf⟩
  have H:=Lib.hid h
  clear h hf
  go_wp2_with fail
  refine (HL.out _ _ H.out).mono ?_
  rintro e w2 ⟨rfl,h,hf⟩
  have H:=Lib.hid h
  clear h hf
  go_wp2
  go_ret2
  exact⟨rfl,H.out⟩
 have hd2:decide ((m:Int) ≥ 256)=false:=by simpa using h2
 rw [if_neg (by omega)]
 obtain⟨⟨o,eo⟩,no,hE⟩:∃ (r:Int×Int) (no:List K4),emptyQ s ns ((m:Int) - 1)=(r,no):=⟨_,_,rfl⟩
 have HE:=Lib.hid (fun w1 Qs (h1:Has W w1 (sTR b s ns::Qs))=>Empty_has h1 ((m:Int) - 1))
 rw [hE] at HE ⊢
 simp only at HE ⊢
 by_cases heo:eo=0
 case neg =>
  rw [if_pos heo]
  have hb:(eo != 0)=true:=by simpa using heo
  clear h hg hi hm h1 h2 hE h0
  go_enter Tryz.func29,Tryz.ntmps29
  go_wp2_with fail
  refine (HN.out _ _ H.out).mono ?_
  rintro e w1 ⟨rfl,h,hf⟩
  have H:=Lib.hid h
  clear h hf
  go_wp2_with fail
  refine (HL.out _ _ H.out).mono ?_
  rintro e w2 ⟨rfl,h,hf⟩
  have H:=Lib.hid h
  clear h hf
  go_wp2_with fail
  refine (HE.out _ _ H.out).mono ?_
  rintro e w3 ⟨rfl,h⟩
  have H3:=Lib.hid h
  clear h
  go_wp2
  go_ret2
  exact⟨rfl,H3.out⟩
 subst heo
 rw [if_neg (by simp)]
 have hb:((0:Int) != 0)=false:=rfl
 obtain⟨n,hnm⟩:∃ n,m=n+1:=⟨m - 1,by omega⟩
 have hpre:ns <+: no:=by
  have:=emptyQ_grows (s:=s) (ns:=ns) n
  rw [show ((m:Int) - 1)=((n:Nat):Int) by omega] at hE
  rw [hE] at this
  exact this.1
 rw [hnm] at hi
 have hi':=hi.grow hpre
 have hnode:nodeOf s no id=nodeOf s ns id:=by
  obtain⟨i,k,rfl,hk,_⟩:=hi.kids hg
  obtain⟨xs,rfl⟩:=hpre
  have hlt:=(List.getElem?_eq_some_iff.1 hk).1
  unfold nodeOf
  rw [List.getD_eq_getElem?_getD,List.getD_eq_getElem?_getD,List.getElem?_append_left (by omega)]
 have HK:=Lib.hid (fun w1 Qs (h1:Has W w1 (sTR b s no::Qs))=>Kids_has h1 hi')
 rw [hnode] at HK
 clear h hg hi hm h1 h2 hE h0 hi' hnode hpre hnm
 go_enter Tryz.func29,Tryz.ntmps29
 go_wp2_with fail
 refine (HN.out _ _ H.out).mono ?_
 rintro e w1 ⟨rfl,h,hf⟩
 have H:=Lib.hid h
 clear h hf
 go_wp2_with fail
 refine (HL.out _ _ H.out).mono ?_
 rintro e w2 ⟨rfl,h,hf⟩
 have H:=Lib.hid h
 clear h hf
 go_wp2_with fail
 refine (HE.out _ _ H.out).mono ?_
 rintro e w3 ⟨rfl,h⟩
 have H3:=Lib.hid h
 clear h
 go_wp2_with fail
 refine (HK.out _ _ H3.out).mono ?_
 rintro e w4 ⟨rfl,h,hf⟩
 have h:=(hAL h #[.int .i64 (nodeOf s ns id).a,.int .i64 (nodeOf s ns id).b,.int .i64 (nodeOf s ns id).c,.int .i64 (nodeOf s ns id).d] 81).swap
 obtain⟨ib,hib⟩:∃ ib,w4.heap.size=ib:=⟨_,rfl⟩
 rw [hib] at h
 have H4:=Lib.hid h
 clear h hf H3
 go_wp2
 clear hib
 go_loopw [45] (fun x wr=>∃ z:Int,x=.int .i64 z∧At5 (fun k=>∃ ids ms,kr (fun ms k=>join s ms (cornerK o ((nodeOf s ns id).get k) (3 - k))) k no=(0,ids,ms)∧Has W wr (sTR b s ms::Hp.blk ib (.cells (iv (mixL (nodeOf s ns id) ids)).toArray 81 (0,0))::Ps)) z) (fun x _=>4 - (intOf x).toNat)
 case atStart=>exact⟨0,rfl,.inl ⟨rfl,[],no,rfl,H4.out⟩⟩
 case round =>
  obtain⟨z,rfl,hz⟩:=hrel
  clear H4
  rcases hz with ⟨rfl,hz⟩|⟨rfl,hz⟩|⟨rfl,hz⟩|⟨rfl,hz⟩|⟨rfl,hz⟩
  ·
   obtain⟨ids,ms,hkr,h⟩:=hz
   have hl:=kr_len hkr
   obtain rfl:=List.length_eq_zero_iff.1 hl
   have Hkr:=Lib.hid hkr
   have c0:_=some (Value.int .i64 ((nodeOf s ns id).get 0)):=(hCE h.swap).1 0
   have cz:=(hCE h.swap).2.1 0
   have cl:=(hCE h.swap).2.2
   have H:=Lib.hid h
   clear h hkr hl
   go_wp2_with fail
   refine (Join_has (H.out.step (by (repeat first|exact Fr.refl _ _|assumption|apply Fr.n|apply Fr.d|apply Fr.a|refine Fr.s ?_ (.inr (by simp;try omega)) _))) _ _ _ _).mono ?_
   obtain⟨id5,e5,ms5,hj⟩:∃ id5 e5 ms5,join s ms (cornerK o ((nodeOf s ns id).get 0) (3 - 0))=((id5,e5),ms5):=⟨_,_,_,rfl⟩
   rintro e w5 ⟨rfl,h1⟩
   rw [show (⟨o,o,o,(nodeOf s ns id).get 0⟩:K4)=cornerK o ((nodeOf s ns id).get 0) (3 - 0) from rfl,hj] at h1 ⊢
   clear c0 cz cl
   have c0:_=some (Value.int .i64 ((nodeOf s ns id).get 0)):=(hCE h1.swap).1 0
   have cz:=(hCE h1.swap).2.1 0
   have cl:=(hCE h1.swap).2.2
   by_cases he5:e5=0
   ·subst he5
    have hb5:((0:Int) != 0)=false:=rfl
    have Hkr5:=Lib.hid (kr_ok Hkr.out (show (fun ms k=>join s ms (cornerK o ((nodeOf s ns id).get k) (3 - k))) ms 0=((id5,0),ms5) from hj))
    have H5:=Lib.hid h1
    clear h1 hj
    go_wp2
    go_roundw
    case rel=>exact⟨1,rfl,(.inr (.inl ⟨rfl,_,_,Hkr5.out,(hST H5.out.swap 0 _).swap⟩))⟩
    case measure=>simp [intOf]
   ·have hb5:(e5 != 0)=true:=by simpa using he5
    have HF5:=Lib.hid (fin4_bad (s:=s) (by omega) Hkr.out (show (fun ms k=>join s ms (cornerK o ((nodeOf s ns id).get k) (3 - k))) ms 0=((id5,e5),ms5) from hj) he5)
    have H5:=Lib.hid h1
    clear h1 hj he5
    go_wp2
    go_ret2
    rw [HF5.out]
    exact⟨rfl,(hST H5.out.swap 0 _).drop⟩
  ·
   obtain⟨ids,ms,hkr,h⟩:=hz
   have hl:=kr_len hkr
   obtain⟨i0,rfl⟩:=List.length_eq_one_iff.1 hl
   have Hkr:=Lib.hid hkr
   have c0:_=some (Value.int .i64 ((nodeOf s ns id).get 1)):=(hCE h.swap).1 1
   have cz:=(hCE h.swap).2.1 1
   have cl:=(hCE h.swap).2.2
   have H:=Lib.hid h
   clear h hkr hl
   go_wp2_with fail
   refine (Join_has (H.out.step (by (repeat first|exact Fr.refl _ _|assumption|apply Fr.n|apply Fr.d|apply Fr.a|refine Fr.s ?_ (.inr (by simp;try omega)) _))) _ _ _ _).mono ?_
   obtain⟨id5,e5,ms5,hj⟩:∃ id5 e5 ms5,join s ms (cornerK o ((nodeOf s ns id).get 1) (3 - 1))=((id5,e5),ms5):=⟨_,_,_,rfl⟩
   rintro e w5 ⟨rfl,h1⟩
   rw [show (⟨o,o,(nodeOf s ns id).get 1,o⟩:K4)=cornerK o ((nodeOf s ns id).get 1) (3 - 1) from rfl,hj] at h1 ⊢
   clear c0 cz cl
   have c0:_=some (Value.int .i64 ((nodeOf s ns id).get 1)):=(hCE h1.swap).1 1
   have cz:=(hCE h1.swap).2.1 1
   have cl:=(hCE h1.swap).2.2
   by_cases he5:e5=0
   ·subst he5
    have hb5:((0:Int) != 0)=false:=rfl
    have Hkr5:=Lib.hid (kr_ok Hkr.out (show (fun ms k=>join s ms (cornerK o ((nodeOf s ns id).get k) (3 - k))) ms 1=((id5,0),ms5) from hj))
    have H5:=Lib.hid h1
    clear h1 hj
    go_wp2
    go_roundw
    case rel=>exact⟨2,rfl,(.inr (.inr (.inl ⟨rfl,_,_,Hkr5.out,(hST H5.out.swap 1 _).swap⟩)))⟩
    case measure=>simp [intOf]
   ·have hb5:(e5 != 0)=true:=by simpa using he5
    have HF5:=Lib.hid (fin4_bad (s:=s) (by omega) Hkr.out (show (fun ms k=>join s ms (cornerK o ((nodeOf s ns id).get k) (3 - k))) ms 1=((id5,e5),ms5) from hj) he5)
    have H5:=Lib.hid h1
    clear h1 hj he5
    go_wp2
    go_ret2
    rw [HF5.out]
    exact⟨rfl,(hST H5.out.swap 1 _).drop⟩
  ·
   obtain⟨ids,ms,hkr,h⟩:=hz
   have hl:=kr_len hkr
   obtain⟨i0,i1,rfl⟩:=len2 hl
   have Hkr:=Lib.hid hkr
   have c0:_=some (Value.int .i64 ((nodeOf s ns id).get 2)):=(hCE h.swap).1 2
   have cz:=(hCE h.swap).2.1 2
   have cl:=(hCE h.swap).2.2
   have H:=Lib.hid h
   clear h hkr hl
   go_wp2_with fail
   refine (Join_has (H.out.step (by (repeat first|exact Fr.refl _ _|assumption|apply Fr.n|apply Fr.d|apply Fr.a|refine Fr.s ?_ (.inr (by simp;try omega)) _))) _ _ _ _).mono ?_
   obtain⟨id5,e5,ms5,hj⟩:∃ id5 e5 ms5,join s ms (cornerK o ((nodeOf s ns id).get 2) (3 - 2))=((id5,e5),ms5):=⟨_,_,_,rfl⟩
   rintro e w5 ⟨rfl,h1⟩
   rw [show (⟨o,(nodeOf s ns id).get 2,o,o⟩:K4)=cornerK o ((nodeOf s ns id).get 2) (3 - 2) from rfl,hj] at h1 ⊢
   clear c0 cz cl
   have c0:_=some (Value.int .i64 ((nodeOf s ns id).get 2)):=(hCE h1.swap).1 2
   have cz:=(hCE h1.swap).2.1 2
   have cl:=(hCE h1.swap).2.2
   by_cases he5:e5=0
   ·subst he5
    have hb5:((0:Int) != 0)=false:=rfl
    have Hkr5:=Lib.hid (kr_ok Hkr.out (show (fun ms k=>join s ms (cornerK o ((nodeOf s ns id).get k) (3 - k))) ms 2=((id5,0),ms5) from hj))
    have H5:=Lib.hid h1
    clear h1 hj
    go_wp2
    go_roundw
    case rel=>exact⟨3,rfl,(.inr (.inr (.inr (.inl ⟨rfl,_,_,Hkr5.out,(hST H5.out.swap 2 _).swap⟩))))⟩
    case measure=>simp [intOf]
   ·have hb5:(e5 != 0)=true:=by simpa using he5
    have HF5:=Lib.hid (fin4_bad (s:=s) (by omega) Hkr.out (show (fun ms k=>join s ms (cornerK o ((nodeOf s ns id).get k) (3 - k))) ms 2=((id5,e5),ms5) from hj) he5)
    have H5:=Lib.hid h1
    clear h1 hj he5
    go_wp2
    go_ret2
    rw [HF5.out]
    exact⟨rfl,(hST H5.out.swap 2 _).drop⟩
  ·
   obtain⟨ids,ms,hkr,h⟩:=hz
   have hl:=kr_len hkr
   obtain⟨i0,i1,i2,rfl⟩:=len3 hl
   have Hkr:=Lib.hid hkr
   have c0:_=some (Value.int .i64 ((nodeOf s ns id).get 3)):=(hCE h.swap).1 3
   have cz:=(hCE h.swap).2.1 3
   have cl:=(hCE h.swap).2.2
   have H:=Lib.hid h
   clear h hkr hl
   go_wp2_with fail
   refine (Join_has (H.out.step (by (repeat first|exact Fr.refl _ _|assumption|apply Fr.n|apply Fr.d|apply Fr.a|refine Fr.s ?_ (.inr (by simp;try omega)) _))) _ _ _ _).mono ?_
   obtain⟨id5,e5,ms5,hj⟩:∃ id5 e5 ms5,join s ms (cornerK o ((nodeOf s ns id).get 3) (3 - 3))=((id5,e5),ms5):=⟨_,_,_,rfl⟩
   rintro e w5 ⟨rfl,h1⟩
   rw [show (⟨(nodeOf s ns id).get 3,o,o,o⟩:K4)=cornerK o ((nodeOf s ns id).get 3) (3 - 3) from rfl,hj] at h1 ⊢
   clear c0 cz cl
   have c0:_=some (Value.int .i64 ((nodeOf s ns id).get 3)):=(hCE h1.swap).1 3
   have cz:=(hCE h1.swap).2.1 3
   have cl:=(hCE h1.swap).2.2
   by_cases he5:e5=0
   ·subst he5
    have hb5:((0:Int) != 0)=false:=rfl
    have Hkr5:=Lib.hid (kr_ok Hkr.out (show (fun ms k=>join s ms (cornerK o ((nodeOf s ns id).get k) (3 - k))) ms 3=((id5,0),ms5) from hj))
    have H5:=Lib.hid h1
    clear h1 hj
    go_wp2
    go_roundw
    case rel=>exact⟨4,rfl,(.inr (.inr (.inr (.inr ⟨rfl,_,_,Hkr5.out,(hST H5.out.swap 3 _).swap⟩))))⟩
    case measure=>simp [intOf]
   ·have hb5:(e5 != 0)=true:=by simpa using he5
    have HF5:=Lib.hid (fin4_bad (s:=s) (by omega) Hkr.out (show (fun ms k=>join s ms (cornerK o ((nodeOf s ns id).get k) (3 - k))) ms 3=((id5,e5),ms5) from hj) he5)
    have H5:=Lib.hid h1
    clear h1 hj he5
    go_wp2
    go_ret2
    rw [HF5.out]
    exact⟨rfl,(hST H5.out.swap 3 _).drop⟩
  ·obtain⟨ids,ms,hkr,h⟩:=hz
   obtain⟨i0,i1,i2,i3,rfl⟩:=len4 (kr_len hkr)
   have c0:_=some (Value.int .i64 i0):=(hCE h.swap).1 0
   have c1:_=some (Value.int .i64 i1):=(hCE h.swap).1 1
   have c2:_=some (Value.int .i64 i2):=(hCE h.swap).1 2
   have c3:_=some (Value.int .i64 i3):=(hCE h.swap).1 3
   have cl:=(hCE h.swap).2.2
   have HF:=Lib.hid (fin4_ok (s:=s) hkr)
   have H:=Lib.hid h
   clear h hkr
   go_wp2_with fail
   refine (Join_has H.out _ _ _ _).mono ?_
   rintro e w5 ⟨rfl,h1⟩
   have H5:=Lib.hid h1
   clear h1
   go_wp2
   go_ret2
   rw [HF.out]
   exact⟨rfl,H5.out.swap.drop⟩
end Go.Proofs.YtdanghnadbkhfaaGreat
end
section
namespace Go.Proofs.YtdanghnadbkhfaaGreat
open Go Go.RowKit Rg Hp Bn
set_option maxHeartbeats 2000000 in
theorem Right_calls {w:World} {neg:Bool} {ds:List Nat} {v:Value} (hv:Reads w v ds.length 1 (u32s ds)) (hl:ds.length≤9223372036854775807) :
  Calls Tryz.prog 84 #[.agg #[.bool neg,v]] w fun e w'=>e=.returned (.bool (RightB neg ds))∧Fr [] w w':=by
 obtain⟨_,a,c,rfl,hav⟩:=hv
 have Hav:=Lib.hid hav
 clear hav
 by_cases h0:ds.length=0
 ·have hd:decide ((ds.length:Int)=0)=true:=by simp [h0]
  have hR:RightB neg ds=!neg:=by unfold RightB;rw [if_pos h0]
  have HR:=Lib.hid hR
  obtain rfl:=List.eq_nil_of_length_eq_zero h0
  clear h0 hR hd
  go_enter Tryz.func84,Tryz.ntmps84
  go_wp2
  go_ret
  exact⟨by rw [HR.out];rfl,by (repeat first|exact Fr.refl _ _|assumption|apply Fr.n|apply Fr.d|apply Fr.a|refine Fr.s ?_ (.inr (by simp;try omega)) _)⟩
 ·obtain⟨g,off,rfl,hg,hc⟩:=Hav.out (by omega)
  have hcz:=hc (ds.length - 1) _ (u32s_get (by omega))
  have hd:((ds.length:Int) == 0)=false:=by rw [beq_eq_false_iff_ne];omega
  have hp1:(1:Int)≤ds.length:=by omega
  have hp2:(ds.length:Int) - 1<ds.length:=by omega
  by_cases h64:ds.length≤64
  ·have hd2:decide ((ds.length:Int)≤64)=true:=by simp;omega
   have hR:RightB neg ds=(((ds.getD (ds.length - 1) 0:Nat):Int) != 0):=by
    unfold RightB;rw [if_neg h0,Bool.eq_iff_iff];simp;omega
   have HR:=Lib.hid hR
   have H0:=Lib.hid h0
   generalize ds.getD (ds.length - 1) 0=y at *
   clear h0 hR hc
   go_enter Tryz.func84,Tryz.ntmps84
   go_wp2
   go_ret
   exact⟨by rw [HR.out];rfl,by (repeat first|exact Fr.refl _ _|assumption|apply Fr.n|apply Fr.d|apply Fr.a|refine Fr.s ?_ (.inr (by simp;try omega)) _)⟩
  ·have hd2:decide ((ds.length:Int)≤64)=false:=by simp;omega
   have hR:RightB neg ds=false:=by
    unfold RightB;rw [if_neg h0,Bool.eq_iff_iff];simp;omega
   have HR:=Lib.hid hR
   have H0:=Lib.hid h0
   clear h0 hcz hR hc
   go_enter Tryz.func84,Tryz.ntmps84
   go_wp2
   go_ret
   exact⟨by rw [HR.out];rfl,by (repeat first|exact Fr.refl _ _|assumption|apply Fr.n|apply Fr.d|apply Fr.a|refine Fr.s ?_ (.inr (by simp;try omega)) _)⟩
theorem digit_calls {w:World} {ds:List Nat} {v:Value} (hv:Reads w v ds.length 1 (u32s ds)) (hl:ds.length≤1000000) (i:Nat) :
  Calls Tryz.prog 86 #[v,.int .i64 i] w fun e w'=>e=.returned (.int .u32 (ds.getD i 0:Nat))∧w=w':=by
 obtain⟨_,a,c,rfl,hav⟩:=hv
 by_cases h:i<ds.length
 ·obtain⟨g,off,rfl,hg,hc⟩:=hav (by omega)
  have hcz:=hc i _ (u32s_get h)
  clear hc hav
  generalize ds.getD i 0=y at *
  go_enter Tryz.func86,Tryz.ntmps86
  go_wp2
  go_ret
  exact⟨rfl,rfl⟩
 ·have h0:ds.getD i 0=0:=by rw [List.getD_eq_getElem?_getD,List.getElem?_eq_none (by omega)];rfl
  rw [h0]
  clear h0 hav
  go_enter Tryz.func86,Tryz.ntmps86
  go_wp2
  go_ret
  exact⟨rfl,rfl⟩
set_option maxHeartbeats 2000000 in
theorem trimmed_calls {w:World} {ds:List Nat} {a:Option Addr} {c:Nat} (hv:Reads w (.slice a ds.length c) ds.length 1 (u32s ds)) (hD:Dig 4294967296 ds) (hl:ds.length≤1000000) (hc:ds.length≤c) :
  Calls Tryz.prog 114 #[.slice a ds.length c] w fun e w'=>e=.returned (.slice a (trimL 4294967296 ds).length c)∧w=w':=by
 obtain⟨_,a',c',he,hav⟩:=hv
 cases he
 have Hav:=Lib.hid hav
 have HD:=Lib.hid hD
 clear hav hD
 go_enter Tryz.func114,Tryz.ntmps114
 go_wp2
 go_loop [0] (fun x=>∃ k:Nat,k≤ds.length∧x=.slice a k c∧trimL 4294967296 (ds.take k)=trimL 4294967296 ds) (fun x=>match x with|.slice _ k _=>k|_=>0)
 case atStart=>exact⟨_,Nat.le_refl _,rfl,by rw [List.take_length]⟩
 case round =>
  obtain⟨k,hk,rfl,hT⟩:=hrel
  have HT:=Lib.hid hT
  clear hT
  cases k with
  | zero =>
   go_wp2
   go_ret
   have hT:=HT.out
   rw [List.take_zero] at hT
   exact⟨by rw [← hT,trimL_nil];rfl,rfl⟩
  | succ k =>
   obtain⟨g,off,rfl,hg,hc⟩:=Hav.out (by omega)
   have hcz:=hc k _ (u32s_get (by omega))
   have htk:ds.take (k+1)=ds.take k++[ds.getD k 0]:=by
    rw [List.take_add_one,List.getElem?_eq_getElem (by omega),List.getD_eq_getElem?_getD,List.getElem?_eq_getElem (by omega)];rfl
   have Htk:=Lib.hid htk
   clear hc htk
   obtain⟨y,hy⟩:∃ y,y=ds.getD k 0:=⟨_,rfl⟩
   rw [← hy] at hcz Htk
   have Hy:=Lib.hid hy
   clear hy
   by_cases hz:y=0
   ·subst hz
    go_wp2
    go_round
    case rel=>exact⟨k,by omega,rfl,by have:=HT.out;rwa [Htk.out,trimL_zero] at this⟩
    case measure=>simp
   ·have hb:((y:Int) == 0)=false:=by rw [beq_eq_false_iff_ne];omega
    have Hz:=Lib.hid hz
    clear hz
    go_wp2
    go_ret
    refine⟨?_,rfl⟩
    have hT:=HT.out
    have hD:=HD.out.take (k+1)
    rw [Htk.out] at hT hD
    rw [trimL_canon (by omega) hD (canon_snoc Hz.out)] at hT
    rw [← hT,List.length_append,List.length_take,Nat.min_eq_left (by omega)]
    rfl
set_option maxHeartbeats 2000000 in
set_option maxRecDepth 100000 in
theorem made_calls {w:World} {neg:Bool} {ds:List Nat} {a:Option Addr} {c:Nat} (hv:Reads w (.slice a ds.length c) ds.length 1 (u32s ds)) (hD:Dig 4294967296 ds) (hl:ds.length≤1000000) (hc:ds.length≤c) {A:Nat→Prop} (hlo:∀ g,(Value.slice a ds.length c).ownBlock=some g→A g) :
  Calls Tryz.prog 94 #[.bool neg,.slice a ds.length c] w (BigPost w A (mkN neg (val 4294967296 ds))):=by
 have Hlo:=Lib.hid hlo
 clear hlo
 have hT:=fun w1 (hf:Fr [] w w1)=>trimmed_calls (hv.fr hf) hD hl hc
 obtain⟨k,hk,hkt⟩:=trimL_prefix (by omega:2≤4294967296) ds.length rfl hD
 have hkl:(trimL 4294967296 ds).length=k:=by rw [hkt,List.length_take,Nat.min_eq_left hk]
 rw [hkl] at hT
 have hr:=Reads.take hv hk
 have hu:(u32s ds).take k=u32s (dg 4294967296 (val 4294967296 ds)):=by rw [u32s,u32s,← List.map_take,← hkt];rfl
 rw [hu] at hr
 have hle:=dg_length_le (B:=4294967296) (by omega) 64 (n:=val 4294967296 ds)
 have h0:=dg_eq_nil (B:=4294967296) (by omega) (n:=val 4294967296 ds)
 rw [← List.length_eq_zero_iff] at h0
 have hkl':(dg 4294967296 (val 4294967296 ds)).length=k:=hkl
 rw [hkl'] at hle h0
 have HT:=Lib.hid hT
 have Hr:=Lib.hid hr
 have Hkl:=Lib.hid hkl'
 clear hT hr hu hkt hkl hkl' hv hD
 have hmk:mkN neg (val 4294967296 ds)=if k=0 then (false,[],0) else if k≤64 then (neg,dg 4294967296 (val 4294967296 ds),0) else (false,[],6):=by
  unfold mkN
  by_cases e:val 4294967296 ds=0
  ·rw [if_pos e,if_pos (h0.2 e)]
  ·rw [if_neg e,if_neg (fun h=>e (h0.1 h))]
   by_cases e2:val 4294967296 ds<4294967296 ^ 64
   ·rw [if_pos e2,if_pos (hle.2 e2)]
   ·rw [if_neg e2,if_neg (fun h=>e2 (hle.1 h))]
 generalize mkN neg (val 4294967296 ds)=r at *
 generalize dg 4294967296 (val 4294967296 ds)=T at *
 clear hle h0
 by_cases hk0:k=0
 ·rw [if_pos hk0] at hmk
  have Hmk:=Lib.hid hmk
  clear hmk
  subst hk0
  go_enter Tryz.func94,Tryz.ntmps94
  go_wp2_with fail
  refine (HT.out _ (by (repeat first|exact Fr.refl _ _|assumption|apply Fr.n|apply Fr.d|apply Fr.a|refine Fr.s ?_ (.inr (by simp;try omega)) _))).mono ?_
  rintro e w1 ⟨rfl,rfl⟩
  go_wp2
  (try simp only [Exit.inBlock,Exit.then])
  have hr:=Hmk.out
  subst hr
  refine bodyPost_ret (bRS rfl (b:=w.heap.size) (x:=.bool false) (y:=.slice none 0 0) rfl (by (repeat first|rw [if_pos (by omega)]|rw [if_neg (by omega)]|rw [hDR]|rw [hDN]|rw [hAz]|rw [hSz]|rw [hAC]|rw [hSC]|rw [oMS]|rw [uPC]|rw [lSZ]|rw [lSS]|rfl)) rfl) rfl ⟨_,_,⟨Nat.le_refl _,fun g hg=>(by cases hg)⟩,rfl,reads_nil _,by (repeat first|exact Fr.refl _ _|assumption|apply Fr.n|apply Fr.d|apply Fr.a|refine Fr.s ?_ (.inr (by simp;try omega)) _)⟩
 by_cases hk64:k≤64
 ·rw [if_neg hk0,if_pos hk64] at hmk
  have Hmk:=Lib.hid hmk
  clear hmk
  have hd:decide ((64:Int)<k)=false:=by simp;omega
  have hd0:((k:Int) == 0)=false:=by rw [beq_eq_false_iff_ne];omega
  have Hk:=Lib.hid (And.intro hk0 hk64)
  clear hk0 hk64
  go_enter Tryz.func94,Tryz.ntmps94
  go_wp2_with fail
  refine (HT.out _ (by (repeat first|exact Fr.refl _ _|assumption|apply Fr.n|apply Fr.d|apply Fr.a|refine Fr.s ?_ (.inr (by simp;try omega)) _))).mono ?_
  rintro e w1 ⟨rfl,rfl⟩
  go_wp2
  (try simp only [Exit.inBlock,Exit.then])
  have hr:=Hmk.out
  subst hr
  have hTl:=Hkl.out
  subst hTl
  exact bodyPost_ret (bRS rfl (b:=w.heap.size) (x:=.bool neg) (y:=.slice a T.length c) rfl (by (repeat first|rw [if_pos (by omega)]|rw [if_neg (by omega)]|rw [hDR]|rw [hDN]|rw [hAz]|rw [hSz]|rw [hAC]|rw [hSC]|rw [oMS]|rw [uPC]|rw [lSZ]|rw [lSS]|rfl)) rfl) rfl ⟨_,_,⟨(show T.length≤c by omega),fun g hg=>Hlo.out g (own_len a _ _ c c▸hg)⟩,rfl,Hr.out.fr (by (repeat first|exact Fr.refl _ _|assumption|apply Fr.n|apply Fr.d|apply Fr.a|refine Fr.s ?_ (.inr (by simp;try omega)) _)),by (repeat first|exact Fr.refl _ _|assumption|apply Fr.n|apply Fr.d|apply Fr.a|refine Fr.s ?_ (.inr (by simp;try omega)) _)⟩
 ·rw [if_neg hk0,if_neg hk64] at hmk
  have Hmk:=Lib.hid hmk
  clear hmk
  have hd:decide ((64:Int)<k)=true:=by simp;omega
  have Hk:=Lib.hid (And.intro hk0 hk64)
  clear hk0 hk64
  go_enter Tryz.func94,Tryz.ntmps94
  go_wp2_with fail
  refine (HT.out _ (by (repeat first|exact Fr.refl _ _|assumption|apply Fr.n|apply Fr.d|apply Fr.a|refine Fr.s ?_ (.inr (by simp;try omega)) _))).mono ?_
  rintro e w1 ⟨rfl,rfl⟩
  go_wp2
  (try simp only [Exit.inBlock,Exit.then])
  have hr:=Hmk.out
  subst hr
  exact bodyPost_ret (bRS rfl (b:=w.heap.size) (x:=.bool false) (y:=.slice none 0 0) rfl (by (repeat first|rw [if_pos (by omega)]|rw [if_neg (by omega)]|rw [hDR]|rw [hDN]|rw [hAz]|rw [hSz]|rw [hAC]|rw [hSC]|rw [oMS]|rw [uPC]|rw [lSZ]|rw [lSS]|rfl)) rfl) rfl ⟨_,_,⟨Nat.le_refl _,fun g hg=>(by cases hg)⟩,rfl,reads_nil _,by (repeat first|exact Fr.refl _ _|assumption|apply Fr.n|apply Fr.d|apply Fr.a|refine Fr.s ?_ (.inr (by simp;try omega)) _)⟩
end Go.Proofs.YtdanghnadbkhfaaGreat
end
