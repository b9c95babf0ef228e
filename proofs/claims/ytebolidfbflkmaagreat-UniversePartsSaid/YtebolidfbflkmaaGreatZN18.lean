/- Own texts of this claim, part 19: no condition. -/
import Derived.Test.YtebolidfbflkmaaGreatRows
import Derived.Test.YtebolidfbflkmaaGreatZN17
import Derived.Test.YtebolidfbflkmaaGreatZN13
import Derived.Test.YtebolidfbflkmaaGreatZN15
import Derived.Test.YtebolidfbflkmaaGreatZN12
import Derived.Test.YtebolidfbflkmaaGreatZN11
set_option linter.unusedVariables false
set_option linter.unusedSimpArgs false
section
namespace Go.Proofs.Uni
open Go Qs Ev Pt YtebolidfbflkmaaGreat
def spotU (x y:Int) (c:PC):Spot:=⟨(c.x - x).toNat,(c.y - y).toNat,c.st⟩
def inSq (x y:Int) (L:Nat) (c:PC):Prop:=(x≤c.x∧c.x - x<p2 L)∧(y≤c.y∧c.y - y<p2 L)
theorem inSq_iff {x y:Int} {L:Nat} {c:PC}:inSq x y L c↔(x≤c.x∧c.x - x<p2 L)∧(y≤c.y∧c.y - y<p2 L):=Iff.rfl
theorem cell_mem:∀ {n:Nat} {t:Tr} {x0 y0:Nat} {c:Spot},Full n t→c∈cellsT n t x0 y0→x0≤c.x∧c.x<x0+2 ^ n∧y0≤c.y∧c.y<y0+2 ^ n∧cell n t ((c.x:Int) - x0) ((c.y:Int) - y0)=c.st
 | 0,.leaf v,x0,y0,c,hf,h=>by
  unfold cellsT at h;split at h;·cases h
  ·rw [List.mem_singleton] at h;subst h;exact⟨Nat.le_refl _,i_,Nat.le_refl _,i_,rfl⟩
 | 0,.node _ _ _ _,x0,y0,c,hf,h=>hf.elim
 | n+1,.leaf _,x0,y0,c,hf,h=>hf.elim
 | n+1,.node a b d e,x0,y0,c,⟨ha,hb,hd,he⟩,h=>by
  have hp:2 ^ (n+1)=2 ^ n+2 ^ n:=by rw [Nat.pow_succ];omega
  have hq:p2 n=((2 ^ n:Nat):Int):=rfl;rw [hp];unfold cellsT at h;simp only [List.mem_append] at h;show _∧_∧_∧_∧(if (c.y:Int) - y0<p2 n then (if (c.x:Int) - x0<p2 n then cell n a _ _ else cell n b _ _) else (if (c.x:Int) - x0<p2 n then cell n d _ _ else cell n e _ _))=c.st;rw [hq];generalize hP:2 ^ n=P at *
  rcases h with h|h|h|h
  ·have:=cell_mem ha h;rw [hP] at this;refine⟨o_,o_,o_,o_,?_⟩;rw [if_pos o_,if_pos o_];exact this.2.2.2.2
  ·have:=cell_mem hb h;rw [hP] at this;refine⟨o_,o_,o_,o_,?_⟩;rw [if_pos o_,if_neg o_];have e1:=this.2.2.2.2;rw [show (c.x:Int) - ((x0+P:Nat):Int)=(c.x:Int) - x0 - (P:Int) by omega] at e1;exact e1
  ·have:=cell_mem hd h;rw [hP] at this;refine⟨o_,o_,o_,o_,?_⟩;rw [if_neg o_,if_pos o_];have e1:=this.2.2.2.2;rw [show (c.y:Int) - ((y0+P:Nat):Int)=(c.y:Int) - y0 - (P:Int) by omega] at e1;exact e1
  ·have:=cell_mem he h;rw [hP] at this;refine⟨o_,o_,o_,o_,?_⟩;rw [if_neg o_,if_neg o_];have e1:=this.2.2.2.2;rw [show (c.y:Int) - ((y0+P:Nat):Int)=(c.y:Int) - y0 - (P:Int) by omega,show (c.x:Int) - ((x0+P:Nat):Int)=(c.x:Int) - x0 - (P:Int) by omega] at e1;exact e1
theorem cell_in:∀ {n:Nat} {t:Tr} {x0 y0 i j:Nat},Full n t→i<2 ^ n→j<2 ^ n→cell n t (i:Int) (j:Int)≠0→(⟨x0+i,y0+j,cell n t (i:Int) (j:Int)⟩:Spot)∈cellsT n t x0 y0
 | 0,.leaf v,x0,y0,i,j,hf,hi,hj,h=>by
  have hi0:i=0:=by simpa using hi
  have hj0:j=0:=by simpa using hj
  subst hi0 hj0;have hv:v≠0:=h;unfold cellsT;rw [if_neg hv];exact List.mem_singleton.2 rfl
 | 0,.node _ _ _ _,x0,y0,i,j,hf,hi,hj,h=>hf.elim
 | n+1,.leaf _,x0,y0,i,j,hf,hi,hj,h=>hf.elim
 | n+1,.node a b d e,x0,y0,i,j,⟨ha,hb,hd,he⟩,hi,hj,h=>by
  have hp:2 ^ (n+1)=2 ^ n+2 ^ n:=by rw [Nat.pow_succ];omega
  have hq:p2 n=((2 ^ n:Nat):Int):=rfl;rw [hp] at hi hj;have hc:cell (n+1) (.node a b d e) (i:Int) (j:Int)=if (j:Int)<p2 n then (if (i:Int)<p2 n then cell n a i j else cell n b ((i:Int) - p2 n) j) else (if (i:Int)<p2 n then cell n d i ((j:Int) - p2 n) else cell n e ((i:Int) - p2 n) ((j:Int) - p2 n)):=rfl
  rw [hc] at h ⊢;rw [hq] at h ⊢;unfold cellsT;simp only [List.mem_append];by_cases h1:j<2 ^ n;·
   rw [if_pos o_] at h ⊢;by_cases h2:i<2 ^ n;·
    rw [if_pos o_] at h ⊢;exact .inl (cell_in ha h2 h1 h)
   ·rw [if_neg o_] at h ⊢;obtain⟨u,rfl⟩:∃ u,i=2 ^ n+u:=⟨i - 2 ^ n,o_⟩;rw [show ((2 ^ n+u:Nat):Int) - ((2 ^ n:Nat):Int)=(u:Int) by omega] at h ⊢;have:=cell_in (x0:=x0+2 ^ n) (y0:=y0) hb o_ h1 h;rw [Nat.add_assoc] at this;exact .inr (.inl this)
  ·rw [if_neg o_] at h ⊢;obtain⟨v,rfl⟩:∃ v,j=2 ^ n+v:=⟨j - 2 ^ n,o_⟩;rw [show ((2 ^ n+v:Nat):Int) - ((2 ^ n:Nat):Int)=(v:Int) by omega] at h ⊢;by_cases h2:i<2 ^ n;·
    rw [if_pos o_] at h ⊢;have:=cell_in (x0:=x0) (y0:=y0+2 ^ n) hd h2 o_ h;rw [Nat.add_assoc] at this;exact .inr (.inr (.inl this))
   ·rw [if_neg o_] at h ⊢;obtain⟨u,rfl⟩:∃ u,i=2 ^ n+u:=⟨i - 2 ^ n,o_⟩;rw [show ((2 ^ n+u:Nat):Int) - ((2 ^ n:Nat):Int)=(u:Int) by omega] at h ⊢;have:=cell_in (x0:=x0+2 ^ n) (y0:=y0+2 ^ n) he o_ o_ h;rw [Nat.add_assoc,Nat.add_assoc] at this;exact .inr (.inr (.inr this))
theorem spots_ok {s:Int} {p:List PC} (hr:rightP p=true) {x y:Int} {L:Nat} (hin:∀ c∈p,inSq x y L c) (hs:∀ c∈p,c.st<s):OkS s L (p.map (spotU x y)):=by
 have hp:=right_parts hr;refine⟨fun c hc=>?_,fun c hc=>?_,?_⟩;·
  obtain⟨d,hd,rfl⟩:=List.mem_map.1 hc;have:=inSq_iff.1 (hin d hd);unfold p2 at this;unfold spotU;simp only;omega
 ·obtain⟨d,hd,rfl⟩:=List.mem_map.1 hc;have h1:=hp.2.1 d hd;simp only [cellB,Bool.and_eq_true,decide_eq_true_eq] at h1;have:=hs d hd;unfold spotU;simp only;omega
 ·rw [List.pairwise_map];refine (List.Pairwise.and_mem.1 (strict_pair hp.2.2)).imp fun {a b} h=>?_;obtain⟨ha,hb,hab⟩:=h;have h1:=inSq_iff.1 (hin a ha);have h2:=inSq_iff.1 (hin b hb);simp only [pBef,decide_eq_true_eq] at hab;unfold spotU;simp only;omega
theorem tree_fld {s:Int} {p:List PC} (hr:rightP p=true) {x y:Int} {L:Nat} (hin:∀ c∈p,inSq x y L c) (hs:∀ c∈p,c.st<s):treeOf L (p.map (spotU x y))=mk L (fldP p) x y:=by
 have hok:=spots_ok hr hin hs;have hfull:=treeOf_full L (p.map (spotU x y));have hperm:=cells_treeOf (X:=0) (Y:=0) hok;have hmov:(p.map (spotU x y)).map (movS 0 0)=p.map (spotU x y):=by rw [List.map_map];refine List.map_congr_left fun c _=>?_;simp [movS]
 rw [hmov] at hperm;generalize hT:treeOf L (p.map (spotU x y))=T at *
 rw [← mk_cell L hfull];refine mk_congr L fun i j h1 h2 h3 h4=>?_;rw [Int.zero_add,Int.zero_add];obtain⟨u,rfl⟩:∃ u:Nat,i=u:=⟨i.toNat,o_⟩;obtain⟨v,rfl⟩:∃ v:Nat,j=v:=⟨j.toNat,o_⟩;unfold p2 at h2 h4;by_cases h0:cell L T u v=0;·
  rw [h0];refine Classical.byContradiction fun hne=>?_;obtain⟨c,hc,hx,hy,he⟩:=fld_some (fun e=>hne e.symm:fldP p (x+u) (y+v)≠0);have hm:spotU x y c∈cellsT L T 0 0:=hperm.symm.subset (List.mem_map_of_mem hc);have:=(cell_mem hfull hm).2.2.2.2;unfold spotU at this;simp only at this;rw [show (((c.x - x).toNat:Nat):Int) - ((0:Nat):Int)=(u:Int) by omega,show (((c.y - y).toNat:Nat):Int) - ((0:Nat):Int)=(v:Int) by omega,h0] at this;have hst:=(right_parts hr).2.1 c hc;simp only [cellB,Bool.and_eq_true,decide_eq_true_eq] at hst;omega
 ·have hm:=cell_in (x0:=0) (y0:=0) hfull (show u<2 ^ L by omega) (show v<2 ^ L by omega) h0;obtain⟨c,hc,he⟩:=List.mem_map.1 (hperm.subset hm);have hci:=inSq_iff.1 (hin c hc);unfold spotU at he;simp only [Spot.mk.injEq] at he;have e1:x+(u:Int)=c.x:=o_
  have e2:y+(v:Int)=c.y:=o_
  rw [e1,e2,fld_mem (right_parts hr).2.2 hc];exact he.2.2.symm
theorem pop_fld {s:Int} {p:List PC} (hr:rightP p=true) {x y:Int} {L:Nat} (hin:∀ c∈p,inSq x y L c) (hs:∀ c∈p,c.st<s):popT (mk L (fldP p) x y)=p.length:=by have h:=pop_treeOf (spots_ok hr hin hs);rw [tree_fld hr hin hs,List.length_map] at h;exact h
def movF2 (F:Fld) (X Y:Int):Fld:=fun x y=>F (x - X) (y - Y)
theorem mk_mov (n:Nat) (F:Fld) (X Y x y:Int):mk n (movF2 F X Y) x y=mk n F (x - X) (y - Y):=mk_congr n fun i j _ _ _ _=>by show F (x+i - X) (y+j - Y)=_;congr 1<;>omega
theorem gen_mov (r:Rule) (F:Fld) (X Y:Int):gen r (movF2 F X Y)=movF2 (gen r F) X Y:=by funext x y;show down r _=down r _;congr 1;refine List.map_congr_left fun p _=>?_;show F (x+p.1 - X) (y+p.2 - Y)=F (x - X+p.1) (y - Y+p.2);congr 1<;>omega
theorem it_mov (r:Rule) (F:Fld) (X Y:Int):∀ n,it (gen r) n (movF2 F X Y)=movF2 (it (gen r) n F) X Y
 | 0=>rfl
 | n+1=>by show gen r _=movF2 (gen r _) X Y;rw [it_mov r F X Y n,gen_mov]
theorem hold_mov {F:Fld} {a b:Int} {w h:Nat} (hF:Hold ⟨a,b,w,h⟩ F) (X Y:Int):Hold ⟨a+X,b+Y,w,h⟩ (movF2 F X Y):=fun x y hn=>hF _ _ fun hc=>hn (by simp only at hc ⊢;omega)
def updF (F:Fld) (x y st:Int):Fld:=fun i j=>if i=x∧j=y then st else F i j
theorem mod_one (x n:Nat) (h:x<2 ^ (n+1)):(x / 2 ^ n % 2=0∧x % 2 ^ n=x)∨(x / 2 ^ n % 2=1∧x=2 ^ n+x % 2 ^ n):=by
 have h1:=mod_step x n;rw [Nat.mod_eq_of_lt h] at h1;have:x / 2 ^ n % 2=0∨x / 2 ^ n % 2=1:=o_
 rcases this with e|e
 ·rw [e,Nat.mul_zero,Nat.add_zero] at h1;exact .inl ⟨e,h1.symm⟩
 ·rw [e,Nat.mul_one] at h1;exact .inr ⟨e,o_⟩
theorem qd_low (n m x y:Nat) (h:m<n):qd m (x % 2 ^ n) (y % 2 ^ n)=qd m x y:=by
 have key:∀ x,x % 2 ^ n / 2 ^ m % 2=x / 2 ^ m % 2:=fun x=>by obtain⟨d,rfl⟩:∃ d,n=m+1+d:=⟨n - m - 1,o_⟩;rw [Nat.pow_add,Nat.pow_succ,Nat.mul_assoc,Nat.mod_mul_right_div_self,Nat.mod_mul_right_mod]
 unfold qd;rw [key,key]
theorem setT_low:∀ (n m:Nat) (t:Tr) (x y:Nat) (st:Int),n≤m→setT n t (x % 2 ^ m) (y % 2 ^ m) st=setT n t x y st
 | 0,m,t,x,y,st,h=>by cases t<;>rfl
 | n+1,m,.leaf v,x,y,st,h=>rfl
 | n+1,m,.node a b c d,x,y,st,h=>by simp only [setT];rw [qd_low m n x y o_,setT_low n m a x y st o_,setT_low n m b x y st o_,setT_low n m c x y st o_,setT_low n m d x y st o_]
theorem lookT_low:∀ (n m:Nat) (t:Tr) (x y:Nat),n≤m→lookT n t (x % 2 ^ m) (y % 2 ^ m)=lookT n t x y
 | 0,m,t,x,y,h=>by cases t<;>rfl
 | n+1,m,t,x,y,h=>by simp only [lookT];rw [qd_low m n x y o_,lookT_low n m _ x y o_]
theorem mk_upd_else (n:Nat) (F:Fld) (x y i j st:Int) (h:¬ (x≤i∧i<x+p2 n∧y≤j∧j<y+p2 n)):mk n (updF F i j st) x y=mk n F x y:=mk_congr n fun u v a b c d=>by show (if x+u=i∧y+v=j then st else _)=_;rw [if_neg];omega
theorem setT_mk:∀ (n:Nat) (F:Fld) (X Y:Int) (x y:Nat) (st:Int),x<2 ^ n→y<2 ^ n→setT n (mk n F X Y) x y st=mk n (updF F (X+x) (Y+y) st) X Y
 | 0,F,X,Y,x,y,st,hx,hy=>by
  obtain rfl:x=0:=o_
  obtain rfl:y=0:=o_
  show Tr.leaf st=Tr.leaf (if X=X+0∧Y=Y+0 then st else _);rw [if_pos ⟨o_,o_⟩]
 | n+1,F,X,Y,x,y,st,hx,hy=>by
  have e2:p2 n=((2 ^ n:Nat):Int):=rfl;have mx:=Nat.mod_lt x (Nat.pow_pos (n:=n) (show 0<2 by omega));have my:=Nat.mod_lt y (Nat.pow_pos (n:=n) (show 0<2 by omega));have ih:=fun A B=>setT_mk n F A B (x % 2 ^ n) (y % 2 ^ n) st mx my;simp only [setT_low n n _ x y st (Nat.le_refl n)] at ih;simp only [mk,setT];rcases mod_one x n hx with ⟨h1,h2⟩|⟨h1,h2⟩<;>rcases mod_one y n hy with ⟨h3,h4⟩|⟨h3,h4⟩
  ·rw [if_pos (by unfold qd;omega),ih,h2,h4,mk_upd_else n F (X+p2 n) Y _ _ _ o_,mk_upd_else n F X (Y+p2 n) _ _ _ o_,mk_upd_else n F (X+p2 n) (Y+p2 n) _ _ _ o_]
  ·rw [if_neg (by unfold qd;omega),if_neg (by unfold qd;omega),if_pos (by unfold qd;omega),ih,h2,mk_upd_else n F X Y _ _ _ o_,mk_upd_else n F (X+p2 n) Y _ _ _ o_,mk_upd_else n F (X+p2 n) (Y+p2 n) _ _ _ o_];rw [show Y+p2 n+((y % 2 ^ n:Nat):Int)=Y+(y:Int) by omega]
  ·rw [if_neg (by unfold qd;omega),if_pos (by unfold qd;omega),ih,h4,mk_upd_else n F X Y _ _ _ o_,mk_upd_else n F X (Y+p2 n) _ _ _ o_,mk_upd_else n F (X+p2 n) (Y+p2 n) _ _ _ o_];rw [show X+p2 n+((x % 2 ^ n:Nat):Int)=X+(x:Int) by omega]
  ·rw [if_neg (by unfold qd;omega),if_neg (by unfold qd;omega),if_neg (by unfold qd;omega),ih,mk_upd_else n F X Y _ _ _ o_,mk_upd_else n F (X+p2 n) Y _ _ _ o_,mk_upd_else n F X (Y+p2 n) _ _ _ o_];rw [show X+p2 n+((x % 2 ^ n:Nat):Int)=X+(x:Int) by omega,show Y+p2 n+((y % 2 ^ n:Nat):Int)=Y+(y:Int) by omega]
theorem lookT_mk:∀ (n:Nat) (F:Fld) (X Y:Int) (x y:Nat),x<2 ^ n→y<2 ^ n→lookT n (mk n F X Y) x y=F (X+x) (Y+y)
 | 0,F,X,Y,x,y,hx,hy=>by
  obtain rfl:x=0:=o_
  obtain rfl:y=0:=o_
  show F X Y=F (X+0) (Y+0);rw [Int.add_zero,Int.add_zero]
 | n+1,F,X,Y,x,y,hx,hy=>by
  have e2:p2 n=((2 ^ n:Nat):Int):=rfl;have mx:=Nat.mod_lt x (Nat.pow_pos (n:=n) (show 0<2 by omega));have my:=Nat.mod_lt y (Nat.pow_pos (n:=n) (show 0<2 by omega));have ih:=fun A B=>lookT_mk n F A B (x % 2 ^ n) (y % 2 ^ n) mx my;simp only [lookT_low n n _ x y (Nat.le_refl n)] at ih;simp only [mk,lookT];rcases mod_one x n hx with ⟨h1,h2⟩|⟨h1,h2⟩<;>rcases mod_one y n hy with ⟨h3,h4⟩|⟨h3,h4⟩
  ·rw [show qd n x y=0 by unfold qd;omega];show lookT n (mk n F X Y) x y=_;rw [ih,h2,h4]
  ·rw [show qd n x y=2 by unfold qd;omega];show lookT n (mk n F X (Y+p2 n)) x y=_;rw [ih,h2,show Y+p2 n+((y % 2 ^ n:Nat):Int)=Y+(y:Int) by omega]
  ·rw [show qd n x y=1 by unfold qd;omega];show lookT n (mk n F (X+p2 n) Y) x y=_;rw [ih,h4,show X+p2 n+((x % 2 ^ n:Nat):Int)=X+(x:Int) by omega]
  ·rw [show qd n x y=3 by unfold qd;omega];show lookT n (mk n F (X+p2 n) (Y+p2 n)) x y=_;rw [ih,show X+p2 n+((x % 2 ^ n:Nat):Int)=X+(x:Int) by omega,show Y+p2 n+((y % 2 ^ n:Nat):Int)=Y+(y:Int) by omega]
theorem expT_mk {n:Nat} {F:Fld} {x y:Int} (h:∀ i j,¬ (x≤i∧i<x+p2 (n+1)∧y≤j∧j<y+p2 (n+1))→F i j=0):expT n (mk (n+1) F x y)=mk (n+2) F (x - p2 n) (y - p2 n):=by
 have e:=p2_succ n;have hp:=p2_pos n;have bl:∀ a b,(a+p2 n≤x∨x+p2 (n+1)≤a∨b+p2 n≤y∨y+p2 (n+1)≤b)→emptyT n=mk n F a b:=fun a b hab=>(mk_blank n fun i j a1 a2 a3 a4=>h _ _ o_).symm;have key:∀ (a b c d:Int),a=c→b=d→mk n F a b=mk n F c d:=by rintro a b c d rfl rfl;rfl
 show Tr.node (.node (emptyT n) (emptyT n) (emptyT n) (mk n F x y)) (.node (emptyT n) (emptyT n) (mk n F (x+p2 n) y) (emptyT n)) (.node (emptyT n) (mk n F x (y+p2 n)) (emptyT n) (emptyT n)) (.node (mk n F (x+p2 n) (y+p2 n)) (emptyT n) (emptyT n) (emptyT n)) =
  Tr.node (.node (mk n F _ _) (mk n F _ _) (mk n F _ _) (mk n F _ _)) (.node (mk n F _ _) (mk n F _ _) (mk n F _ _) (mk n F _ _)) (.node (mk n F _ _) (mk n F _ _) (mk n F _ _) (mk n F _ _)) (.node (mk n F _ _) (mk n F _ _) (mk n F _ _) (mk n F _ _))
 congr 1<;>congr 1<;>first|exact bl _ _ o_|exact key _ _ _ _ o_ o_
structure FrIs (n:Nat) (F:Fld) (x y:Int) (f:Frm):Prop where
 all:∀ i j,0≤i→i<p2 n→0≤j→j<p2 n→F (x+i) (y+j)≠0→f.1≤i∧i≤f.2.2.1∧f.2.1≤j∧j≤f.2.2.2
 left:∃ i j,0≤i∧i<p2 n∧0≤j∧j<p2 n∧F (x+i) (y+j)≠0∧i=f.1
 top:∃ i j,0≤i∧i<p2 n∧0≤j∧j<p2 n∧F (x+i) (y+j)≠0∧j=f.2.1
 right:∃ i j,0≤i∧i<p2 n∧0≤j∧j<p2 n∧F (x+i) (y+j)≠0∧i=f.2.2.1
 bottom:∃ i j,0≤i∧i<p2 n∧0≤j∧j<p2 n∧F (x+i) (y+j)≠0∧j=f.2.2.2
theorem fr_is:∀ (n:Nat) (F:Fld) (x y:Int),(∀ f,frT n (mk n F x y)=some f→FrIs n F x y f)∧(frT n (mk n F x y)=none→∀ i j,0≤i→i<p2 n→0≤j→j<p2 n→F (x+i) (y+j)=0)
 | 0,F,x,y=>by
  have e:frT 0 (mk 0 F x y)=if F x y=0 then none else some (0,0,0,0):=rfl
  have h1:p2 0=1:=rfl;constructor;·
   intro f hf;rw [e] at hf;split at hf;·cases hf
   ·rename_i hne;obtain rfl:=Option.some.inj hf;have w:∃ i j:Int,0≤i∧i<p2 0∧0≤j∧j<p2 0∧F (x+i) (y+j)≠0∧i=0∧j=0:=⟨0,0,o_,o_,o_,o_,by simpa using hne,rfl,rfl⟩;obtain⟨i,j,a,b,c,d,e,g,k⟩:=w;exact⟨fun i j a b c d _=>by simp only;omega,⟨i,j,a,b,c,d,e,g⟩,⟨i,j,a,b,c,d,e,k⟩,⟨i,j,a,b,c,d,e,g⟩,⟨i,j,a,b,c,d,e,k⟩⟩
  ·intro hf i j a b c d;rw [e] at hf;split at hf;·
    rename_i h0;obtain rfl:i=0:=o_
    obtain rfl:j=0:=o_;simpa using h0
   ·cases hf
 | n+1,F,x,y=>by
  have hp:=p2_succ n;have hq:=p2_pos n;have e2:((2 ^ n:Nat):Int)=p2 n:=rfl;have e:frT (n+1) (mk (n+1) F x y)=joinF (joinF (joinF (joinF none (frT n (mk n F x y)) 0 0) (frT n (mk n F (x+p2 n) y)) (p2 n) 0) (frT n (mk n F x (y+p2 n))) 0 (p2 n)) (frT n (mk n F (x+p2 n) (y+p2 n))) (p2 n) (p2 n):=rfl;rw [e]
  -- a family of parts: what is gathered so far
  let G:Option Frm→(Int→Int→Prop)→Prop:=fun o P=>(∀ f,o=some f→(∀ i j,0≤i→i<p2 (n+1)→0≤j→j<p2 (n+1)→P i j→F (x+i) (y+j)≠0→f.1≤i∧i≤f.2.2.1∧f.2.1≤j∧j≤f.2.2.2) ∧
   (∃ i j,0≤i∧i<p2 (n+1)∧0≤j∧j<p2 (n+1)∧F (x+i) (y+j)≠0∧i=f.1)∧(∃ i j,0≤i∧i<p2 (n+1)∧0≤j∧j<p2 (n+1)∧F (x+i) (y+j)≠0∧j=f.2.1) ∧
   (∃ i j,0≤i∧i<p2 (n+1)∧0≤j∧j<p2 (n+1)∧F (x+i) (y+j)≠0∧i=f.2.2.1)∧(∃ i j,0≤i∧i<p2 (n+1)∧0≤j∧j<p2 (n+1)∧F (x+i) (y+j)≠0∧j=f.2.2.2)) ∧
   (o=none→∀ i j,0≤i→i<p2 (n+1)→0≤j→j<p2 (n+1)→P i j→F (x+i) (y+j)=0)
  have step:∀ (o:Option Frm) (P:Int→Int→Prop) (a b:Int),(a=0∨a=p2 n)→(b=0∨b=p2 n)→G o P→G (joinF o (frT n (mk n F (x+a) (y+b))) a b) (fun i j=>P i j∨(a≤i∧i<a+p2 n∧b≤j∧j<b+p2 n)):=by
   intro o P a b ha hb ⟨h1,h2⟩;obtain⟨k1,k2⟩:=fr_is n F (x+a) (y+b);have sh:∀ i j:Int,F (x+a+(i - a)) (y+b+(j - b))=F (x+i) (y+j):=fun i j=>by congr 1<;>omega
   cases hx:frT n (mk n F (x+a) (y+b)) with
   | none =>
    have k3:=k2 hx;have k4:∀ i j,a≤i→i<a+p2 n→b≤j→j<b+p2 n→F (x+i) (y+j)=0:=fun i j q1 q2 q3 q4=>(by rw [← sh];exact k3 _ _ o_ o_ o_ o_);have ej:joinF o none a b=o:=rfl;rw [ej];refine⟨fun f hf=>?_,fun hn i j q1 q2 q3 q4 hP=>?_⟩;·
     obtain⟨g1,g2⟩:=h1 f hf;refine⟨fun i j q1 q2 q3 q4 hP hne=>?_,g2⟩;rcases hP with hP|hP
     ·exact g1 i j q1 q2 q3 q4 hP hne
     ·exact absurd (k4 i j hP.1 hP.2.1 hP.2.2.1 hP.2.2.2) hne
    ·rcases hP with hP|hP
     ·exact h2 hn i j q1 q2 q3 q4 hP
     ·exact k4 i j hP.1 hP.2.1 hP.2.2.1 hP.2.2.2
   | some X =>
    obtain⟨l,t,r,d⟩:=X;obtain⟨f1,f2,f3,f4,f5⟩:=k1 _ hx;simp only at f1 f2 f3 f4 f5;have mv:∀ {Q:Int→Int→Prop},(∃ i j,0≤i∧i<p2 n∧0≤j∧j<p2 n∧F (x+a+i) (y+b+j)≠0∧Q i j)→∃ i j,0≤i∧i<p2 (n+1)∧0≤j∧j<p2 (n+1)∧F (x+i) (y+j)≠0∧Q (i - a) (j - b):=by rintro Q ⟨i,j,q1,q2,q3,q4,q5,q6⟩;refine⟨i+a,j+b,o_,o_,o_,o_,?_,by rw [Int.add_sub_cancel,Int.add_sub_cancel];exact q6⟩;rw [← sh,Int.add_sub_cancel,Int.add_sub_cancel];exact q5
    have m2:=mv (Q:=fun i _=>i=l) f2;have m3:=mv (Q:=fun _ j=>j=t) f3;have m4:=mv (Q:=fun i _=>i=r) f4;have m5:=mv (Q:=fun _ j=>j=d) f5;have f6:∀ i j,a≤i→i<a+p2 n→b≤j→j<b+p2 n→F (x+i) (y+j)≠0→l+a≤i∧i≤r+a∧t+b≤j∧j≤d+b:=fun i j q1 q2 q3 q4 hne=>by rw [← sh] at hne;have:=f1 _ _ o_ o_ o_ o_ hne;omega
    cases o with
    | none =>
     have ej:joinF none (some (l,t,r,d)) a b=some (l+a,t+b,r+a,d+b):=rfl;rw [ej];refine⟨fun f hf=>?_,fun hn=>by cases hn⟩;obtain rfl:=Option.some.inj hf;refine⟨fun i j q1 q2 q3 q4 hP hne=>?_,?_,?_,?_,?_⟩;·
      rcases hP with hP|hP
      ·exact absurd (h2 rfl i j q1 q2 q3 q4 hP) hne
      ·have:=f6 i j hP.1 hP.2.1 hP.2.2.1 hP.2.2.2 hne;simp only;omega
     ·obtain⟨i,j,q1,q2,q3,q4,q5,q6⟩:=m2;exact⟨i,j,q1,q2,q3,q4,q5,by simp only;omega⟩
     ·obtain⟨i,j,q1,q2,q3,q4,q5,q6⟩:=m3;exact⟨i,j,q1,q2,q3,q4,q5,by simp only;omega⟩
     ·obtain⟨i,j,q1,q2,q3,q4,q5,q6⟩:=m4;exact⟨i,j,q1,q2,q3,q4,q5,by simp only;omega⟩
     ·obtain⟨i,j,q1,q2,q3,q4,q5,q6⟩:=m5;exact⟨i,j,q1,q2,q3,q4,q5,by simp only;omega⟩
    | some o =>
     obtain⟨l',t',r',d'⟩:=o;obtain⟨g1,g2,g3,g4,g5⟩:=h1 _ rfl;simp only at g1 g2 g3 g4 g5;have ej:joinF (some (l',t',r',d')) (some (l,t,r,d)) a b=some (min (l+a) l',min (t+b) t',max (r+a) r',max (d+b) d'):=rfl;rw [ej];refine⟨fun f hf=>?_,fun hn=>by cases hn⟩;obtain rfl:=Option.some.inj hf;refine⟨fun i j q1 q2 q3 q4 hP hne=>?_,?_,?_,?_,?_⟩;·
      rcases hP with hP|hP
      ·have:=g1 i j q1 q2 q3 q4 hP hne;simp only;omega
      ·have:=f6 i j hP.1 hP.2.1 hP.2.2.1 hP.2.2.2 hne;simp only;omega
     ·by_cases hc:l+a≤l';·obtain⟨i,j,q1,q2,q3,q4,q5,q6⟩:=m2;exact⟨i,j,q1,q2,q3,q4,q5,by simp only;omega⟩
      ·obtain⟨i,j,q1,q2,q3,q4,q5,q6⟩:=g2;exact⟨i,j,q1,q2,q3,q4,q5,by simp only;omega⟩
     ·by_cases hc:t+b≤t';·obtain⟨i,j,q1,q2,q3,q4,q5,q6⟩:=m3;exact⟨i,j,q1,q2,q3,q4,q5,by simp only;omega⟩
      ·obtain⟨i,j,q1,q2,q3,q4,q5,q6⟩:=g3;exact⟨i,j,q1,q2,q3,q4,q5,by simp only;omega⟩
     ·by_cases hc:r'≤r+a;·obtain⟨i,j,q1,q2,q3,q4,q5,q6⟩:=m4;exact⟨i,j,q1,q2,q3,q4,q5,by simp only;omega⟩
      ·obtain⟨i,j,q1,q2,q3,q4,q5,q6⟩:=g4;exact⟨i,j,q1,q2,q3,q4,q5,by simp only;omega⟩
     ·by_cases hc:d'≤d+b;·obtain⟨i,j,q1,q2,q3,q4,q5,q6⟩:=m5;exact⟨i,j,q1,q2,q3,q4,q5,by simp only;omega⟩
      ·obtain⟨i,j,q1,q2,q3,q4,q5,q6⟩:=g5;exact⟨i,j,q1,q2,q3,q4,q5,by simp only;omega⟩
  have g0:G none (fun _ _=>False):=⟨fun f hf=>(by cases hf),fun _ i j _ _ _ _ hP=>hP.elim⟩;have g1:=step _ _ 0 0 (.inl rfl) (.inl rfl) g0;have g2:=step _ _ (p2 n) 0 (.inr rfl) (.inl rfl) g1;have g3:=step _ _ 0 (p2 n) (.inl rfl) (.inr rfl) g2;have g4:=step _ _ (p2 n) (p2 n) (.inr rfl) (.inr rfl) g3;rw [Int.add_zero,Int.add_zero] at g4;obtain⟨h1,h2⟩:=g4;refine⟨fun f hf=>?_,fun hf i j q1 q2 q3 q4=>h2 hf i j q1 q2 q3 q4 o_⟩;obtain⟨k1,k2,k3,k4,k5⟩:=h1 f hf;exact⟨fun i j q1 q2 q3 q4=>k1 i j q1 q2 q3 q4 o_,k2,k3,k4,k5⟩
structure VB where
 x:Int
 y:Int
 w:Int
 h:Int
def apartB (a size b n:Int):Bool:=decide (a+size≤b∨b+n≤a)
def goneB (v:VB) (n:Nat) (t:Tr) (x y:Int):Bool:=decide (popT t=0) || (apartB x (p2 n) v.x v.w || apartB y (p2 n) v.y v.h)
def visL (v:VB):Nat→Tr→Int→Int→List PC
 | 0,t,x,y=>if goneB v 0 t x y then [] else [⟨x - v.x,y - v.y,match t with|.leaf s=>s|_=>0⟩]
 | n+1,t,x,y=>if goneB v (n+1) t x y then [] else visL v n (Tr.q t 0) x y++(visL v n (Tr.q t 1) (x+p2 n) y++(visL v n (Tr.q t 2) x (y+p2 n)++visL v n (Tr.q t 3) (x+p2 n) (y+p2 n)))
def visQ (v:VB) (n:Nat) (t:Tr) (x y:Int):Nat→List PC
 | 0=>[]
 | q+1=>visQ v n t x y q++visL v n (Tr.q t q) (if q % 2=1 then x+p2 n else x) (if 2≤q then y+p2 n else y)
theorem visQ_all (v:VB) (n:Nat) (t:Tr) (x y:Int) (h:goneB v (n+1) t x y=false):visL v (n+1) t x y=visQ v n t x y 4:=by simp only [visL,h,Bool.false_eq_true,if_false,visQ];simp [List.append_assoc]
theorem pop_zero_mk:∀ (n:Nat) (F:Fld) (x y:Int),popT (mk n F x y)=0↔∀ i j,0≤i→i<p2 n→0≤j→j<p2 n→F (x+i) (y+j)=0
 | 0,F,x,y=>by
  have h1:p2 0=1:=rfl;constructor;·
   intro h i j a b c d;obtain rfl:i=0:=o_
   obtain rfl:j=0:=o_;rw [Int.add_zero,Int.add_zero];refine Classical.byContradiction fun hne=>?_;simp [mk,popT,hne] at h
  ·intro h;have:=h 0 0 o_ o_ o_ o_;rw [Int.add_zero,Int.add_zero] at this;simp [mk,popT,this]
 | n+1,F,x,y=>by
  have hp:=p2_succ n;have hq:=p2_pos n;have e:popT (mk (n+1) F x y)=popT (mk n F x y)+popT (mk n F (x+p2 n) y)+popT (mk n F x (y+p2 n))+popT (mk n F (x+p2 n) (y+p2 n)):=rfl;have i1:=pop_zero_mk n F x y;have i2:=pop_zero_mk n F (x+p2 n) y;have i3:=pop_zero_mk n F x (y+p2 n);have i4:=pop_zero_mk n F (x+p2 n) (y+p2 n);constructor;·
   intro h i j a b c d;have k1:=i1.1 o_;have k2:=i2.1 o_;have k3:=i3.1 o_;have k4:=i4.1 o_;by_cases hi:i<p2 n<;>by_cases hj:j<p2 n;·exact k1 i j a hi c hj
   ·have:=k3 i (j - p2 n) a hi o_ o_;rwa [show y+p2 n+(j - p2 n)=y+j by omega] at this
   ·have:=k2 (i - p2 n) j o_ o_ c hj;rwa [show x+p2 n+(i - p2 n)=x+i by omega] at this
   ·have:=k4 (i - p2 n) (j - p2 n) o_ o_ o_ o_;rwa [show x+p2 n+(i - p2 n)=x+i by omega,show y+p2 n+(j - p2 n)=y+j by omega] at this
  ·intro h;have k1:=i1.2 fun i j a b c d=>h i j a o_ c o_;have k2:=i2.2 fun i j a b c d=>by rw [Int.add_assoc];exact h _ j o_ o_ c o_
   have k3:=i3.2 fun i j a b c d=>(by rw [Int.add_assoc y];exact h i _ a o_ o_ o_);have k4:=i4.2 fun i j a b c d=>(by rw [Int.add_assoc x,Int.add_assoc y];exact h _ _ o_ o_ o_ o_);omega
def InV (v:VB) (n:Nat) (F:Fld) (x y:Int) (c:PC):Prop :=
 (x≤c.x+v.x∧c.x+v.x<x+p2 n∧y≤c.y+v.y∧c.y+v.y<y+p2 n)∧(0≤c.x∧c.x<v.w∧0≤c.y∧c.y<v.h)∧c.st=F (c.x+v.x) (c.y+v.y)∧c.st≠0
theorem gone_none {v:VB} {n:Nat} {F:Fld} {x y:Int} (h:goneB v n (mk n F x y) x y=true) (c:PC):¬ InV v n F x y c:=by
 rintro⟨h1,h2,h3,h4⟩;simp only [goneB,apartB,Bool.or_eq_true,decide_eq_true_eq] at h;rcases h with h|h
 ·have:=(pop_zero_mk n F x y).1 h (c.x+v.x - x) (c.y+v.y - y) o_ o_ o_ o_;rw [show x+(c.x+v.x - x)=c.x+v.x by omega,show y+(c.y+v.y - y)=c.y+v.y by omega] at this;exact h4 (h3.trans this)
 ·omega
theorem mem_visL {v:VB}:∀ {n:Nat} {F:Fld} {x y:Int} {c:PC},c∈visL v n (mk n F x y) x y↔InV v n F x y c
 | 0,F,x,y,c=>by
  have h1:p2 0=1:=rfl;by_cases h:goneB v 0 (mk 0 F x y) x y=true;·
   simp only [visL,h,if_true];exact⟨fun h0=>absurd h0 i_,fun h0=>absurd h0 (gone_none h c)⟩
  ·have e:visL v 0 (mk 0 F x y) x y=[⟨x - v.x,y - v.y,F x y⟩]:=by
    simp only [visL,h];rfl
   rw [e,List.mem_singleton];simp only [goneB,apartB,Bool.or_eq_true,decide_eq_true_eq,not_or] at h;have hne:F x y≠0:=fun h0=>h.1 (by simp [mk,popT,h0]);constructor;·
    rintro rfl;refine⟨by simp only;omega,by simp only;omega,?_,hne⟩;simp only;congr 1<;>omega
   ·rintro⟨k1,k2,k3,k4⟩;have e1:c.x=x - v.x:=o_
    have e2:c.y=y - v.y:=o_;cases c;simp only at e1 e2 k3;subst e1 e2;rw [k3];congr 2<;>omega
 | n+1,F,x,y,c=>by
  have hp:=p2_succ n;have hq:=p2_pos n;by_cases h:goneB v (n+1) (mk (n+1) F x y) x y=true;·
   simp only [visL,h,if_true];exact⟨fun h0=>absurd h0 i_,fun h0=>absurd h0 (gone_none h c)⟩
  ·have e:visL v (n+1) (mk (n+1) F x y) x y=visL v n (mk n F x y) x y++(visL v n (mk n F (x+p2 n) y) (x+p2 n) y++(visL v n (mk n F x (y+p2 n)) x (y+p2 n)++visL v n (mk n F (x+p2 n) (y+p2 n)) (x+p2 n) (y+p2 n))):=by
    simp only [visL,h];rfl
   rw [e,List.mem_append,List.mem_append,List.mem_append,mem_visL,mem_visL,mem_visL,mem_visL];unfold InV;constructor;·rintro (⟨k1,k2⟩|⟨k1,k2⟩|⟨k1,k2⟩|⟨k1,k2⟩)<;>exact⟨o_,k2⟩
   ·rintro⟨k1,k2⟩;by_cases hi:c.x+v.x<x+p2 n<;>by_cases hj:c.y+v.y<y+p2 n;·exact .inl ⟨o_,k2⟩
    ·exact .inr (.inr (.inl ⟨o_,k2⟩))
    ·exact .inr (.inl ⟨o_,k2⟩)
    ·exact .inr (.inr (.inr ⟨o_,k2⟩))
theorem nodup_visL {v:VB}:∀ {n:Nat} {F:Fld} {x y:Int},(visL v n (mk n F x y) x y).Nodup
 | 0,F,x,y=>by unfold visL;split<;>simp
 | n+1,F,x,y=>by
  have hp:=p2_succ n;have hq:=p2_pos n;by_cases h:goneB v (n+1) (mk (n+1) F x y) x y=true;·simp only [visL,h,if_true];exact List.nodup_nil
  ·have e:visL v (n+1) (mk (n+1) F x y) x y=visL v n (mk n F x y) x y++(visL v n (mk n F (x+p2 n) y) (x+p2 n) y++(visL v n (mk n F x (y+p2 n)) x (y+p2 n)++visL v n (mk n F (x+p2 n) (y+p2 n)) (x+p2 n) (y+p2 n))):=by
    simp only [visL,h];rfl
   rw [e];refine List.nodup_append.2 ⟨nodup_visL,List.nodup_append.2 ⟨nodup_visL,List.nodup_append.2 ⟨nodup_visL,nodup_visL,?_⟩,?_⟩,?_⟩;·
    intro a ha b hb hab;subst hab;have h1:=(mem_visL.1 ha).1;have h2:=(mem_visL.1 hb).1;omega
   ·intro a ha b hb hab;subst hab;have h1:=(mem_visL.1 ha).1;rw [List.mem_append,mem_visL,mem_visL] at hb;rcases hb with hb|hb<;>(have h2:=hb.1;omega)
   ·intro a ha b hb hab;subst hab;have h1:=(mem_visL.1 ha).1;rw [List.mem_append,List.mem_append,mem_visL,mem_visL,mem_visL] at hb;rcases hb with hb|hb|hb<;>(have h2:=hb.1;omega)
theorem strict_nodup {q:List PC} (h:strictB q=true):q.Nodup:=by refine (strict_pair h).imp fun {a b} hab e=>?_;subst e;simp [pBef] at hab
theorem from_vis {v:VB} {n:Nat} {F:Fld} {x y:Int} {q:List PC} (hq:rightP q=true) (h:∀ c,c∈q↔InV v n F x y c):fromP (visL v n (mk n F x y) x y)=(q,0):=by refine from_right hq ?_;refine (List.perm_ext_iff_of_nodup nodup_visL (strict_nodup (right_parts hq).2.2)).2 fun c=>?_;rw [mem_visL,h]
end Go.Proofs.Uni
end
section
namespace Go.Proofs.YtebolidfbflkmaaGreat
open Go Qs Ev
def cornerT (n:Nat) (t:Tr):Nat→Tr
 | 0=>.node t (emptyT n) (emptyT n) (emptyT n)
 | 1=>.node (emptyT n) t (emptyT n) (emptyT n)
 | 2=>.node (emptyT n) (emptyT n) t (emptyT n)
 | _=>.node (emptyT n) (emptyT n) (emptyT n) t
theorem corner_join {s:Int} {m:List K4} {n:Nat} {a v:Int} {t:Tr} {k:Nat} (hg:GoodQ s m) (hl:m.length≤89999) (hn:n<256) (ha:Is s m n a (emptyT n)) (hv:Is s m n v t) (hk:k<4) :
  ∃ id m',join s m (cornerK a v k)=((id,0),m')∧GoodQ s m'∧m <+: m'∧m'.length≤m.length+1∧Is s m' (n+1) id (cornerT n t k):=by
 have hroom:∀ u,room s m [u]:=fun u=>room.of_len (by simp;omega);have fin:∀ {x y z u:Int} {tx ty tz tu:Tr},Is s m n x tx→Is s m n y ty→Is s m n z tz→Is s m n u tu→∃ id m',join s m ⟨x,y,z,u⟩=((id,0),m')∧GoodQ s m'∧m <+: m'∧m'.length≤m.length+1∧Is s m' (n+1) id (.node tx ty tz tu):=by intro x y z u tx ty tz tu hx hy hz hu;obtain⟨id,m',hj,h1,h2,_,h4⟩:=join_room hg (hroom (.node tx ty tz tu)) hn hx hy hz hu i_;have:=join_len s m ⟨x,y,z,u⟩;rw [hj] at this;exact⟨id,m',hj,h1,h2,this,h4⟩
 have:k=0∨k=1∨k=2∨k=3:=o_
 rcases this with rfl|rfl|rfl|rfl
 ·exact fin hv ha ha ha
 ·exact fin ha hv ha ha
 ·exact fin ha ha hv ha
 ·exact fin ha ha ha hv
theorem expand_ok {s:Int} {ns:List K4} {id:Int} {n:Nat} {t:Tr} (hg:GoodQ s ns) (hl:ns.length≤89000) (hi:Is s ns (n+1) id t) (hn:n+1<256) :
  ∃ x ms,expandQ s ns id=((x,0),ms)∧GoodQ s ms∧ns <+: ms∧ms.length≤ns.length+300∧Is s ms (n+2) x (expT n t):=by
 have hlv:=hi.lvl hg;obtain⟨a,m0,h0,g0,p0,l0,i0⟩:=empty_is hg (L:=n) o_ o_;have hk:=(hi.node hg).2.2;obtain⟨x0,m1,j0,g1,p1,l1,c0⟩:=corner_join (k:=3) g0 o_ o_ i0 ((hk 0 o_).grow p0) o_;obtain⟨x1,m2,j1,g2,p2,l2,c1⟩:=corner_join (k:=2) g1 o_ o_ (i0.grow p1) ((hk 1 o_).grow (p0.trans p1)) o_;obtain⟨x2,m3,j2,g3,p3,l3,c2⟩:=corner_join (k:=1) g2 o_ o_ (i0.grow (p1.trans p2)) ((hk 2 o_).grow ((p0.trans p1).trans p2)) o_;obtain⟨x3,m4,j3,g4,p4,l4,c3⟩:=corner_join (k:=0) g3 o_ o_ (i0.grow ((p1.trans p2).trans p3)) ((hk 3 o_).grow (((p0.trans p1).trans p2).trans p3)) o_;have k4:=kr_ok (f:=fun ms k=>join s ms (cornerK a ((nodeOf s ns id).get k) (3 - k))) (kr_ok (kr_ok (kr_ok (k:=0) (ids:=[]) rfl j0) j1) j2) j3;obtain⟨y,m5,hj,g5,p5,_,i5⟩:=join_room g4 (room.of_len (L:=[expT n t]) (by simp;omega)) o_ (((c0.grow p2).grow p3).grow p4) ((c1.grow p3).grow p4) (c2.grow p4) c3 (by
  simp only [List.mem_singleton];rfl)
 have l5:=join_len s m4 ⟨x0,x1,x2,x3⟩;rw [hj] at l5;refine⟨y,m5,?_,g5,((((p0.trans p1).trans p2).trans p3).trans p4).trans p5,by simp only at l5;omega,i5⟩;unfold expandQ;rw [hlv,if_neg o_,if_neg o_,show (((n+1:Nat):Int) - 1)=((n:Nat):Int) by omega,h0];simp only [ne_eq,not_true_eq_false,if_false];rw [fin4_ok k4];exact hj
open Bn
theorem get_is {s:Int} {ns:List K4} (hg:GoodQ s ns) {n:Nat} {id:Int} {t:Tr} (hi:Is s ns n id t) {nx ny:Bool} {dx dy:List Nat} (hp:placeE n nx dx ny dy=0):getQ s ns id nx dx ny dy=(lookT n t (sv nx dx).toNat (sv ny dy).toNat,0):=by unfold getQ;rw [hi.lvl hg,hp,if_neg i_,Int.toNat_natCast,lookQ_is hg hi]
theorem change_is {s:Int} {ns:List K4} (hg:GoodQ s ns) (hl:ns.length≤89000) {n:Nat} {id:Int} {t:Tr} (hi:Is s ns n id t) (hn:n≤256) {nx ny:Bool} {dx dy:List Nat} (hp:placeE n nx dx ny dy=0) {st:Int} (h0:0≤st) (h1:st<s) :
  ∃ id' ms,changeQ s ns id nx dx ny dy st=((id',0),ms)∧GoodQ s ms∧ns <+: ms∧ms.length≤ns.length+n∧Is s ms n id' (setT n t (sv nx dx).toNat (sv ny dy).toNat st):=by
 obtain⟨id',ms,h2,h3,h4,h5,h6⟩:=setQ_ok h0 h1 (x:=(sv nx dx).toNat) (y:=(sv ny dy).toNat) hg hi hn o_;refine⟨id',ms,?_,h3,h4,h5,h6⟩;unfold changeQ;rw [hi.lvl hg,hp,if_neg i_,if_neg o_,Int.toNat_natCast];exact h2
end Go.Proofs.YtebolidfbflkmaaGreat
end
section
namespace Go.Proofs.Uni
open Go Qs Ev Pt Bn YtebolidfbflkmaaGreat
theorem centre_is {s:Int} {ns:List K4} {id:Int} {n:Nat} {t:Tr} (hg:GoodQ s ns) (hl:ns.length≤89999) (hi:Is s ns (n+2) id t) (hn:n+1<256) :
  ∃ x ms,centreQ s ns id=((x,0),ms)∧GoodQ s ms∧ns <+: ms∧ms.length≤ns.length+1∧Is s ms (n+1) x (ctr t):=by
 have hlv:=hi.lvl hg;have hk:=(hi.node hg).2.2;have hkk:∀ q,q<4→Is s ns n ((nodeOf s ns ((nodeOf s ns id).get q)).get (3 - q)) (Tr.q (Tr.q t q) (3 - q)):=fun q hq=>((hk q hq).node hg).2.2 (3 - q) o_;have h0:=hkk 0 o_;have h1:=hkk 1 o_;have h2:=hkk 2 o_;have h3:=hkk 3 o_;obtain⟨y,m',hj,g',p',_,i'⟩:=join_room hg (room.of_len (L:=[ctr t]) (by simp;omega)) o_ h0 h1 h2 h3 (by simp [ctr]);have hl':=join_len s ns ⟨(nodeOf s ns ((nodeOf s ns id).get 0)).get (3 - 0),(nodeOf s ns ((nodeOf s ns id).get 1)).get (3 - 1),(nodeOf s ns ((nodeOf s ns id).get 2)).get (3 - 2),(nodeOf s ns ((nodeOf s ns id).get 3)).get (3 - 3)⟩;rw [hj] at hl';refine⟨y,m',?_,g',p',hl',i'⟩;unfold centreQ;rw [hlv,if_neg o_,if_neg o_];exact hj
def Inside (k:Nat) (F:Fld):Prop:=∀ i j,¬ (-p2 k≤i∧i<p2 k∧-p2 k≤j∧j<p2 k)→F i j=0
theorem Inside.more {k l:Nat} {F:Fld} (h:Inside k F) (hkl:k≤l):Inside l F:=fun i j hn=>h i j fun hc=>hn (by have:=p2_le hkl;omega)
abbrev mid (n:Nat) (F:Fld):Tr:=mk (n+1) F (-p2 n) (-p2 n)
theorem exp_mid {n:Nat} {F:Fld} (h:Inside n F):expT n (mid n F)=mid (n+1) F:=by have e:=p2_succ n;unfold mid;rw [expT_mk fun i j hn=>h i j fun hc=>hn o_];rw [show -p2 n - p2 n=-p2 (n+1) by omega]
theorem ctr_mid (n:Nat) (F:Fld):ctr (mid (n+1) F)=mid n F:=by have e:=p2_succ n;unfold mid;rw [ctr_mk,show -p2 (n+1)+p2 n=-p2 n by omega]
theorem expand_mid {s:Int} {ns:List K4} {id:Int} {n:Nat} {F:Fld} (hg:GoodQ s ns) (hl:ns.length≤89000) (hi:Is s ns (n+1) id (mid n F)) (hF:Inside n F) (hn:n+1<256) :
  ∃ x ms,expandQ s ns id=((x,0),ms)∧GoodQ s ms∧ns <+: ms∧ms.length≤ns.length+300∧Is s ms (n+2) x (mid (n+1) F):=by
 have:=expand_ok hg hl hi hn;rwa [exp_mid hF] at this
theorem centre_mid {s:Int} {ns:List K4} {id:Int} {n:Nat} {F:Fld} (hg:GoodQ s ns) (hl:ns.length≤89999) (hi:Is s ns (n+2) id (mid (n+1) F)) (hn:n+1<256) :
  ∃ x ms,centreQ s ns id=((x,0),ms)∧GoodQ s ms∧ns <+: ms∧ms.length≤ns.length+1∧Is s ms (n+1) x (mid n F):=by
 have:=centre_is hg hl hi hn;rwa [ctr_mid] at this
theorem placeE_in {n:Nat} {x y:Int} (hx:Zok x) (hy:Zok y) (h1:0≤x) (h2:x<p2 n) (h3:0≤y) (h4:y<p2 n):placeE (n:Int) (decide (x<0)) (zd x) (decide (y<0)) (zd y)=0:=by unfold placeE;rw [if_neg o_,zd_right hx,zd_right hy,Int.toNat_natCast,zd_sv,zd_sv];rw [if_neg (by decide),if_pos ⟨h1,h2,h3,h4⟩]
theorem change_mid {s:Int} {ns:List K4} {id:Int} {n:Nat} {F:Fld} (hg:GoodQ s ns) (hl:ns.length≤89000) (hi:Is s ns (n+1) id (mid n F)) (hn:n+1≤256) {x y st:Int} (hx:-p2 n≤x∧x<p2 n) (hy:-p2 n≤y∧y<p2 n) (zx:Zok (x+p2 n)) (zy:Zok (y+p2 n)) (h0:0≤st) (h1:st<s) :
  ∃ id' ms,changeQ s ns id (decide (x+p2 n<0)) (zd (x+p2 n)) (decide (y+p2 n<0)) (zd (y+p2 n)) st=((id',0),ms)∧GoodQ s ms∧ns <+: ms∧ms.length≤ns.length+(n+1)∧Is s ms (n+1) id' (mid n (updF F x y st)):=by
 have e:=p2_succ n;obtain⟨id',ms,h2,h3,h4,h5,h6⟩:=change_is hg hl hi hn (placeE_in (n:=n+1) zx zy o_ o_ o_ o_) h0 h1;refine⟨id',ms,h2,h3,h4,h5,?_⟩;rw [zd_sv,zd_sv] at h6;unfold mid at h6 ⊢;rw [setT_mk] at h6;·rwa [Int.toNat_of_nonneg o_,Int.toNat_of_nonneg o_,show -p2 n+(x+p2 n)=x by omega,show -p2 n+(y+p2 n)=y by omega] at h6
 ·have:((2 ^ (n+1):Nat):Int)=p2 (n+1):=rfl;omega
 ·have:((2 ^ (n+1):Nat):Int)=p2 (n+1):=rfl;omega
theorem get_mid {s:Int} {ns:List K4} {id:Int} {n:Nat} {F:Fld} (hg:GoodQ s ns) (hi:Is s ns (n+1) id (mid n F)) {x y:Int} (hx:-p2 n≤x∧x<p2 n) (hy:-p2 n≤y∧y<p2 n) (zx:Zok (x+p2 n)) (zy:Zok (y+p2 n)) :
  getQ s ns id (decide (x+p2 n<0)) (zd (x+p2 n)) (decide (y+p2 n<0)) (zd (y+p2 n))=(F x y,0):=by
 have e:=p2_succ n;rw [get_is hg hi (placeE_in (n:=n+1) zx zy o_ o_ o_ o_),zd_sv,zd_sv];unfold mid;rw [lookT_mk];·rw [Int.toNat_of_nonneg o_,Int.toNat_of_nonneg o_,show -p2 n+(x+p2 n)=x by omega,show -p2 n+(y+p2 n)=y by omega]
 ·have:((2 ^ (n+1):Nat):Int)=p2 (n+1):=rfl;omega
 ·have:((2 ^ (n+1):Nat):Int)=p2 (n+1):=rfl;omega
theorem inside_hold {k:Nat} {F:Fld} (h:Inside k F):Hold ⟨-p2 k,-p2 k,2 ^ (k+1),2 ^ (k+1)⟩ F:=fun i j hn=>h i j fun hc=>hn (by
 have e:=p2_succ k
 have:((2 ^ (k+1):Nat):Int)=p2 (k+1):=rfl
 simp only;omega)
theorem inside_it {r:Rule} (hq:quietB r=true) {k m:Nat} {F:Fld} (h:Inside k F) (hm:m≤2 ^ k):Inside (k+2) (it (gen r) m F):=fun i j hn=>by
 have hr:=(rad_lost r).1;have e:=p2_succ k;have e1:=p2_succ (k+1);have hp:=p2_pos k;have e2:((2 ^ (k+1):Nat):Int)=p2 (k+1):=rfl;have e3:p2 (k+2)=p2 (k+1)+p2 (k+1):=p2_succ (k+1);have hmp:((rad r*m:Nat):Int)≤2*p2 k:=by have h1:rad r*m≤2*2 ^ k:=Nat.mul_le_mul o_ hm;have h2:((rad r*m:Nat):Int)≤((2*2 ^ k:Nat):Int):=Int.ofNat_le.2 h1;rw [Int.natCast_mul] at h2;exact h2
 refine hold_it hq (inside_hold h) m i j fun hc=>hn ?_;simp only at hc;omega
def putF (F:Fld) (X Y:Int) (p:List PC):Fld:=p.foldl (fun F c=>updF F (X+c.x) (Y+c.y) c.st) F
theorem putF_snoc (F:Fld) (X Y:Int) (p:List PC) (c:PC):putF F X Y (p++[c])=updF (putF F X Y p) (X+c.x) (Y+c.y) c.st:=by simp [putF]
theorem strict_apart {p:List PC} {c:PC} (h:strictB (p++[c])=true):strictB p=true∧∀ d∈p,¬ (d.x=c.x∧d.y=c.y):=by have hp:=strict_pair h;rw [List.pairwise_append] at hp;refine⟨strict_of_pair hp.1,fun d hd he=>?_⟩;have:=hp.2.2 d hd c i_;simp only [pBef,decide_eq_true_eq] at this;omega
theorem putF_zero (X Y:Int):∀ {p:List PC},strictB p=true→putF (fun _ _=>0) X Y p=movF2 (fldP p) X Y:=by
 intro p;generalize hm:p.length=m
 induction m generalizing p with
 | zero =>intro _;obtain rfl:=List.eq_nil_of_length_eq_zero hm;rfl
 | succ m ih =>
  intro h;rcases List.eq_nil_or_concat p with rfl|⟨l,c,rfl⟩
  ·cases hm
  ·rw [List.concat_eq_append] at h hm ⊢;obtain⟨h1,h2⟩:=strict_apart h;rw [putF_snoc,ih (by simpa using hm) h1];funext x y;show (if x=X+c.x∧y=Y+c.y then c.st else fldP l (x - X) (y - Y))=fldP (l++[c]) (x - X) (y - Y);rw [fld_snoc h2];by_cases hc:x=X+c.x∧y=Y+c.y;·rw [if_pos hc,if_pos ⟨o_,o_⟩]
   ·rw [if_neg hc,if_neg o_]
def parR:Rule:=⟨2,[(0,0),(1,0)],[(1,[0,1]),(1,[1,0]),(2,[0,1])]⟩
def par0:List PC:=[⟨1,0,1⟩]
def par1:List PC:=[⟨0,0,1⟩,⟨1,0,1⟩]
theorem par_quiet:quietB parR=true:=by decide +kernel
theorem par_hold:Hold ⟨1,0,1,1⟩ (fldP par0):=fun x y hn=>fld_none fun c hc=>by simp [par0] at hc;subst hc;simp only at hn ⊢;omega
theorem gen_fld {r:Rule} (h:quietB r=true) {F:Fld} {b:Bx} (hb:Hold b F) {q:List PC} (hq:nextL r F (nearL b)=q):gen r F=fldP q:=by rw [← hq,nextL_fld h hb]
theorem par_next:nextL parR (fldP par0) (nearL ⟨1,0,1,1⟩)=par1:=by decide +kernel
theorem par_gen (X Y:Int):it (gen parR) 1 (movF2 (fldP par0) X Y)=movF2 (fldP par1) X Y:=by rw [it_mov];show movF2 (gen parR (fldP par0)) X Y=_;rw [gen_fld par_quiet par_hold par_next]
end Go.Proofs.Uni
end
section
namespace Go.Proofs.Hp
open Go Go.RowKit Ev
def pts (l:List (Int×Int)):List Value:=l.flatMap fun p=>[.int .i64 p.1,.int .i64 p.2]
theorem flat2_get {α:Type} (f g:α→Value):∀ (l:List α) (i:Nat) (p:α),l[i]?=some p→(l.flatMap fun p=>[f p,g p])[i*2]?=some (f p)∧(l.flatMap fun p=>[f p,g p])[i*2+1]?=some (g p)
 | [],i,p,h=>by simp at h
 | q::l,0,p,h=>by simp at h;subst h;simp
 | q::l,i+1,p,h=>by
  have h':l[i]?=some p:=by simpa using h
  obtain⟨h1,h2⟩:=flat2_get f g l i p h';rw [List.flatMap_cons,show (i+1)*2=i*2+1+1 by omega];simp only [List.cons_append,List.nil_append,List.getElem?_cons_succ];exact⟨h1,h2⟩
theorem pts_get {l:List (Int×Int)} {i:Nat} {p:Int×Int} (h:l[i]?=some p):(pts l)[i*2]?=some (.int .i64 p.1)∧(pts l)[i*2+1]?=some (.int .i64 p.2) :=
 flat2_get (fun p:Int×Int=>Value.int .i64 p.1) (fun p=>Value.int .i64 p.2) l i p h
def ncells (l:List (Int×List Int)) (vs:List Value):List Value:=(l.zip vs).flatMap fun p=>[.int .i64 p.1.1,p.2]
theorem ncells_get {l:List (Int×List Int)} {vs:List Value} {i:Nat} {x:Int×List Int} {u:Value} (h:l[i]?=some x) (hu:vs[i]?=some u):(ncells l vs)[i*2]?=some (.int .i64 x.1)∧(ncells l vs)[i*2+1]?=some u :=
 flat2_get (fun p:(Int×List Int)×Value=>Value.int .i64 p.1.1) (fun p=>p.2) (l.zip vs) i (x,u) (by rw [List.getElem?_zip_eq_some];exact⟨h,hu⟩)
def PtsAt (w:World) (v:Value) (l:List (Int×Int)):Prop:=Reads w v l.length 2 (pts l)
theorem PtsAt.fr {w w':World} {v:Value} {l:List (Int×Int)} (h:PtsAt w v l) (hf:Fr [] w w'):PtsAt w' v l:=Reads.fr h hf
theorem PtsAt.form {w:World} {v:Value} {l:List (Int×Int)} (h:PtsAt w v l):∃ a c,v=.slice a l.length c:=by obtain⟨_,a,c,h,_⟩:=h;exact⟨a,c,h⟩
theorem PtsAt.cell {w:World} {a:Option Addr} {n c:Nat} {l:List (Int×Int)} (h:PtsAt w (.slice a n c) l) {i:Nat} {p:Int×Int} (hi:l[i]?=some p) :
  ∃ g off,a=some ⟨g,off,none⟩∧g<w.heap.size∧w.cell? ⟨g,off+i*2,none⟩=some (.int .i64 p.1)∧w.cell? ⟨g,off+i*2+1,none⟩=some (.int .i64 p.2):=by
 obtain⟨hl,a',c',he,hp⟩:=h;cases he;have hlt:=(List.getElem?_eq_some_iff.1 hi).1;obtain⟨g,off,rfl,hg,hc⟩:=hp o_;obtain⟨h1,h2⟩:=pts_get hi;exact⟨g,off,rfl,hg,hc _ _ h1,by rw [Nat.add_assoc];exact hc _ _ h2⟩
def NodesAt (w:World) (v:Value) (l:List (Int×List Int)):Prop:=∃ vs:List Value,Reads w v l.length 2 (ncells l vs)∧∀ (i:Nat) (x:Int×List Int),l[i]?=some x→∃ u,vs[i]?=some u∧IntsAt w u x.2
theorem NodesAt.fr {w w':World} {v:Value} {l:List (Int×List Int)} (h:NodesAt w v l) (hf:Fr [] w w'):NodesAt w' v l:=by obtain⟨vs,h1,h2⟩:=h;refine⟨vs,h1.fr hf,fun i x hi=>?_⟩;obtain⟨u,hu,hr⟩:=h2 i x hi;exact⟨u,hu,hr.fr hf⟩
theorem NodesAt.form {w:World} {v:Value} {l:List (Int×List Int)} (h:NodesAt w v l):∃ a c,v=.slice a l.length c:=by obtain⟨_,⟨_,a,c,h,_⟩,_⟩:=h;exact⟨a,c,h⟩
theorem NodesAt.node {w:World} {a:Option Addr} {n c:Nat} {l:List (Int×List Int)} (h:NodesAt w (.slice a n c) l) {i:Nat} {x:Int×List Int} (hi:l[i]?=some x) :
  ∃ g off ra rc,a=some ⟨g,off,none⟩∧g<w.heap.size∧w.cell? ⟨g,off+i*2,none⟩=some (.int .i64 x.1)∧w.cell? ⟨g,off+i*2+1,none⟩=some (.slice ra x.2.length rc)∧IntsAt w (.slice ra x.2.length rc) x.2:=by
 obtain⟨vs,⟨hl,a',c',he,hp⟩,h2⟩:=h;cases he;obtain⟨u,hu,hr⟩:=h2 i x hi;obtain⟨ra,rc,rfl⟩:=hr.form;have hlt:=(List.getElem?_eq_some_iff.1 hi).1;obtain⟨g,off,rfl,hg,hc⟩:=hp o_;obtain⟨h3,h4⟩:=ncells_get hi hu;exact⟨g,off,ra,rc,rfl,hg,hc _ _ h3,by rw [Nat.add_assoc];exact hc _ _ h4,hr⟩
def RuleAt (w:World) (hv nv:Value) (r:Rule):Prop:=PtsAt w hv r.hood∧NodesAt w nv r.nodes
theorem RuleAt.fr {w w':World} {hv nv:Value} {r:Rule} (h:RuleAt w hv nv r) (hf:Fr [] w w'):RuleAt w' hv nv r:=⟨h.1.fr hf,h.2.fr hf⟩
end Go.Proofs.Hp
end
