/- Own texts of this claim, part 12: no condition. -/
import Derived.Test.YtebolidfbflkmaaGreatZN10
import Derived.Test.YtebolidfbflkmaaGreatZN9
import Derived.Test.YtebolidfbflkmaaGreatZN3
set_option linter.unusedVariables false
set_option linter.unusedSimpArgs false
section
namespace Go.Proofs.Ev
open Qs
abbrev Fld:=Int→Int→Int
def p2 (n:Nat):Int:=((2 ^ n:Nat):Int)
theorem p2_succ (n:Nat):p2 (n+1)=p2 n+p2 n:=by unfold p2;rw [Nat.pow_succ];omega
theorem p2_pos (n:Nat):0<p2 n:=by unfold p2;have:=Nat.pow_pos (n:=n) (show 0<2 by omega);omega
theorem p2_zero:p2 0=1:=rfl
def mk:Nat→Fld→Int→Int→Tr
 | 0,F,x,y=>.leaf (F x y)
 | n+1,F,x,y=>.node (mk n F x y) (mk n F (x+p2 n) y) (mk n F x (y+p2 n)) (mk n F (x+p2 n) (y+p2 n))
def Full:Nat→Tr→Prop
 | 0,.leaf _=>True
 | n+1,.node a b c d=>Full n a∧Full n b∧Full n c∧Full n d
 | _,_=>False
def cell:Nat→Tr→Fld
 | 0,.leaf v=>fun _ _=>v
 | n+1,.node a b c d=>fun x y=>if y<p2 n then (if x<p2 n then cell n a x y else cell n b (x - p2 n) y) else (if x<p2 n then cell n c x (y - p2 n) else cell n d (x - p2 n) (y - p2 n))
 | _,_=>fun _ _=>0
theorem mk_congr:∀ (n:Nat) {F G:Fld} {x y u v:Int},(∀ i j,0≤i→i<p2 n→0≤j→j<p2 n→F (x+i) (y+j)=G (u+i) (v+j))→mk n F x y=mk n G u v
 | 0,F,G,x,y,u,v,h=>by have:=h 0 0 o_ (by rw [p2_zero];omega) o_ (by rw [p2_zero];omega);simp only [Int.add_zero] at this;show Tr.leaf _=Tr.leaf _;rw [this]
 | n+1,F,G,x,y,u,v,h=>by
  have hp:=p2_succ n;have hq:=p2_pos n;show Tr.node _ _ _ _=Tr.node _ _ _ _;rw [mk_congr n (F:=F) (G:=G) (x:=x) (y:=y) (u:=u) (v:=v) fun i j a b c d=>h i j a o_ c o_,
   mk_congr n (F:=F) (G:=G) (x:=x+p2 n) (y:=y) (u:=u+p2 n) (v:=v) fun i j a b c d=>by rw [Int.add_assoc,Int.add_assoc];exact h _ j o_ o_ c o_,
   mk_congr n (F:=F) (G:=G) (x:=x) (y:=y+p2 n) (u:=u) (v:=v+p2 n) fun i j a b c d=>by rw [Int.add_assoc y,Int.add_assoc v];exact h i _ a o_ o_ o_,
   mk_congr n (F:=F) (G:=G) (x:=x+p2 n) (y:=y+p2 n) (u:=u+p2 n) (v:=v+p2 n) fun i j a b c d=>by rw [Int.add_assoc x,Int.add_assoc u,Int.add_assoc y,Int.add_assoc v];exact h _ _ o_ o_ o_ o_]
theorem cell_mk:∀ (n:Nat) {F:Fld} {x y i j:Int},0≤i→i<p2 n→0≤j→j<p2 n→cell n (mk n F x y) i j=F (x+i) (y+j)
 | 0,F,x,y,i,j,a,b,c,d=>by
  rw [p2_zero] at b d;obtain rfl:i=0:=o_
  obtain rfl:j=0:=o_
  simp [mk,cell]
 | n+1,F,x,y,i,j,a,b,c,d=>by
  have hp:=p2_succ n;show (if j<p2 n then (if i<p2 n then _ else _) else _)=_;split;·
   split;·exact cell_mk n a o_ c o_
   ·rw [cell_mk n o_ o_ c o_];congr 1;omega
  ·split;·rw [cell_mk n a o_ o_ o_];congr 1;omega
   ·rw [cell_mk n o_ o_ o_ o_];congr 1<;>omega
theorem mk_cell:∀ (n:Nat) {t:Tr},Full n t→mk n (cell n t) 0 0=t
 | 0,.leaf v,_=>rfl
 | 0,.node _ _ _ _,h=>h.elim
 | n+1,.leaf _,h=>h.elim
 | n+1,.node a b c d,h=>by
  obtain⟨ha,hb,hc,hd⟩:=h;have hq:=p2_pos n;show Tr.node _ _ _ _=_;have k1:mk n (cell (n+1) (.node a b c d)) 0 0=mk n (cell n a) 0 0:=mk_congr n fun i j h1 h2 h3 h4=>by show (if 0+j<p2 n then (if 0+i<p2 n then _ else _) else _)=_;rw [if_pos o_,if_pos o_]
  have k2:mk n (cell (n+1) (.node a b c d)) (0+p2 n) 0=mk n (cell n b) 0 0:=mk_congr n fun i j h1 h2 h3 h4=>by show (if 0+j<p2 n then (if 0+p2 n+i<p2 n then _ else _) else _)=_;rw [if_pos o_,if_neg o_];congr 1;omega
  have k3:mk n (cell (n+1) (.node a b c d)) 0 (0+p2 n)=mk n (cell n c) 0 0:=mk_congr n fun i j h1 h2 h3 h4=>by show (if 0+p2 n+j<p2 n then _ else (if 0+i<p2 n then _ else _))=_;rw [if_neg o_,if_pos o_];congr 1;omega
  have k4:mk n (cell (n+1) (.node a b c d)) (0+p2 n) (0+p2 n)=mk n (cell n d) 0 0:=mk_congr n fun i j h1 h2 h3 h4=>by show (if 0+p2 n+j<p2 n then _ else (if 0+p2 n+i<p2 n then _ else _))=_;rw [if_neg o_,if_neg o_];congr 1<;>omega
  rw [k1,k2,k3,k4,mk_cell n ha,mk_cell n hb,mk_cell n hc,mk_cell n hd]
theorem full_ht:∀ (n:Nat) {t:Tr},Full n t→t.ht=n
 | 0,.leaf v,_=>rfl
 | 0,.node _ _ _ _,h=>h.elim
 | n+1,.leaf _,h=>h.elim
 | n+1,.node a b c d,h=>by show a.ht+1=n+1;rw [full_ht n h.1]
def Local (r:Int) (g:Fld→Fld):Prop:=∀ {F H:Fld} {x y u v:Int},(∀ i j,-r≤i→i≤r→-r≤j→j≤r→F (x+i) (y+j)=H (u+i) (v+j))→g F x y=g H u v
def it (g:Fld→Fld):Nat→Fld→Fld
 | 0,F=>F
 | n+1,F=>g (it g n F)
theorem it_add (g:Fld→Fld) (a b:Nat) (F:Fld):it g (a+b) F=it g a (it g b F):=by
 induction a with
 | zero=>rw [Nat.zero_add];rfl
 | succ a ih=>rw [Nat.add_right_comm,it,ih];rfl
theorem it_local {r:Int} {g:Fld→Fld} (hg:Local r g) {F H:Fld} {x y u v L:Int} (h:∀ i j,0≤i→i<L→0≤j→j<L→F (x+i) (y+j)=H (u+i) (v+j)):∀ (m:Nat) {i j:Int},r*m≤i→i<L - r*m→r*m≤j→j<L - r*m→it g m F (x+i) (y+j)=it g m H (u+i) (v+j)
 | 0,i,j,a,b,c,d=>by simp only [Int.natCast_zero,Int.mul_zero,Int.sub_zero] at a b c d;exact h i j a b c d
 | m+1,i,j,a,b,c,d=>by
  have e:r*((m+1:Nat):Int)=r*m+r:=by rw [Int.natCast_add,Int.mul_add];simp
  rw [e] at a b c d;refine hg fun p q a1 a2 a3 a4=>?_;rw [Int.add_assoc,Int.add_assoc,Int.add_assoc,Int.add_assoc];exact it_local hg h m o_ o_ o_ o_
def stp (g:Fld→Fld) (n k:Nat) (t:Tr):Tr:=mk (n - 1) (it g (2 ^ k) (cell n t)) (p2 (n - 2)) (p2 (n - 2))
theorem p2_le {m n:Nat} (h:m≤n):p2 m≤p2 n:=by unfold p2;exact Int.ofNat_le.2 (Nat.pow_le_pow_right o_ h)
theorem stp_mk {r:Int} {g:Fld→Fld} (hg:Local r g) {n k:Nat} (hn:2≤n) (hr:r*p2 k≤p2 (n - 2)) (F:Fld) (x y:Int) :
  stp g n k (mk n F x y)=mk (n - 1) (it g (2 ^ k) F) (x+p2 (n - 2)) (y+p2 (n - 2)):=by
 obtain⟨n,rfl⟩:∃ m,n=m+2:=⟨n - 2,o_⟩;simp only [Nat.add_sub_cancel] at hr ⊢;unfold stp;have e1:=p2_succ n;have e2:=p2_succ (n+1);refine mk_congr _ fun i j a b c d=>?_;rw [show n+2 - 1=n+1 from rfl] at b d;rw [Int.add_assoc x,Int.add_assoc y];have:=it_local hg (F:=cell (n+2) (mk (n+2) F x y)) (H:=F) (x:=0) (y:=0) (u:=x) (v:=y) (L:=p2 (n+2)) (fun i j a b c d=>by rw [Int.zero_add,Int.zero_add];exact cell_mk _ a b c d) (2 ^ k) (i:=p2 n+i) (j:=p2 n+j)
  (by show r*p2 k≤_;omega) (by show _<_ - r*p2 k;rw [show n+2=n+1+1 from rfl,e2];omega) (by show r*p2 k≤_;omega) (by show _<_ - r*p2 k;rw [show n+2=n+1+1 from rfl,e2];omega)
 rw [Int.zero_add,Int.zero_add] at this;exact this
def Tr.q:Tr→Nat→Tr
 | .node a _ _ _,0=>a
 | .node _ b _ _,1=>b
 | .node _ _ c _,2=>c
 | .node _ _ _ d,_+3=>d
 | .leaf v,_=>.leaf v
def g16 (t:Tr) (y x:Nat):Tr:=Tr.q (Tr.q t (2*(y / 2)+x / 2)) (2*(y % 2)+x % 2)
def four4 (f:Nat→Nat→Tr) (y x:Nat):Tr:=.node (f y x) (f y (x+1)) (f (y+1) x) (f (y+1) (x+1))
def ctr (t:Tr):Tr:=.node (Tr.q (Tr.q t 0) 3) (Tr.q (Tr.q t 1) 2) (Tr.q (Tr.q t 2) 1) (Tr.q (Tr.q t 3) 0)
theorem g16_mk (n:Nat) (F:Fld) (x y:Int) {i j:Nat} (hi:i<4) (hj:j<4):g16 (mk (n+2) F x y) i j=mk n F (x+j*p2 n) (y+i*p2 n):=by
 have e:=p2_succ n;have key:∀ (a b c d:Int),a=c→b=d→mk n F a b=mk n F c d:=by rintro a b c d rfl rfl;rfl
 match i,hi,j,hj with
 | 0,_,0,_|0,_,1,_|0,_,2,_|0,_,3,_|1,_,0,_|1,_,1,_|1,_,2,_|1,_,3,_|2,_,0,_|2,_,1,_|2,_,2,_|2,_,3,_|3,_,0,_|3,_,1,_|3,_,2,_|3,_,3,_ =>refine key _ _ _ _ ?_ ?_<;>(try simp only [e])<;>(try simp)<;>(try omega)
theorem four_mk {n:Nat} {F:Fld} {f:Nat→Nat→Tr} {a b:Int} {i j:Nat} (h:∀ u v,u≤1→v≤1→f (i+u) (j+v)=mk n F (a+v*p2 n) (b+u*p2 n)):four4 f i j=mk (n+1) F a b:=by have h00:=h 0 0 o_ o_;have h01:=h 0 1 o_ o_;have h10:=h 1 0 o_ o_;have h11:=h 1 1 o_ o_;simp only [Nat.add_zero,Int.natCast_zero,Int.zero_mul,Int.add_zero,Int.natCast_one,Int.one_mul] at h00 h01 h10 h11;unfold four4;rw [h00,h01,h10,h11];rfl
theorem ctr_mk (n:Nat) (F:Fld) (x y:Int):ctr (mk (n+2) F x y)=mk (n+1) F (x+p2 n) (y+p2 n):=by
 have e:=p2_succ n;have key:∀ (a b c d:Int),a=c→b=d→mk n F a b=mk n F c d:=by rintro a b c d rfl rfl;rfl
 show Tr.node (mk n F _ _) (mk n F _ _) (mk n F _ _) (mk n F _ _)=Tr.node (mk n F _ _) (mk n F _ _) (mk n F _ _) (mk n F _ _);congr 1<;>refine key _ _ _ _ ?_ ?_<;>omega
def part9 (t:Tr):Nat→Nat→Tr:=four4 (g16 t)
def inner9 (g:Fld→Fld) (n k:Nat) (two:Bool) (t:Tr) (i j:Nat):Tr:=if two then stp g (n - 1) (k - 1) (part9 t i j) else ctr (part9 t i j)
def out4 (g:Fld→Fld) (n k:Nat) (two:Bool) (t:Tr):Nat→Nat→Tr:=four4 (inner9 g n k two t)
def res4 (g:Fld→Fld) (n k:Nat) (two:Bool) (t:Tr) (i j:Nat):Tr:=stp g (n - 1) (if two then k - 1 else k) (out4 g n k two t i j)
theorem hash {r:Int} {g:Fld→Fld} (hg:Local r g) {n k:Nat} {two:Bool} {t:Tr} (hn:3≤n) (ht:Full n t) (h1:two=true→1≤k∧r*p2 (k - 1)≤p2 (n - 3)) (h2:two=false→r*p2 k≤p2 (n - 3)) :
  four4 (res4 g n k two t) 0 0=stp g n k t:=by
 obtain⟨n,rfl⟩:∃ m,n=m+3:=⟨n - 3,o_⟩;simp only [Nat.add_sub_cancel] at h1 h2;have e0:=p2_succ n;have e1:=p2_succ (n+1);obtain⟨F,rfl⟩:∃ F,t=mk (n+3) F 0 0:=⟨_,(mk_cell _ ht).symm⟩;have hp:∀ i j,i<3→j<3→part9 (mk (n+3) F 0 0) i j=mk (n+2) F (j*p2 (n+1)) (i*p2 (n+1)):=by intro i j hi hj;refine four_mk fun u v hu hv=>?_;rw [g16_mk (n+1) F 0 0 o_ o_,Int.zero_add,Int.zero_add,Int.natCast_add,Int.natCast_add,Int.add_mul,Int.add_mul]
 cases two with
 | true =>
  obtain⟨hk,hr⟩:=h1 rfl;have hin:∀ i j,i<3→j<3→inner9 g (n+3) k true (mk (n+3) F 0 0) i j=mk (n+1) (it g (2 ^ (k - 1)) F) (j*p2 (n+1)+p2 n) (i*p2 (n+1)+p2 n):=by intro i j hi hj;show stp g (n+2) (k - 1) _=_;rw [hp i j hi hj,stp_mk hg o_ (by exact hr)];rfl
  have hout:∀ i j,i<2→j<2→out4 g (n+3) k true (mk (n+3) F 0 0) i j=mk (n+2) (it g (2 ^ (k - 1)) F) (j*p2 (n+1)+p2 n) (i*p2 (n+1)+p2 n):=by intro i j hi hj;refine four_mk fun u v hu hv=>?_;rw [hin _ _ o_ o_,Int.natCast_add,Int.natCast_add,Int.add_mul,Int.add_mul];congr 1<;>omega
  have hres:∀ i j,i<2→j<2→res4 g (n+3) k true (mk (n+3) F 0 0) i j=mk (n+1) (it g (2 ^ (k - 1)) (it g (2 ^ (k - 1)) F)) (p2 (n+1)+j*p2 (n+1)) (p2 (n+1)+i*p2 (n+1)):=by intro i j hi hj;show stp g (n+2) (k - 1) _=_;rw [hout i j hi hj,stp_mk hg o_ (by exact hr)];show mk (n+1) _ (_+p2 n) (_+p2 n)=_;congr 1<;>omega
  have e:(2:Nat) ^ k=2 ^ (k - 1)+2 ^ (k - 1):=by obtain⟨m,rfl⟩:∃ m,k=m+1:=⟨k - 1,o_⟩;rw [Nat.pow_succ,Nat.add_sub_cancel];omega
  have hk2:r*p2 k≤p2 (n+3 - 2):=by have h3:p2 k=p2 (k - 1)+p2 (k - 1):=(by unfold p2;rw [e];omega);rw [h3,Int.mul_add];show _≤p2 (n+1);omega
  rw [stp_mk hg o_ hk2,e,it_add];refine (four_mk (n:=n+1) fun u v hu hv=>?_);rw [Nat.zero_add,Nat.zero_add,hres u v o_ o_];show _=mk (n+1) _ (0+p2 (n+1)+_) (0+p2 (n+1)+_);rw [Int.zero_add]
 | false =>
  have hr:=h2 rfl;have hin:∀ i j,i<3→j<3→inner9 g (n+3) k false (mk (n+3) F 0 0) i j=mk (n+1) F (j*p2 (n+1)+p2 n) (i*p2 (n+1)+p2 n):=by intro i j hi hj;show ctr _=_;rw [hp i j hi hj,ctr_mk]
  have hout:∀ i j,i<2→j<2→out4 g (n+3) k false (mk (n+3) F 0 0) i j=mk (n+2) F (j*p2 (n+1)+p2 n) (i*p2 (n+1)+p2 n):=by intro i j hi hj;refine four_mk fun u v hu hv=>?_;rw [hin _ _ o_ o_,Int.natCast_add,Int.natCast_add,Int.add_mul,Int.add_mul];congr 1<;>omega
  have hres:∀ i j,i<2→j<2→res4 g (n+3) k false (mk (n+3) F 0 0) i j=mk (n+1) (it g (2 ^ k) F) (p2 (n+1)+j*p2 (n+1)) (p2 (n+1)+i*p2 (n+1)):=by intro i j hi hj;show stp g (n+2) k _=_;rw [hout i j hi hj,stp_mk hg o_ (by exact hr)];show mk (n+1) _ (_+p2 n) (_+p2 n)=_;congr 1<;>omega
  have hk2:r*p2 k≤p2 (n+3 - 2):=by show _≤p2 (n+1);have:=p2_pos n;omega
  rw [stp_mk hg o_ hk2];refine (four_mk (n:=n+1) fun u v hu hv=>?_);rw [Nat.zero_add,Nat.zero_add,hres u v o_ o_];show _=mk (n+1) _ (0+p2 (n+1)+_) (0+p2 (n+1)+_);rw [Int.zero_add]
end Go.Proofs.Ev
end
section
namespace Go.Proofs.Qs
open Ev
def Tr.ok (s:Int):Tr→Prop
 | .leaf v=>0≤v∧v<s
 | .node a b c d=>a.ok s∧b.ok s∧c.ok s∧d.ok s
def Is (s:Int) (ns:List K4) (n:Nat) (id:Int) (t:Tr):Prop:=Kn s ns id∧tr s ns id=t∧Full n t∧t.ok s
theorem Is.grow {s:Int} {ns ms:List K4} {n:Nat} {id:Int} {t:Tr} (h:Is s ns n id t) (hp:ns <+: ms):Is s ms n id t:=by obtain⟨xs,rfl⟩:=hp;obtain⟨hk,ht,hf⟩:=h;refine⟨⟨hk.1,by have:=hk.2;simp;omega⟩,?_,hf⟩;rw [tr_app hk.2,ht]
theorem Is.lvl {s:Int} {ns:List K4} (hg:GoodQ s ns) {n:Nat} {id:Int} {t:Tr} (h:Is s ns n id t):lvl s (levs s ns) id=n:=by obtain⟨hk,ht,hf,_⟩:=h;rw [lvl_ht hg ns.length (by have:=hk.2;omega) hk,ht,full_ht n hf]
theorem Is.inj {s:Int} {ns:List K4} (hg:GoodQ s ns) {n m:Nat} {x y:Int} {t:Tr} (h:Is s ns n x t) (h':Is s ns m y t):x=y :=
 tr_inj hg ns.length (by have:=h.1.2;omega) h.1 h'.1 (h.2.1.trans h'.2.1.symm)
theorem good_full {s:Int} {ns:List K4} (h:GoodQ s ns):∀ (m:Nat) {x:Int},x<s+m→Kn s ns x→Full (tr s ns x).ht (tr s ns x)∧(tr s ns x).ok s
 | 0,x,hx,kx=>by rw [tr_leaf o_];exact⟨trivial,kx.1,o_⟩
 | m+1,x,hx,kx=>by
  rcases kx.cases with ⟨h0,hxs⟩|⟨i,k,rfl,hk⟩
  ·rw [tr_leaf hxs];exact⟨trivial,h0,hxs⟩
  ·obtain⟨ka,kb,kc,kd⟩:=good_kids h hk;obtain⟨_,_,_,lb,lc,ld⟩:=good_lvl h hk;have hi:=(List.getElem?_eq_some_iff.1 hk).1;have na:Kn s ns k.a:=⟨ka.1,o_⟩;have nb:Kn s ns k.b:=⟨kb.1,o_⟩;have nc:Kn s ns k.c:=⟨kc.1,o_⟩;have nd:Kn s ns k.d:=⟨kd.1,o_⟩;have fa:=good_full h m (x:=k.a) o_ na;have fb:=good_full h m (x:=k.b) o_ nb;have fc:=good_full h m (x:=k.c) o_ nc;have fd:=good_full h m (x:=k.d) o_ nd;rw [lvl_ht h ns.length (by have:=nb.2;omega) nb,lvl_ht h ns.length (by have:=na.2;omega) na] at lb;rw [lvl_ht h ns.length (by have:=nc.2;omega) nc,lvl_ht h ns.length (by have:=na.2;omega) na] at lc;rw [lvl_ht h ns.length (by have:=nd.2;omega) nd,lvl_ht h ns.length (by have:=na.2;omega) na] at ld;rw [tr_node h hk];refine⟨⟨fa.1,?_,?_,?_⟩,fa.2,fb.2,fc.2,fd.2⟩;·rw [show (tr s ns k.a).ht=(tr s ns k.b).ht by omega];exact fb.1
   ·rw [show (tr s ns k.a).ht=(tr s ns k.c).ht by omega];exact fc.1
   ·rw [show (tr s ns k.a).ht=(tr s ns k.d).ht by omega];exact fd.1
theorem Is.of_lvl {s:Int} {ns:List K4} (hg:GoodQ s ns) {id:Int} {n:Nat} (h:Go.Proofs.Qs.lvl s (levs s ns) id=n):Is s ns n id (tr s ns id):=by have hk:Kn s ns id:=(kn_lvl hg id).1 o_;have hf:=good_full hg ns.length (x:=id) (by have:=hk.2;omega) hk;rw [lvl_ht hg ns.length (by have:=hk.2;omega) hk] at h;refine⟨hk,rfl,?_,hf.2⟩;rw [show n=(tr s ns id).ht by omega];exact hf.1
theorem Is.leaf {s:Int} {ns:List K4} {v:Int} (h:0≤v) (h':v<s):Is s ns 0 v (.leaf v):=⟨⟨h,o_⟩,tr_leaf h',trivial,h,h'⟩
theorem Is.zero {s:Int} {ns:List K4} (hg:GoodQ s ns) {v:Int} {t:Tr} (h:Is s ns 0 v t):0≤v∧v<s∧t=.leaf v:=by
 obtain⟨hk,ht,hf,hok⟩:=h;rcases hk.cases with ⟨h0,h1⟩|⟨i,k,rfl,hi⟩
 ·exact⟨h0,h1,by rw [← ht,tr_leaf h1]⟩
 ·rw [tr_node hg hi] at ht;subst ht;exact hf.elim
theorem Is.kids {s:Int} {ns:List K4} (hg:GoodQ s ns) {n:Nat} {id:Int} {t:Tr} (h:Is s ns (n+1) id t) :
  ∃ i k,id=s+(i:Nat)∧ns[i]?=some k∧Is s ns n k.a (Tr.q t 0)∧Is s ns n k.b (Tr.q t 1)∧Is s ns n k.c (Tr.q t 2)∧Is s ns n k.d (Tr.q t 3)∧t=.node (Tr.q t 0) (Tr.q t 1) (Tr.q t 2) (Tr.q t 3):=by
 obtain⟨hk,ht,hf,hok⟩:=h;rcases hk.cases with ⟨h0,h1⟩|⟨i,k,rfl,hi⟩
 ·rw [tr_leaf h1] at ht;subst ht;exact hf.elim
 ·obtain⟨ka,kb,kc,kd⟩:=good_kids hg hi;have hl:=(List.getElem?_eq_some_iff.1 hi).1;rw [tr_node hg hi] at ht;subst ht;exact⟨i,k,rfl,hi,⟨⟨ka.1,o_⟩,rfl,hf.1,hok.1⟩,⟨⟨kb.1,o_⟩,rfl,hf.2.1,hok.2.1⟩,⟨⟨kc.1,o_⟩,rfl,hf.2.2.1,hok.2.2.1⟩,⟨⟨kd.1,o_⟩,rfl,hf.2.2.2,hok.2.2.2⟩,rfl⟩
theorem Is.fits {s:Int} {ns:List K4} (hg:GoodQ s ns) {n:Nat} (hn:n<256) {a b c d:Int} {ta tb tc td:Tr} (ha:Is s ns n a ta) (hb:Is s ns n b tb) (hc:Is s ns n c tc) (hd:Is s ns n d td):Fits s ns ⟨a,b,c,d⟩:=by have la:=ha.lvl hg;have lb:=hb.lvl hg;have lc:=hc.lvl hg;have ld:=hd.lvl hg;unfold Fits;simp only;rw [la,lb,lc,ld];omega
def room (s:Int) (ns:List K4) (L:List Tr):Prop:=ns.length+(L.filter fun t=>decide (t∉trs s ns)).length≤90000
theorem room.len {s:Int} {ns:List K4} {L:List Tr} (h:room s ns L):ns.length≤90000:=by unfold room at h;omega
theorem room.of_len {s:Int} {ns:List K4} {L:List Tr} (h:ns.length+L.length≤90000):room s ns L:=by have:=List.length_filter_le (fun t=>decide (t∉trs s ns)) L;unfold room;omega
theorem trs_mem {s:Int} {ns:List K4} (hg:GoodQ s ns) {i:Nat} {k:K4} (hk:ns[i]?=some k):(trs s ns)[i]?=some (.node (tr s ns k.a) (tr s ns k.b) (tr s ns k.c) (tr s ns k.d)):=by have h:=tr_node hg hk;have hi:=(List.getElem?_eq_some_iff.1 hk).1;unfold tr tget at h;rw [if_neg o_,show (s+(i:Int) - s).toNat=i by omega,List.getD_eq_getElem?_getD,List.getElem?_eq_getElem (by rw [trs_length];exact hi)] at h;rw [List.getElem?_eq_getElem (by rw [trs_length];exact hi)];exact congrArg some h
theorem filter_drop {α:Type} [DecidableEq α] {l m:List α} {x:α} (hx:x∈l) (hm:x∉m):(l.filter fun t=>decide (t∉m++[x])).length+1≤(l.filter fun t=>decide (t∉m)).length:=by
 have hle:∀ l:List α,(l.filter fun t=>decide (t∉m++[x])).length≤(l.filter fun t=>decide (t∉m)).length:=by
  intro l
  induction l with
  | nil=>simp
  | cons y l ih =>
   simp only [List.filter_cons];by_cases h1:y∉m++[x];·
    have h2:y∉m:=fun h=>h1 (by simp [h]);simp [h1,h2] at ih ⊢;exact ih
   ·have:decide (y∉m++[x])=false:=(by simpa using h1);rw [this];simp only [Bool.false_eq_true,if_false];split;·simp only [List.length_cons];omega
    ·exact ih
 induction l with
 | nil=>cases hx
 | cons y l ih =>
  simp only [List.filter_cons];by_cases hy:y=x;·
   subst hy;have h1:decide (y∉m++[y])=false:=by simp
   have h2:decide (y∉m)=true:=(by simpa using hm);rw [h1,h2];simp only [Bool.false_eq_true,if_false,if_true,List.length_cons];have:=hle l;omega
  ·have hx':x∈l:=by
    rw [List.mem_cons] at hx;rcases hx with h|h
    ·exact absurd h.symm hy
    ·exact h
   have:=ih hx';by_cases h1:y∉m;·
    have h2:decide (y∉m++[x])=true:=(by simp [h1,hy]);have h3:decide (y∉m)=true:=(by simpa using h1);rw [h2,h3];simp only [if_true,List.length_cons];omega
   ·have h2:decide (y∉m++[x])=false:=(by simp at h1;simp [h1]);have h3:decide (y∉m)=false:=(by simpa using h1);rw [h2,h3];simpa using this
theorem join_room {s:Int} {ns:List K4} (hg:GoodQ s ns) {L:List Tr} (hr:room s ns L) {n:Nat} (hn:n<256) {a b c d:Int} {ta tb tc td:Tr} (ha:Is s ns n a ta) (hb:Is s ns n b tb) (hc:Is s ns n c tc) (hd:Is s ns n d td)
  (hL:Tr.node ta tb tc td∈L):∃ id ms,join s ns ⟨a,b,c,d⟩=((id,0),ms)∧GoodQ s ms∧ns <+: ms∧room s ms L∧Is s ms (n+1) id (.node ta tb tc td):=by
 have hf:=Is.fits hg hn ha hb hc hd;have h0:join s ns ⟨a,b,c,d⟩=joinIn s ns ⟨a,b,c,d⟩:=by unfold join;rw [if_neg,if_neg (by simpa using hf)];have la:=ha.lvl hg;have lb:=hb.lvl hg;have lc:=hc.lvl hg;have ld:=hd.lvl hg;simp only [la,lb,lc,ld];omega
 have hfull:Full (n+1) (.node ta tb tc td):=⟨ha.2.2.1,hb.2.2.1,hc.2.2.1,hd.2.2.1⟩;have hok:(Tr.node ta tb tc td).ok s:=⟨ha.2.2.2,hb.2.2.2,hc.2.2.2,hd.2.2.2⟩;cases hi:ns.idxOf? ⟨a,b,c,d⟩ with
 | some i =>
  obtain⟨hlt,he,_⟩:=List.idxOf?_eq_some_iff.1 hi;have hk:ns[i]?=some ⟨a,b,c,d⟩:=by rw [List.getElem?_eq_getElem hlt,he]
  refine⟨s+i,ns,by rw [h0,joinIn_hit hi],hg,List.prefix_refl _,hr,⟨by have:=hg.1;omega,o_⟩,?_,hfull,hok⟩;rw [tr_node hg hk,ha.2.1,hb.2.1,hc.2.1,hd.2.1]
 | none =>
  have hnm:(⟨a,b,c,d⟩:K4)∉ns:=List.idxOf?_eq_none_iff.1 hi;have hT:Tr.node ta tb tc td∉trs s ns:=by
   intro hm;obtain⟨i,hi',he⟩:=List.mem_iff_getElem.1 hm;rw [trs_length] at hi';have h1:Kn s ns (s+i):=⟨by have:=hg.1;omega,o_⟩;have hk:ns[i]?=some ns[i]:=List.getElem?_eq_getElem hi';have h2:=trs_mem hg hk;rw [List.getElem?_eq_getElem (by rw [trs_length];exact hi'),he] at h2;injection h2 with h2
   injection h2 with e1 e2 e3 e4
   obtain⟨ka,kb,kc,kd⟩:=good_kids hg hk;have f1:=tr_inj hg ns.length (x:=a) (y:=(ns[i]).a) (by have:=ha.1.2;omega) ha.1 ⟨ka.1,o_⟩ (ha.2.1.trans e1);have f2:=tr_inj hg ns.length (x:=b) (y:=(ns[i]).b) (by have:=hb.1.2;omega) hb.1 ⟨kb.1,o_⟩ (hb.2.1.trans e2);have f3:=tr_inj hg ns.length (x:=c) (y:=(ns[i]).c) (by have:=hc.1.2;omega) hc.1 ⟨kc.1,o_⟩ (hc.2.1.trans e3);have f4:=tr_inj hg ns.length (x:=d) (y:=(ns[i]).d) (by have:=hd.1.2;omega) hd.1 ⟨kd.1,o_⟩ (hd.2.1.trans e4);apply hnm;rw [f1,f2,f3,f4];exact List.getElem_mem hi'
  have hlt:ns.length<100000:=by have:1≤(L.filter fun t=>decide (t∉trs s ns)).length:=List.length_pos_of_mem (List.mem_filter.2 ⟨hL,by simpa using hT⟩);unfold room at hr;omega
  have hg':=hg.snoc hf hnm hlt;have hpre:ns <+: ns++[⟨a,b,c,d⟩]:=List.prefix_append _ _;have ha':=ha.grow hpre;have hb':=hb.grow hpre;have hc':=hc.grow hpre;have hd':=hd.grow hpre;refine⟨s+ns.length,ns++[⟨a,b,c,d⟩],by rw [h0,joinIn_new hi hlt],hg',hpre,?_,⟨by have:=hg.1;omega,by simp;omega⟩,?_,hfull,hok⟩;·
   unfold room at hr ⊢;rw [trs_snoc,show (Tr.node (tget s (trs s ns) a) (tget s (trs s ns) b) (tget s (trs s ns) c) (tget s (trs s ns) d))=.node ta tb tc td by rw [← ha.2.1,← hb.2.1,← hc.2.1,← hd.2.1];rfl];have:=filter_drop hL hT;simp only [List.length_append,List.length_cons,List.length_nil];omega
  ·rw [tr_node hg' (i:=ns.length) (k:=⟨a,b,c,d⟩) i_,ha'.2.1,hb'.2.1,hc'.2.1,hd'.2.1]
end Go.Proofs.Qs
namespace Go.Proofs.Ev
open Qs
def subs:Tr→List Tr
 | .leaf _=>[]
 | .node a b c d=>subs a++subs b++subs c++subs d++[.node a b c d]
def i9:List (Nat×Nat):=[(0,0),(0,1),(0,2),(1,0),(1,1),(1,2),(2,0),(2,1),(2,2)]
def i4:List (Nat×Nat):=[(0,0),(0,1),(1,0),(1,1)]
def need (g:Fld→Fld) (lost:Nat):Nat→Nat→Tr→List Tr
 | 0,_,_=>[]
 | n+1,k,t =>
  if n+1≤lost then subs (stp g (n+1) k t)
  else
   (i9.flatMap fun p=>part9 t p.1 p.2::if k=n+1 - lost then need g lost n (k - 1) (part9 t p.1 p.2) else [ctr (part9 t p.1 p.2)]) ++
   (i4.flatMap fun p=>out4 g (n+1) k (decide (k=n+1 - lost)) t p.1 p.2::need g lost n (if k=n+1 - lost then k - 1 else k) (out4 g (n+1) k (decide (k=n+1 - lost)) t p.1 p.2)) ++
   [stp g (n+1) k t]
def rowL (m:Nat) (F:Fld) (ox y:Int):List Int:=(List.range m).map fun (x:Nat)=>F (ox+x) y
theorem rowL_length (m:Nat) (F:Fld) (ox y:Int):(rowL m F ox y).length=m:=by simp [rowL]
theorem rowL_get {m:Nat} {F:Fld} {ox y:Int} {x:Nat} (h:x<m):(rowL m F ox y)[x]?=some (F (ox+x) y):=by simp [rowL,h]
structure Rule where
 S:Int
 hood:List (Int×Int)
 nodes:List (Int×List Int)
def before (p q:Int×Int):Bool:=decide (p.2<q.2∨p.2=q.2∧p.1<q.1)
def near2 (p:Int×Int):Bool:=decide (-2≤p.1∧p.1≤2∧-2≤p.2∧p.2≤2)
def hoodAt (l:List (Int×Int)) (i:Nat):Bool:=near2 (l.getD i (0,0)) && (decide (i=0) || before (l.getD (i - 1) (0,0)) (l.getD i (0,0)))
def hoodR (l:List (Int×Int)):Bool:=decide (1≤l.length) && decide (l.length≤25) && (List.range l.length).all (hoodAt l)
def levelAt (r:Rule) (k:Int):Int:=(r.nodes.getD k.toNat (0,[])).1
def nextAt (r:Rule) (k s:Int):Int:=(r.nodes.getD k.toNat (0,[])).2.getD s.toNat 0
def entOK (r:Rule) (lv:Int) (i:Nat) (k:Int):Bool:=decide (0≤k) && (if lv=1 then decide (k<r.S) else true) && (if 1<lv then decide (k<i∧levelAt r k=lv - 1) else true)
def nodeOK (r:Rule) (i:Nat):Bool :=
 decide (1≤(r.nodes.getD i (0,[])).1∧(r.nodes.getD i (0,[])).1≤r.hood.length∧(((r.nodes.getD i (0,[])).2.length:Nat):Int)=r.S) && (r.nodes.getD i (0,[])).2.all (entOK r (r.nodes.getD i (0,[])).1 i)
def rightR (r:Rule):Bool:=decide (2≤r.S∧r.S≤8) && hoodR r.hood && decide (1≤r.nodes.length∧r.nodes.length≤4096) && decide (levelAt r (r.nodes.length - 1:Int)=r.hood.length) && (List.range r.nodes.length).all (nodeOK r)
def radMax (r:Int) (p:Int×Int):Int:=max (max (max (max r p.1) (-p.1)) p.2) (-p.2)
def radius (l:List (Int×Int)):Int:=if hoodR l then l.foldl radMax 0 else 0
def down (r:Rule) (ss:List Int):Int:=ss.foldl (fun k s=>nextAt r k s) (r.nodes.length - 1:Int)
def gen (r:Rule) (F:Fld):Fld:=fun x y=>down r (r.hood.map fun p=>F (x+p.1) (y+p.2))
theorem down_snoc (r:Rule) (ss:List Int) (s:Int):down r (ss++[s])=nextAt r (down r ss) s:=by simp [down]
section
variable {r:Rule} (h:rightR r=true)
include h
theorem right_S:2≤r.S∧r.S≤8:=by unfold rightR at h;simp only [Bool.and_eq_true,decide_eq_true_eq] at h;exact h.1.1.1.1
theorem right_hood:hoodR r.hood=true:=by unfold rightR at h;simp only [Bool.and_eq_true,decide_eq_true_eq] at h;exact h.1.1.1.2
theorem right_len:1≤r.nodes.length∧r.nodes.length≤4096:=by unfold rightR at h;simp only [Bool.and_eq_true,decide_eq_true_eq] at h;exact h.1.1.2
theorem right_root:levelAt r (r.nodes.length - 1:Int)=r.hood.length:=by unfold rightR at h;simp only [Bool.and_eq_true,decide_eq_true_eq] at h;exact h.1.2
theorem right_node {i:Nat} (hi:i<r.nodes.length):nodeOK r i=true:=by unfold rightR at h;simp only [Bool.and_eq_true,decide_eq_true_eq,List.all_eq_true,List.mem_range] at h;exact h.2 i hi
theorem right_hlen:1≤r.hood.length∧r.hood.length≤25:=by have:=right_hood h;unfold hoodR at this;simp only [Bool.and_eq_true,decide_eq_true_eq] at this;exact this.1
theorem down_at:∀ {ss:List Int},(∀ s∈ss,0≤s∧s<r.S)→ss.length≤r.hood.length →
  (ss.length<r.hood.length→0≤down r ss∧down r ss<r.nodes.length∧levelAt r (down r ss)=r.hood.length - ss.length)∧(ss.length=r.hood.length→0≤down r ss∧down r ss<r.S):=by
 intro ss;generalize hm:ss.length=m
 induction m generalizing ss with
 | zero =>intro _ _;obtain rfl:=List.eq_nil_of_length_eq_zero hm;have hl:=right_len h;have hh:=right_hlen h;have hr:=right_root h;have e:down r []=(r.nodes.length - 1:Int):=rfl;rw [e];exact⟨fun _=>⟨o_,o_,by rw [hr];omega⟩,fun h0=>by omega⟩
 | succ m ih =>
  intro hs hle;rcases List.eq_nil_or_concat ss with rfl|⟨l,s,rfl⟩
  ·simp at hm
  ·rw [List.concat_eq_append] at hs hm ⊢;have hm':l.length=m:=(by simpa using hm);obtain⟨h1,_⟩:=ih hm' (fun x hx=>hs x (by simp [hx])) o_;obtain⟨a1,a2,a3⟩:=h1 o_;have hs':=hs s i_;rw [down_snoc];generalize down r l=k at a1 a2 a3;have hn:=right_node h (i:=k.toNat) o_;unfold nodeOK at hn;unfold levelAt at a3;unfold nextAt;generalize r.nodes.getD k.toNat (0,[])=x at a3 hn;rw [Bool.and_eq_true,decide_eq_true_eq,List.all_eq_true] at hn;obtain⟨⟨b1,b2,b3⟩,b4⟩:=hn;have hmem:x.2.getD s.toNat 0∈x.2:=by
    rw [List.getD_eq_getElem?_getD,List.getElem?_eq_getElem o_];exact List.getElem_mem _
   have b5:=b4 _ hmem;generalize x.2.getD s.toNat 0=z at b5;unfold entOK at b5;rw [Bool.and_eq_true,Bool.and_eq_true,decide_eq_true_eq] at b5;obtain⟨⟨c1,c2⟩,c3⟩:=b5;refine⟨fun hlt=>?_,fun heq=>?_⟩;·
    rw [if_pos o_,decide_eq_true_eq] at c3;exact⟨c1,o_,by rw [c3.2];omega⟩
   ·rw [if_pos o_,decide_eq_true_eq] at c2;exact⟨c1,c2⟩
end
theorem radMax_le {a b:Int} {p:Int×Int}:radMax a p≤b↔a≤b∧p.1≤b∧-p.1≤b∧p.2≤b∧-p.2≤b:=by unfold radMax;omega
theorem fold_rad:∀ (l:List (Int×Int)) (a:Int),a≤l.foldl radMax a∧∀ p∈l,p.1≤l.foldl radMax a∧-p.1≤l.foldl radMax a∧p.2≤l.foldl radMax a∧-p.2≤l.foldl radMax a
 | [],a=>⟨Int.le_refl _,i_⟩
 | q::l,a=>by
  obtain⟨h1,h2⟩:=fold_rad l (radMax a q);have h3:=(radMax_le (a:=a) (b:=radMax a q) (p:=q)).1 (Int.le_refl _);rw [List.foldl_cons];refine⟨o_,fun p hp=>?_⟩;rw [List.mem_cons] at hp;rcases hp with rfl|hp
  ·omega
  ·exact h2 p hp
theorem fold_rad_le:∀ (l:List (Int×Int)) (a b:Int),a≤b→(∀ p∈l,p.1≤b∧-p.1≤b∧p.2≤b∧-p.2≤b)→l.foldl radMax a≤b
 | [],a,b,h,_=>h
 | q::l,a,b,h,hp=>by rw [List.foldl_cons];refine fold_rad_le l _ _ (radMax_le.2 ⟨h,hp q i_⟩) fun p hm=>hp p (by simp [hm])
theorem radius_le (l:List (Int×Int)):0≤radius l∧radius l≤2:=by
 unfold radius;split;·
  rename_i h;refine⟨(fold_rad l 0).1,fold_rad_le l 0 2 o_ fun p hp=>?_⟩;unfold hoodR at h;simp only [Bool.and_eq_true,decide_eq_true_eq,List.all_eq_true,List.mem_range] at h;obtain⟨i,hi,rfl⟩:=List.mem_iff_getElem.1 hp;have:=h.2 i hi;unfold hoodAt near2 at this;simp only [Bool.and_eq_true,decide_eq_true_eq] at this;have h3:=this.1;rw [List.getD_eq_getElem?_getD,List.getElem?_eq_getElem hi] at h3;simp only [Option.getD_some] at h3;omega
 ·omega
theorem hood_in {l:List (Int×Int)} (h:hoodR l=true) {p:Int×Int} (hp:p∈l):-radius l≤p.1∧p.1≤radius l∧-radius l≤p.2∧p.2≤radius l:=by have:=(fold_rad l 0).2 p hp;unfold radius;rw [h,if_pos rfl];omega
theorem gen_local {r:Rule} (h:rightR r=true):Local (radius r.hood) (gen r):=by intro F H x y u v hF;unfold gen;congr 1;refine List.map_congr_left fun p hp=>?_;have:=hood_in (right_hood h) hp;exact hF _ _ this.1 this.2.1 this.2.2.1 this.2.2.2
theorem gen_ok {r:Rule} (h:rightR r=true) {F:Fld} {x y:Int} (hF:∀ i j,-radius r.hood≤i→i≤radius r.hood→-radius r.hood≤j→j≤radius r.hood→0≤F (x+i) (y+j)∧F (x+i) (y+j)<r.S):0≤gen r F x y∧gen r F x y<r.S:=by refine (down_at h (ss:=r.hood.map fun p=>F (x+p.1) (y+p.2)) (fun s hs=>?_) i_).2 i_;obtain⟨p,hp,rfl⟩:=List.mem_map.1 hs;have:=hood_in (right_hood h) hp;exact hF _ _ this.1 this.2.1 this.2.2.1 this.2.2.2
theorem cell_ok {s:Int}:∀ (n:Nat) {t:Tr},Full n t→t.ok s→∀ {x y:Int},0≤x→x<p2 n→0≤y→y<p2 n→0≤cell n t x y∧cell n t x y<s
 | 0,.leaf v,_,hv,x,y,_,_,_,_=>hv
 | 0,.node _ _ _ _,h,_,_,_,_,_,_,_=>h.elim
 | n+1,.leaf _,h,_,_,_,_,_,_,_=>h.elim
 | n+1,.node a b c d,h,ho,x,y,h1,h2,h3,h4=>by
  have hp:=p2_succ n;show 0≤(if y<p2 n then (if x<p2 n then _ else _) else _)∧(if y<p2 n then (if x<p2 n then _ else _) else _)<s;split;·
   split;·exact cell_ok n h.1 ho.1 h1 o_ h3 o_
   ·exact cell_ok n h.2.1 ho.2.1 o_ o_ h3 o_
  ·split;·exact cell_ok n h.2.2.1 ho.2.2.1 h1 o_ o_ o_
   ·exact cell_ok n h.2.2.2 ho.2.2.2 o_ o_ o_ o_
end Go.Proofs.Ev
end
section
namespace Go.Proofs.Ev
open Qs
def lostOf (r:Int):Nat:=(max r 1).toNat+1
theorem lost_le {r:Int} (h0:0≤r) (h2:r≤2):2≤lostOf r∧lostOf r≤3:=by unfold lostOf;omega
theorem margin {r:Int} (h0:0≤r) (h2:r≤2) {n k:Nat} (hn:lostOf r≤n) (hk:k≤n - lostOf r):r*p2 k≤p2 (n - 2):=by
 have h1:r≤p2 (lostOf r - 2):=by
  unfold lostOf;rcases (show r=0∨r=1∨r=2 by omega) with rfl|rfl|rfl
  ·exact Int.le_of_lt (p2_pos _)
  ·exact Int.le_refl _
  ·exact Int.le_refl _
 have h3:p2 (lostOf r - 2)*p2 k=p2 (lostOf r - 2+k):=by unfold p2;rw [Nat.pow_add,Int.natCast_mul]
 have h4:=Int.mul_le_mul_of_nonneg_right h1 (Int.le_of_lt (p2_pos k));rw [h3] at h4;refine Int.le_trans h4 (p2_le ?_);unfold lostOf at *;omega
section
variable {g:Fld→Fld} {lost n k:Nat} {t:Tr}
theorem mem_i9 {y x:Nat} (hy:y<3) (hx:x<3):(y,x)∈i9:=by
 unfold i9;have:y=0∨y=1∨y=2:=o_
 have:x=0∨x=1∨x=2:=o_
 rcases ‹y=0∨_› with rfl|rfl|rfl<;>rcases ‹x=0∨_› with rfl|rfl|rfl<;>simp
theorem mem_i4 {y x:Nat} (hy:y<2) (hx:x<2):(y,x)∈i4:=by
 unfold i4;have:y=0∨y=1:=o_
 have:x=0∨x=1:=o_
 rcases ‹y=0∨_› with rfl|rfl<;>rcases ‹x=0∨_› with rfl|rfl<;>simp
theorem need_part (h:lost<n+1) {y x:Nat} (hy:y<3) (hx:x<3):part9 t y x∈need g lost (n+1) k t:=by rw [need,if_neg o_];simp only [List.mem_append,List.mem_flatMap];exact .inl (.inl ⟨(y,x),mem_i9 hy hx,i_⟩)
theorem need_two (h:lost<n+1) (hk:k=n+1 - lost) {y x:Nat} (hy:y<3) (hx:x<3) {u:Tr} (hu:u∈need g lost n (k - 1) (part9 t y x)):u∈need g lost (n+1) k t:=by rw [need,if_neg o_];simp only [List.mem_append,List.mem_flatMap];exact .inl (.inl ⟨(y,x),mem_i9 hy hx,by rw [if_pos hk];simp [hu]⟩)
theorem need_ctr (h:lost<n+1) (hk:k≠n+1 - lost) {y x:Nat} (hy:y<3) (hx:x<3):ctr (part9 t y x)∈need g lost (n+1) k t:=by rw [need,if_neg o_];simp only [List.mem_append,List.mem_flatMap];exact .inl (.inl ⟨(y,x),mem_i9 hy hx,by rw [if_neg hk];simp⟩)
theorem need_out (h:lost<n+1) {y x:Nat} (hy:y<2) (hx:x<2):out4 g (n+1) k (decide (k=n+1 - lost)) t y x∈need g lost (n+1) k t:=by rw [need,if_neg o_];simp only [List.mem_append,List.mem_flatMap];exact .inl (.inr ⟨(y,x),mem_i4 hy hx,i_⟩)
theorem need_res (h:lost<n+1) {y x:Nat} (hy:y<2) (hx:x<2) {u:Tr} (hu:u∈need g lost n (if k=n+1 - lost then k - 1 else k) (out4 g (n+1) k (decide (k=n+1 - lost)) t y x)):u∈need g lost (n+1) k t:=by rw [need,if_neg o_];simp only [List.mem_append,List.mem_flatMap];exact .inl (.inr ⟨(y,x),mem_i4 hy hx,by simp [hu]⟩)
theorem need_last (h:lost<n+1):stp g (n+1) k t∈need g lost (n+1) k t:=by rw [need,if_neg o_];simp
theorem need_small (h:n+1≤lost):need g lost (n+1) k t=subs (stp g (n+1) k t):=by rw [need,if_pos h]
end
end Go.Proofs.Ev
namespace Go.Proofs.Qs
open Ev
def K4.get (k:K4):Nat→Int
 | 0=>k.a
 | 1=>k.b
 | 2=>k.c
 | _=>k.d
def nodeOf (s:Int) (ns:List K4) (id:Int):K4:=ns.getD (id - s).toNat ⟨0,0,0,0⟩
theorem Is.node {s:Int} {ns:List K4} (hg:GoodQ s ns) {n:Nat} {id:Int} {t:Tr} (h:Is s ns (n+1) id t) :
  s≤id∧ns[(id - s).toNat]?=some (nodeOf s ns id)∧∀ q,q<4→Is s ns n ((nodeOf s ns id).get q) (Tr.q t q):=by
 obtain⟨i,k,rfl,hk,ha,hb,hc,hd,_⟩:=h.kids hg;have e:(s+(i:Int) - s).toNat=i:=o_
 have e2:nodeOf s ns (s+(i:Int))=k:=by unfold nodeOf;rw [e,List.getD_eq_getElem?_getD,hk];rfl
 rw [e,e2];refine⟨o_,hk,fun q hq=>?_⟩
 match q,hq with
 | 0,_=>exact ha
 | 1,_=>exact hb
 | 2,_=>exact hc
 | 3,_=>exact hd
theorem tr_node4 {n:Nat} {t:Tr} (h:Full (n+1) t):t=.node (Tr.q t 0) (Tr.q t 1) (Tr.q t 2) (Tr.q t 3):=by
 match t,h with
 | .node a b c d,_=>rfl
def gid (s:Int) (ns:List K4) (id:Int) (y x:Nat):Int:=(nodeOf s ns ((nodeOf s ns id).get (2*(y / 2)+x / 2))).get (2*(y % 2)+x % 2)
theorem Is.gid {s:Int} {ns:List K4} (hg:GoodQ s ns) {n:Nat} {id:Int} {t:Tr} (h:Is s ns (n+2) id t) {y x:Nat} (hy:y<4) (hx:x<4):Is s ns n (gid s ns id y x) (g16 t y x) :=
 (((h.node hg).2.2 _ o_).node hg).2.2 _ o_
end Go.Proofs.Qs
end
section
namespace Go.Proofs.Mp
open Go
section
variable {P:Program} {T E:TypeId} {q:IntKind} {f1 f2:Field}
def pairV (q:IntKind) (k:Int×Int):Value:=.agg #[.int q k.1,.int q k.2]
theorem run_program (w:World):(Go.program:Sem Program).run P w=.ok P w:=rfl
theorem run_equalIn_pair (hT : P.underlying T = some (.struct #[f1, f2])) (t1 : f1.type = E) (t2 : f2.type = E) (o1 : f1.offset = 0) (o2 : f2.offset = 1) (n1 : f1.name ≠ "_") (n2 : f2.name ≠ "_") (hE : P.underlying E = some (.int q)) (hst : P.stoodInHeld T = false)
  (d:Nat) (x y:Int×Int) (w:World):(Op.equalIn (d+2) T (pairV q x) (pairV q y)).run P w=.ok (decide (x=y)) w:=by
 obtain⟨a,b⟩:=x;obtain⟨c,e⟩:=y;show Sem.run P (Op.equalIn ((d+1)+1) _ _ _) w=_;unfold Op.equalIn pairV;rw [Sem.run_bind,run_underlying' hT];simp only [Result.andThen_ok];simp [run_program,hst,n1,n2,t1,t2,o1,o2,Result.andThen_ok,run_part_int hE,run_equal_int hE];by_cases h1:a=c<;>by_cases h2:b=e<;>simp [h1,h2]
theorem run_checkKey_pair (hT : P.underlying T = some (.struct #[f1, f2])) (t1 : f1.type = E) (t2 : f2.type = E) (o1 : f1.offset = 0) (o2 : f2.offset = 1) (n1 : f1.name ≠ "_") (n2 : f2.name ≠ "_") (hE : P.underlying E = some (.int q))
  (d:Nat) (e:Bool) (x:Int×Int) (w:World):(Instr.checkKey e (d+2) T (pairV q x)).run P w=.ok () w:=by
 obtain⟨a,b⟩:=x;have hc:∀ (x:Int) w,(Instr.checkKey e (d+1) E (.int q x)).run P w=.ok () w:=by intro x w;unfold Instr.checkKey;rw [Sem.run_bind,run_underlying' hE];simp
 show Sem.run P (Instr.checkKey e ((d+1)+1) _ _) w=_;unfold Instr.checkKey pairV;rw [Sem.run_bind,run_underlying' hT];simp only [Result.andThen_ok];simp [n1,n2,t1,t2,o1,o2,Result.andThen_ok,run_part_int hE,hc]
theorem KeysBy.pair (hT : P.underlying T = some (.struct #[f1, f2])) (t1 : f1.type = E) (t2 : f2.type = E) (o1 : f1.offset = 0) (o2 : f2.offset = 1) (n1 : f1.name ≠ "_") (n2 : f2.name ≠ "_") (hE : P.underlying E = some (.int q)) (hst : P.stoodInHeld T = false) : KeysBy P T (pairV q) := by refine KeysBy.deep hT (fun k v=>rfl) (fun a b w=>run_equalIn_pair hT t1 t2 o1 o2 n1 n2 hE hst 9998 a b w) (fun e k w=>run_checkKey_pair hT t1 t2 o1 o2 n1 n2 hE 9998 e k w) fun k=>?_;show Instr.sameBits 10000 (.agg #[_,_]) (.agg #[_,_])=true;unfold Instr.sameBits;simp [sameBits_int]
end
end Go.Proofs.Mp
end
section
namespace Go.Proofs.Hp
open Go Go.RowKit
structure Res where
 holds:World→List Nat→Prop
 keep:∀ {w w':World} {F:List Nat},holds w F→(∀ x∈F,w'.heap[x]?=w.heap[x]?)→holds w' F
 lt:∀ {w:World} {F:List Nat},holds w F→∀ x∈F,x<w.heap.size
def Seps (w:World):List Res→List Nat→Prop
 | [],F=>F=[]
 | P::Ps,F=>∃ F1 F2,P.holds w F1∧Seps w Ps F2∧(∀ x∈F1,x∉F2)∧F=F1++F2
def Has (W w:World) (Ps:List Res):Prop:=∃ F,Seps w Ps F∧Fr [] W w∧∀ x∈F,W.heap.size≤x
theorem Seps.keep {w w':World}:∀ {Ps:List Res} {F:List Nat},Seps w Ps F→(∀ x∈F,w'.heap[x]?=w.heap[x]?)→Seps w' Ps F
 | [],_,h,_=>h
 | P::Ps,F,⟨F1,F2,h1,h2,h3,h4⟩,hk=>⟨F1,F2,P.keep h1 fun x hx=>hk x (by rw [h4];simp [hx]),Seps.keep h2 fun x hx=>hk x (by rw [h4];simp [hx]),h3,h4⟩
theorem Seps.lt {w:World}:∀ {Ps:List Res} {F:List Nat},Seps w Ps F→∀ x∈F,x<w.heap.size
 | [],_,h,x,hx=>by rw [show _=[] from h] at hx;cases hx
 | P::Ps,F,⟨F1,F2,h1,h2,h3,h4⟩,x,hx=>by
  rw [h4,List.mem_append] at hx;rcases hx with hx|hx
  ·exact P.lt h1 x hx
  ·exact Seps.lt h2 x hx
section
variable {W w w':World} {P P' Q:Res} {Ps:List Res}
theorem Has.fr (h:Has W w Ps):Fr [] W w:=by obtain⟨_,_,h,_⟩:=h;exact h
theorem Has.nil (h:Fr [] W w):Has W w []:=⟨[],rfl,h,i_⟩
theorem Has.step (h:Has W w Ps) (hf:Fr [] w w'):Has W w' Ps:=by obtain⟨F,h1,h2,h3⟩:=h;exact⟨F,h1.keep fun x hx=>hf.block x (h1.lt x hx) i_,h2.trans0 hf,h3⟩
theorem Has.drew (h:Has W w Ps) (hd:Drew w w'):Has W w' Ps:=h.step (hd.fr _)
theorem Has.head (h:Has W w (P::Ps)):∃ F,P.holds w F:=by obtain⟨F,⟨F1,F2,h1,_⟩,_⟩:=h;exact⟨F1,h1⟩
theorem Has.new {F:List Nat} (h:Has W w Ps) (hf:Fr [] w w') (hP:P.holds w' F) (hF:∀ x∈F,w.heap.size≤x):Has W w' (P::Ps):=by
 obtain⟨G,h1,h2,h3⟩:=h;refine⟨F++G,⟨F,G,hP,h1.keep fun x hx=>hf.block x (h1.lt x hx) i_,fun x hx hx'=>?_,rfl⟩,h2.trans0 hf,fun x hx=>?_⟩;·have:=hF x hx;have:=h1.lt x hx';omega
 ·rw [List.mem_append] at hx;rcases hx with hx|hx
  ·have:=hF x hx;have:=h2.size;omega
  ·exact h3 x hx
theorem Has.swap (h:Has W w (P::Q::Ps)):Has W w (Q::P::Ps):=by
 obtain⟨F,⟨F1,F2,h1,⟨G1,G2,g1,g2,g3,rfl⟩,h3,rfl⟩,hf,hge⟩:=h;refine⟨G1++(F1++G2),⟨G1,F1++G2,g1,⟨F1,G2,h1,g2,fun x hx hx'=>h3 x hx (by simp [hx']),rfl⟩,fun x hx hx'=>?_,rfl⟩,hf,fun x hx=>hge x ?_⟩;·
  rw [List.mem_append] at hx';rcases hx' with h|h
  ·exact h3 x h (by simp [hx])
  ·exact g3 x hx h
 ·simp only [List.mem_append] at hx ⊢;rcases hx with h|h|h<;>simp [h]
theorem Has.drop (h:Has W w (P::Ps)):Has W w Ps:=by obtain⟨F,⟨F1,F2,h1,h2,h3,rfl⟩,hf,hge⟩:=h;exact⟨F2,h2,hf,fun x hx=>hge x (by simp [hx])⟩
theorem Has.upd (h:Has W w (P::Ps)) {R:Ending→Prop} {Pr:Program} {f:FuncId} {args:Array Value}
  (hc:∀ F,P.holds w F→Calls Pr f args w fun e w'=>R e∧∃ F',P'.holds w' F'∧Fr F w w'∧∀ x∈F',x∈F∨w.heap.size≤x):Calls Pr f args w fun e w'=>R e∧Has W w' (P'::Ps):=by
 obtain⟨F,⟨F1,F2,h1,h2,h3,rfl⟩,hf,hge⟩:=h;refine (hc F1 h1).mono ?_;rintro e w' ⟨hR,F',hP,hf',hs⟩;refine⟨hR,F'++F2,⟨F',F2,hP,h2.keep fun x hx=>hf'.block x (h2.lt x hx) fun hx'=>h3 x hx' hx,fun x hx hx'=>?_,rfl⟩,hf.trans hf' fun x hx=>.inr (hge x (by simp [hx])),fun x hx=>?_⟩;·
  rcases hs x hx with h|h
  ·exact h3 x h hx'
  ·have:=h2.lt x hx';omega
 ·rw [List.mem_append] at hx;rcases hx with hx|hx
  ·rcases hs x hx with h|h
   ·exact hge x (by simp [h])
   ·have:=hf.size;omega
  ·exact hge x (by simp [hx])
theorem Has.turn (h:Has W w (P::Ps)) (hc:∀ F,P.holds w F→∃ F',P'.holds w' F'∧Fr F w w'∧∀ x∈F',x∈F∨w.heap.size≤x):Has W w' (P'::Ps):=by
 obtain⟨F,⟨F1,F2,h1,h2,h3,rfl⟩,hf,hge⟩:=h;obtain⟨F',hP,hf',hs⟩:=hc F1 h1;refine⟨F'++F2,⟨F',F2,hP,h2.keep fun x hx=>hf'.block x (h2.lt x hx) fun hx'=>h3 x hx' hx,fun x hx hx'=>?_,rfl⟩,hf.trans hf' fun x hx=>.inr (hge x (by simp [hx])),fun x hx=>?_⟩;·
  rcases hs x hx with h|h
  ·exact h3 x h hx'
  ·have:=h2.lt x hx';omega
 ·rw [List.mem_append] at hx;rcases hx with hx|hx
  ·rcases hs x hx with h|h
   ·exact hge x (by simp [h])
   ·have:=hf.size;omega
  ·exact hge x (by simp [hx])
theorem Has.look (h:Has W w (P::Ps)) {R:Ending→World→Prop} {Pr:Program} {f:FuncId} {args:Array Value}
  (hc:∀ F,P.holds w F→Calls Pr f args w fun e w'=>R e w'∧Fr [] w w'):Calls Pr f args w fun e w'=>R e w'∧Has W w' (P::Ps):=by
 obtain⟨F,hP⟩:=h.head;exact (hc F hP).mono fun e w' ⟨h1,h2⟩=>⟨h1,h.step h2⟩
end
theorem Seps.perm {w:World} {Ps Qs:List Res} (p:Ps.Perm Qs):∀ {F:List Nat},Seps w Ps F→∃ G,Seps w Qs G∧∀ x,x∈G↔x∈F:=by
 induction p with
 | nil=>exact fun h=>⟨_,h,fun x=>Iff.rfl⟩
 | cons P _ ih =>rintro F ⟨F1,F2,h1,h2,h3,rfl⟩;obtain⟨G,g1,g2⟩:=ih h2;exact⟨F1++G,⟨F1,G,h1,g1,fun x hx hx'=>h3 x hx ((g2 x).1 hx'),rfl⟩,fun x=>by simp [g2]⟩
 | swap P Q l =>
  rintro F ⟨F1,F2,h1,⟨G1,G2,g1,g2,g3,rfl⟩,h3,rfl⟩;refine⟨G1++(F1++G2),⟨G1,F1++G2,g1,⟨F1,G2,h1,g2,fun x hx hx'=>h3 x hx (by simp [hx']),rfl⟩,fun x hx hx'=>?_,rfl⟩,fun x=>?_⟩;·
   rw [List.mem_append] at hx';rcases hx' with h|h
   ·exact h3 x h (by simp [hx])
   ·exact g3 x hx h
  ·simp only [List.mem_append];constructor<;>intro h<;>rcases h with h|h|h<;>simp [h]
 | trans _ _ ih1 ih2 =>intro F h;obtain⟨G,g1,g2⟩:=ih1 h;obtain⟨G',g1',g2'⟩:=ih2 g1;exact⟨G',g1',fun x=>(g2' x).trans (g2 x)⟩
theorem Has.perm {W w:World} {Ps Qs:List Res} (h:Has W w Ps) (p:Ps.Perm Qs):Has W w Qs:=by obtain⟨F,h1,h2,h3⟩:=h;obtain⟨G,g1,g2⟩:=h1.perm p;exact⟨G,g1,h2,fun x hx=>h3 x ((g2 x).1 hx)⟩
theorem Has.third {W w:World} {A B C:Res} {Ps:List Res} (h:Has W w (A::B::C::Ps)):Has W w (C::A::B::Ps):=h.perm (((List.Perm.swap C B Ps).cons A).trans (List.Perm.swap C A (B::Ps)))
theorem Has.fourth {W w:World} {A B C D:Res} {Ps:List Res} (h:Has W w (A::B::C::D::Ps)):Has W w (D::A::B::C::Ps) :=
 h.perm (((((List.Perm.swap D C Ps).cons B).trans (List.Perm.swap D B (C::Ps))).cons A).trans (List.Perm.swap D A (B::C::Ps)))
def blk (b:Nat) (o:Obj):Res where
 holds w F:=w.heap[b]?=some o∧F=[b]
 keep:=fun ⟨h1,h2⟩ hk=>⟨by rw [hk b (by simp [h2])];exact h1,h2⟩
 lt:=fun ⟨h1,h2⟩ x hx=>by rw [h2] at hx;simp at hx;subst hx;exact lBk h1
theorem Has.blk {W w:World} {Ps:List Res} {b:Nat} {o:Obj} (h:Has W w (Hp.blk b o::Ps)):w.heap[b]?=some o:=by obtain⟨F,h1,_⟩:=h.head;exact h1
def row (T size:Nat) (v:Value) (n:Nat) (xs:List Value):Res where
 holds w F:=w.ownsRow 0 T size v n xs∧F=v.ownBlock.toList
 keep:=fun ⟨h1,h2⟩ hk=>⟨oOB h1 fun g hg=>hk g (by simp [h2,hg]),h2⟩
 lt:=fun ⟨h1,h2⟩ x hx=>by rw [h2] at hx;exact oLT h1 (by simpa using hx)
theorem Has.row {W w:World} {Ps:List Res} {T size n:Nat} {v:Value} {xs:List Value} (h:Has W w (Hp.row T size v n xs::Ps)):w.ownsRow 0 T size v n xs:=by obtain⟨F,h1,_⟩:=h.head;exact h1
theorem Has.newRow {W w w':World} {Ps:List Res} {T size n:Nat} {v:Value} {xs:List Value} (h:Has W w Ps) (hf:Fr [] w w') (ho:w'.ownsRow w.heap.size T size v n xs):Has W w' (Hp.row T size v n xs::Ps) :=
 h.new hf (F:=v.ownBlock.toList) ⟨owns_base ho (Nat.zero_le _),rfl⟩ fun x hx=>owns_ge ho (by simpa using hx)
theorem Has.newBlk {W w:World} {Ps:List Res} (h:Has W w Ps) (o:Obj):Has W (w.alloc o) (Hp.blk w.heap.size o::Ps) :=
 h.new ((Fr.refl [] w).alloc o) (F:=[w.heap.size]) ⟨by rw [hAC,if_pos rfl],rfl⟩ i_
end Go.Proofs.Hp
end
