/- Own texts of this claim, part 7: no condition. -/
import Derived.Laws.AppendOwnNone
import Derived.Test.YtebolidfbflkmaaGreatZE5
set_option linter.unusedVariables false
set_option linter.unusedSimpArgs false
set_option maxHeartbeats 16000000
set_option maxRecDepth 100000
namespace Go.Proofs.Ev
open Qs
abbrev Fld:=Int→Int→Int
def p2 (n:Nat):Int:=((2 ^ n:Nat):Int)
theorem Ac (n:Nat):p2 (n+1)=p2 n+p2 n:=by unfold p2;rw [Nat.pow_succ];omega
theorem C2 (n:Nat):0<p2 n:=by unfold p2;have:=Nat.pow_pos (n:=n) (show 0<2 by omega);omega
theorem Gi:p2 0=1:=rfl
def mk:Nat→Fld→Int→Int→Tr
 | 0,F,x,y=>.leaf (F x y)
 | n+1,F,x,y=>.node (mk n F x y) (mk n F (x+p2 n) y) (mk n F x (y+p2 n)) (mk n F (x+p2 n) (y+p2 n))
def Full:Nat→Tr→Prop
 | 0,.leaf _=>True
 | n+1,.node a b c d=>Full n a∧Full n b∧Full n c∧Full n d
 | _,_=>False
def cell:Nat→Tr→Fld
 | 0,.leaf v=>fun _ _=>v
 | n+1,.node a b c d=>fun x y=>if y<p2 n then (if x<p2 n then cell n a x y else cell n b (x - p2 n) y) else (if x<p2 n then cell n c x (y - p2 n) else cell n d (x - p2 n) (y - p2 n))
 | _,_=>fun _ _=>0
theorem C9:∀ (n:Nat) {F G:Fld} {x y u v:Int},(∀ i j,0≤i→i<p2 n→0≤j→j<p2 n→F (x+i) (y+j)=G (u+i) (v+j))→mk n F x y=mk n G u v
 | 0,F,G,x,y,u,v,h=>by have:=h 0 0 o_ (by rw [Gi];omega) o_ (by rw [Gi];omega);simp only [Int.add_zero] at this;show Tr.leaf _=Tr.leaf _;rw [this]
 | n+1,F,G,x,y,u,v,h=>by
  have hp:=Ac n;have hq:=C2 n;show Tr.node _ _ _ _=Tr.node _ _ _ _;rw [C9 n (F:=F) (G:=G) (x:=x) (y:=y) (u:=u) (v:=v) fun i j a b c d=>h i j a o_ c o_,
   C9 n (F:=F) (G:=G) (x:=x+p2 n) (y:=y) (u:=u+p2 n) (v:=v) fun i j a b c d=>by rw [Int.add_assoc,Int.add_assoc];exact h _ j o_ o_ c o_,
   C9 n (F:=F) (G:=G) (x:=x) (y:=y+p2 n) (u:=u) (v:=v+p2 n) fun i j a b c d=>by rw [Int.add_assoc y,Int.add_assoc v];exact h i _ a o_ o_ o_,
   C9 n (F:=F) (G:=G) (x:=x+p2 n) (y:=y+p2 n) (u:=u+p2 n) (v:=v+p2 n) fun i j a b c d=>by rw [Int.add_assoc x,Int.add_assoc u,Int.add_assoc y,Int.add_assoc v];exact h _ _ o_ o_ o_ o_]
theorem Mi:∀ (n:Nat) {F:Fld} {x y i j:Int},0≤i→i<p2 n→0≤j→j<p2 n→cell n (mk n F x y) i j=F (x+i) (y+j)
 | 0,F,x,y,i,j,a,b,c,d=>by
  rw [Gi] at b d;obtain rfl:i=0:=o_
  obtain rfl:j=0:=o_
  simp [mk,cell]
 | n+1,F,x,y,i,j,a,b,c,d=>by
  have hp:=Ac n;show (if j<p2 n then (if i<p2 n then _ else _) else _)=_;split;·
   split;·exact Mi n a o_ c o_
   ·rw [Mi n o_ o_ c o_];congr 1;omega
  ·split;·rw [Mi n a o_ o_ o_];congr 1;omega
   ·rw [Mi n o_ o_ o_ o_];congr 1<;>omega
theorem Kd:∀ (n:Nat) {t:Tr},Full n t→mk n (cell n t) 0 0=t
 | 0,.leaf v,_=>rfl
 | 0,.node _ _ _ _,h=>h.elim
 | n+1,.leaf _,h=>h.elim
 | n+1,.node a b c d,h=>by
  obtain⟨ha,hb,hc,hd⟩:=h;have hq:=C2 n;show Tr.node _ _ _ _=_;have k1:mk n (cell (n+1) (.node a b c d)) 0 0=mk n (cell n a) 0 0:=C9 n fun i j h1 h2 h3 h4=>by show (if 0+j<p2 n then (if 0+i<p2 n then _ else _) else _)=_;rw [if_pos o_,if_pos o_]
  have k2:mk n (cell (n+1) (.node a b c d)) (0+p2 n) 0=mk n (cell n b) 0 0:=C9 n fun i j h1 h2 h3 h4=>by show (if 0+j<p2 n then (if 0+p2 n+i<p2 n then _ else _) else _)=_;rw [if_pos o_,if_neg o_];congr 1;omega
  have k3:mk n (cell (n+1) (.node a b c d)) 0 (0+p2 n)=mk n (cell n c) 0 0:=C9 n fun i j h1 h2 h3 h4=>by show (if 0+p2 n+j<p2 n then _ else (if 0+i<p2 n then _ else _))=_;rw [if_neg o_,if_pos o_];congr 1;omega
  have k4:mk n (cell (n+1) (.node a b c d)) (0+p2 n) (0+p2 n)=mk n (cell n d) 0 0:=C9 n fun i j h1 h2 h3 h4=>by show (if 0+p2 n+j<p2 n then _ else (if 0+p2 n+i<p2 n then _ else _))=_;rw [if_neg o_,if_neg o_];congr 1<;>omega
  rw [k1,k2,k3,k4,Kd n ha,Kd n hb,Kd n hc,Kd n hd]
theorem Fs:∀ (n:Nat) {t:Tr},Full n t→t.ht=n
 | 0,.leaf v,_=>rfl
 | 0,.node _ _ _ _,h=>h.elim
 | n+1,.leaf _,h=>h.elim
 | n+1,.node a b c d,h=>by show a.ht+1=n+1;rw [Fs n h.1]
def Qh (r:Int) (g:Fld→Fld):Prop:=∀ {F H:Fld} {x y u v:Int},(∀ i j,-r≤i→i≤r→-r≤j→j≤r→F (x+i) (y+j)=H (u+i) (v+j))→g F x y=g H u v
def it (g:Fld→Fld):Nat→Fld→Fld
 | 0,F=>F
 | n+1,F=>g (it g n F)
theorem Ut (g:Fld→Fld) (a b:Nat) (F:Fld):it g (a+b) F=it g a (it g b F):=by
 induction a with
 | zero=>rw [Nat.zero_add];rfl
 | succ a ih=>rw [Nat.add_right_comm,it,ih];rfl
theorem Tu {r:Int} {g:Fld→Fld} (hg:Qh r g) {F H:Fld} {x y u v L:Int} (h:∀ i j,0≤i→i<L→0≤j→j<L→F (x+i) (y+j)=H (u+i) (v+j)):∀ (m:Nat) {i j:Int},r*m≤i→i<L - r*m→r*m≤j→j<L - r*m→it g m F (x+i) (y+j)=it g m H (u+i) (v+j)
 | 0,i,j,a,b,c,d=>by simp only [Int.natCast_zero,Int.mul_zero,Int.sub_zero] at a b c d;exact h i j a b c d
 | m+1,i,j,a,b,c,d=>by
  have e:r*((m+1:Nat):Int)=r*m+r:=by rw [Int.natCast_add,Int.mul_add];simp
  rw [e] at a b c d;refine hg fun p q a1 a2 a3 a4=>?_;rw [Int.add_assoc,Int.add_assoc,Int.add_assoc,Int.add_assoc];exact Tu hg h m o_ o_ o_ o_
def stp (g:Fld→Fld) (n k:Nat) (t:Tr):Tr:=mk (n - 1) (it g (2 ^ k) (cell n t)) (p2 (n - 2)) (p2 (n - 2))
variable {n:Nat}
theorem Te {m:Nat} (h:m≤n):p2 m≤p2 n:=by unfold p2;exact Int.ofNat_le.2 (Nat.pow_le_pow_right o_ h)
variable {r:Int}{k:Nat}
theorem Iq {g:Fld→Fld} (hg:Qh r g) (hn:2≤n) (hr:r*p2 k≤p2 (n - 2)) (F:Fld) (x y:Int) :
  stp g n k (mk n F x y)=mk (n - 1) (it g (2 ^ k) F) (x+p2 (n - 2)) (y+p2 (n - 2)):=by
 obtain⟨n,rfl⟩:∃ m,n=m+2:=⟨n - 2,o_⟩;simp only [Nat.add_sub_cancel] at hr ⊢;unfold stp;have e1:=Ac n;have e2:=Ac (n+1);refine C9 _ fun i j a b c d=>?_;rw [show n+2 - 1=n+1 from rfl] at b d;rw [Int.add_assoc x,Int.add_assoc y];have:=Tu hg (F:=cell (n+2) (mk (n+2) F x y)) (H:=F) (x:=0) (y:=0) (u:=x) (v:=y) (L:=p2 (n+2)) (fun i j a b c d=>by rw [Int.zero_add,Int.zero_add];exact Mi _ a b c d) (2 ^ k) (i:=p2 n+i) (j:=p2 n+j)
  (by show r*p2 k≤_;omega) (by show _<_ - r*p2 k;rw [show n+2=n+1+1 from rfl,e2];omega) (by show r*p2 k≤_;omega) (by show _<_ - r*p2 k;rw [show n+2=n+1+1 from rfl,e2];omega)
 rw [Int.zero_add,Int.zero_add] at this;exact this
def Tr.q:Tr→Nat→Tr
 | .node a _ _ _,0=>a
 | .node _ b _ _,1=>b
 | .node _ _ c _,2=>c
 | .node _ _ _ d,_+3=>d
 | .leaf v,_=>.leaf v
def g16 (t:Tr) (y x:Nat):Tr:=Tr.q (Tr.q t (2*(y / 2)+x / 2)) (2*(y % 2)+x % 2)
def Pp (f:Nat→Nat→Tr) (y x:Nat):Tr:=.node (f y x) (f y (x+1)) (f (y+1) x) (f (y+1) (x+1))
def ctr (t:Tr):Tr:=.node (Tr.q (Tr.q t 0) 3) (Tr.q (Tr.q t 1) 2) (Tr.q (Tr.q t 2) 1) (Tr.q (Tr.q t 3) 0)
variable {i j:Nat}
theorem g16_mk (n:Nat) (F:Fld) (x y:Int) (hi:i<4) (hj:j<4):g16 (mk (n+2) F x y) i j=mk n F (x+j*p2 n) (y+i*p2 n):=by
 have e:=Ac n;have key:∀ (a b c d:Int),a=c→b=d→mk n F a b=mk n F c d:=by rintro a b c d rfl rfl;rfl
 match i,hi,j,hj with
 | 0,_,0,_|0,_,1,_|0,_,2,_|0,_,3,_|1,_,0,_|1,_,1,_|1,_,2,_|1,_,3,_|2,_,0,_|2,_,1,_|2,_,2,_|2,_,3,_|3,_,0,_|3,_,1,_|3,_,2,_|3,_,3,_ =>refine key _ _ _ _ ?_ ?_<;>(try simp only [e])<;>(try simp)<;>(try omega)
theorem Iy {F:Fld} {f:Nat→Nat→Tr} {a b:Int} (h:∀ u v,u≤1→v≤1→f (i+u) (j+v)=mk n F (a+v*p2 n) (b+u*p2 n)):Pp f i j=mk (n+1) F a b:=by have h00:=h 0 0 o_ o_;have h01:=h 0 1 o_ o_;have h10:=h 1 0 o_ o_;have h11:=h 1 1 o_ o_;simp only [Nat.add_zero,Int.natCast_zero,Int.zero_mul,Int.add_zero,Int.natCast_one,Int.one_mul] at h00 h01 h10 h11;unfold Pp;rw [h00,h01,h10,h11];rfl
theorem Se (n:Nat) (F:Fld) (x y:Int):ctr (mk (n+2) F x y)=mk (n+1) F (x+p2 n) (y+p2 n):=by
 have e:=Ac n;have key:∀ (a b c d:Int),a=c→b=d→mk n F a b=mk n F c d:=by rintro a b c d rfl rfl;rfl
 show Tr.node (mk n F _ _) (mk n F _ _) (mk n F _ _) (mk n F _ _)=Tr.node (mk n F _ _) (mk n F _ _) (mk n F _ _) (mk n F _ _);congr 1<;>refine key _ _ _ _ ?_ ?_<;>omega
def Jn (t:Tr):Nat→Nat→Tr:=Pp (g16 t)
def G9 (g:Fld→Fld) (n k:Nat) (two:Bool) (t:Tr) (i j:Nat):Tr:=if two then stp g (n - 1) (k - 1) (Jn t i j) else ctr (Jn t i j)
def Od (g:Fld→Fld) (n k:Nat) (two:Bool) (t:Tr):Nat→Nat→Tr:=Pp (G9 g n k two t)
def Un (g:Fld→Fld) (n k:Nat) (two:Bool) (t:Tr) (i j:Nat):Tr:=stp g (n - 1) (if two then k - 1 else k) (Od g n k two t i j)
theorem hash {g:Fld→Fld} (hg:Qh r g) {two:Bool} {t:Tr} (hn:3≤n) (ht:Full n t) (h1:two=true→1≤k∧r*p2 (k - 1)≤p2 (n - 3)) (h2:two=false→r*p2 k≤p2 (n - 3)) :
  Pp (Un g n k two t) 0 0=stp g n k t:=by
 obtain⟨n,rfl⟩:∃ m,n=m+3:=⟨n - 3,o_⟩;simp only [Nat.add_sub_cancel] at h1 h2;have e0:=Ac n;have e1:=Ac (n+1);obtain⟨F,rfl⟩:∃ F,t=mk (n+3) F 0 0:=⟨_,(Kd _ ht).symm⟩;have hp:∀ i j,i<3→j<3→Jn (mk (n+3) F 0 0) i j=mk (n+2) F (j*p2 (n+1)) (i*p2 (n+1)):=by intro i j hi hj;refine Iy fun u v hu hv=>?_;rw [g16_mk (n+1) F 0 0 o_ o_,Int.zero_add,Int.zero_add,Int.natCast_add,Int.natCast_add,Int.add_mul,Int.add_mul]
 cases two with
 | true =>
  obtain⟨hk,hr⟩:=h1 rfl;have hin:∀ i j,i<3→j<3→G9 g (n+3) k true (mk (n+3) F 0 0) i j=mk (n+1) (it g (2 ^ (k - 1)) F) (j*p2 (n+1)+p2 n) (i*p2 (n+1)+p2 n):=by intro i j hi hj;show stp g (n+2) (k - 1) _=_;rw [hp i j hi hj,Iq hg o_ (by exact hr)];rfl
  have hout:∀ i j,i<2→j<2→Od g (n+3) k true (mk (n+3) F 0 0) i j=mk (n+2) (it g (2 ^ (k - 1)) F) (j*p2 (n+1)+p2 n) (i*p2 (n+1)+p2 n):=by intro i j hi hj;refine Iy fun u v hu hv=>?_;rw [hin _ _ o_ o_,Int.natCast_add,Int.natCast_add,Int.add_mul,Int.add_mul];congr 1<;>omega
  have hres:∀ i j,i<2→j<2→Un g (n+3) k true (mk (n+3) F 0 0) i j=mk (n+1) (it g (2 ^ (k - 1)) (it g (2 ^ (k - 1)) F)) (p2 (n+1)+j*p2 (n+1)) (p2 (n+1)+i*p2 (n+1)):=by intro i j hi hj;show stp g (n+2) (k - 1) _=_;rw [hout i j hi hj,Iq hg o_ (by exact hr)];show mk (n+1) _ (_+p2 n) (_+p2 n)=_;congr 1<;>omega
  have e:(2:Nat) ^ k=2 ^ (k - 1)+2 ^ (k - 1):=by obtain⟨m,rfl⟩:∃ m,k=m+1:=⟨k - 1,o_⟩;rw [Nat.pow_succ,Nat.add_sub_cancel];omega
  have hk2:r*p2 k≤p2 (n+3 - 2):=by have h3:p2 k=p2 (k - 1)+p2 (k - 1):=(by unfold p2;rw [e];omega);rw [h3,Int.mul_add];show _≤p2 (n+1);omega
  rw [Iq hg o_ hk2,e,Ut];refine (Iy (n:=n+1) fun u v hu hv=>?_);rw [Nat.zero_add,Nat.zero_add,hres u v o_ o_];show _=mk (n+1) _ (0+p2 (n+1)+_) (0+p2 (n+1)+_);rw [Int.zero_add]
 | false =>
  have hr:=h2 rfl;have hin:∀ i j,i<3→j<3→G9 g (n+3) k false (mk (n+3) F 0 0) i j=mk (n+1) F (j*p2 (n+1)+p2 n) (i*p2 (n+1)+p2 n):=by intro i j hi hj;show ctr _=_;rw [hp i j hi hj,Se]
  have hout:∀ i j,i<2→j<2→Od g (n+3) k false (mk (n+3) F 0 0) i j=mk (n+2) F (j*p2 (n+1)+p2 n) (i*p2 (n+1)+p2 n):=by intro i j hi hj;refine Iy fun u v hu hv=>?_;rw [hin _ _ o_ o_,Int.natCast_add,Int.natCast_add,Int.add_mul,Int.add_mul];congr 1<;>omega
  have hres:∀ i j,i<2→j<2→Un g (n+3) k false (mk (n+3) F 0 0) i j=mk (n+1) (it g (2 ^ k) F) (p2 (n+1)+j*p2 (n+1)) (p2 (n+1)+i*p2 (n+1)):=by intro i j hi hj;show stp g (n+2) k _=_;rw [hout i j hi hj,Iq hg o_ (by exact hr)];show mk (n+1) _ (_+p2 n) (_+p2 n)=_;congr 1<;>omega
  have hk2:r*p2 k≤p2 (n+3 - 2):=by show _≤p2 (n+1);have:=C2 n;omega
  rw [Iq hg o_ hk2];refine (Iy (n:=n+1) fun u v hu hv=>?_);rw [Nat.zero_add,Nat.zero_add,hres u v o_ o_];show _=mk (n+1) _ (0+p2 (n+1)+_) (0+p2 (n+1)+_);rw [Int.zero_add]
end Go.Proofs.Ev
namespace Go.Proofs.Qs
open Ev
def Tr.ok (s:Int):Tr→Prop
 | .leaf v=>0≤v∧v<s
 | .node a b c d=>a.ok s∧b.ok s∧c.ok s∧d.ok s
def Is (s:Int) (ns:List K4) (n:Nat) (id:Int) (t:Tr):Prop:=Kn s ns id∧tr s ns id=t∧Full n t∧t.ok s
variable {s id:Int}{ns:List K4}{n:Nat}{t:Tr}
theorem Is.grow {ms:List K4} (h:Is s ns n id t) (hp:ns <+: ms):Is s ms n id t:=by obtain⟨xs,rfl⟩:=hp;obtain⟨hk,ht,hf⟩:=h;refine⟨⟨hk.1,by have:=hk.2;simp;omega⟩,?_,hf⟩;rw [tr_app hk.2,ht]
theorem Is.lvl {s:Int} {ns:List K4} (hg:GoodQ s ns) {n:Nat} {id:Int} {t:Tr} (h:Is s ns n id t):lvl s (A8 s ns) id=n:=by obtain⟨hk,ht,hf,_⟩:=h;rw [G8 hg ns.length (by have:=hk.2;omega) hk,ht,Fs n hf]
theorem Is.inj (hg:GoodQ s ns) {m:Nat} {x y:Int} (h:Is s ns n x t) (h':Is s ns m y t):x=y :=
 Gp hg ns.length (by have:=h.1.2;omega) h.1 h'.1 (h.2.1.trans h'.2.1.symm)
theorem Fw {s:Int} {ns:List K4} (h:GoodQ s ns):∀ (m:Nat) {x:Int},x<s+m→Kn s ns x→Full (tr s ns x).ht (tr s ns x)∧(tr s ns x).ok s
 | 0,x,hx,kx=>by rw [Ep o_];exact⟨trivial,kx.1,o_⟩
 | m+1,x,hx,kx=>by
  rcases kx.cases with ⟨h0,hxs⟩|⟨i,k,rfl,hk⟩
  ·rw [Ep hxs];exact⟨trivial,h0,hxs⟩
  ·obtain⟨ka,kb,kc,kd⟩:=Dm h hk;obtain⟨_,_,_,lb,lc,ld⟩:=Ju h hk;have hi:=(List.getElem?_eq_some_iff.1 hk).1;have na:Kn s ns k.a:=⟨ka.1,o_⟩;have nb:Kn s ns k.b:=⟨kb.1,o_⟩;have nc:Kn s ns k.c:=⟨kc.1,o_⟩;have nd:Kn s ns k.d:=⟨kd.1,o_⟩;have fa:=Fw h m (x:=k.a) o_ na;have fb:=Fw h m (x:=k.b) o_ nb;have fc:=Fw h m (x:=k.c) o_ nc;have fd:=Fw h m (x:=k.d) o_ nd;rw [G8 h ns.length (by have:=nb.2;omega) nb,G8 h ns.length (by have:=na.2;omega) na] at lb;rw [G8 h ns.length (by have:=nc.2;omega) nc,G8 h ns.length (by have:=na.2;omega) na] at lc;rw [G8 h ns.length (by have:=nd.2;omega) nd,G8 h ns.length (by have:=na.2;omega) na] at ld;rw [Dc h hk];refine⟨⟨fa.1,?_,?_,?_⟩,fa.2,fb.2,fc.2,fd.2⟩;·rw [show (tr s ns k.a).ht=(tr s ns k.b).ht by omega];exact fb.1
   ·rw [show (tr s ns k.a).ht=(tr s ns k.c).ht by omega];exact fc.1
   ·rw [show (tr s ns k.a).ht=(tr s ns k.d).ht by omega];exact fd.1
theorem Is.of_lvl (hg:GoodQ s ns) (h:Go.Proofs.Qs.lvl s (A8 s ns) id=n):Is s ns n id (tr s ns id):=by have hk:Kn s ns id:=(S6 hg id).1 o_;have hf:=Fw hg ns.length (x:=id) (by have:=hk.2;omega) hk;rw [G8 hg ns.length (by have:=hk.2;omega) hk] at h;refine⟨hk,rfl,?_,hf.2⟩;rw [show n=(tr s ns id).ht by omega];exact hf.1
theorem Is.leaf {s:Int} {ns:List K4} {v:Int} (h:0≤v) (h':v<s):Is s ns 0 v (.leaf v):=⟨⟨h,o_⟩,Ep h',trivial,h,h'⟩
theorem Is.zero (hg:GoodQ s ns) {v:Int} (h:Is s ns 0 v t):0≤v∧v<s∧t=.leaf v:=by
 obtain⟨hk,ht,hf,hok⟩:=h;rcases hk.cases with ⟨h0,h1⟩|⟨i,k,rfl,hi⟩
 ·exact⟨h0,h1,by rw [← ht,Ep h1]⟩
 ·rw [Dc hg hi] at ht;subst ht;exact hf.elim
theorem Is.kids (hg:GoodQ s ns) (h:Is s ns (n+1) id t) :
  ∃ i k,id=s+(i:Nat)∧ns[i]?=some k∧Is s ns n k.a (Tr.q t 0)∧Is s ns n k.b (Tr.q t 1)∧Is s ns n k.c (Tr.q t 2)∧Is s ns n k.d (Tr.q t 3)∧t=.node (Tr.q t 0) (Tr.q t 1) (Tr.q t 2) (Tr.q t 3):=by
 obtain⟨hk,ht,hf,hok⟩:=h;rcases hk.cases with ⟨h0,h1⟩|⟨i,k,rfl,hi⟩
 ·rw [Ep h1] at ht;subst ht;exact hf.elim
 ·obtain⟨ka,kb,kc,kd⟩:=Dm hg hi;have hl:=(List.getElem?_eq_some_iff.1 hi).1;rw [Dc hg hi] at ht;subst ht;exact⟨i,k,rfl,hi,⟨⟨ka.1,o_⟩,rfl,hf.1,hok.1⟩,⟨⟨kb.1,o_⟩,rfl,hf.2.1,hok.2.1⟩,⟨⟨kc.1,o_⟩,rfl,hf.2.2.1,hok.2.2.1⟩,⟨⟨kd.1,o_⟩,rfl,hf.2.2.2,hok.2.2.2⟩,rfl⟩
variable {a b c d:Int}{ta tb tc td:Tr}
theorem Is.fits (hg:GoodQ s ns) (hn:n<256) (ha:Is s ns n a ta) (hb:Is s ns n b tb) (hc:Is s ns n c tc) (hd:Is s ns n d td):Fits s ns ⟨a,b,c,d⟩:=by have la:=ha.lvl hg;have lb:=hb.lvl hg;have lc:=hc.lvl hg;have ld:=hd.lvl hg;unfold Fits;simp only;rw [la,lb,lc,ld];omega
def room (s:Int) (ns:List K4) (L:List Tr):Prop:=ns.length+(L.filter fun t=>decide (t∉trs s ns)).length≤90000
variable {L:List Tr}
theorem room.len (h:room s ns L):ns.length≤90000:=by unfold room at h;omega
theorem room.of_len (h:ns.length+L.length≤90000):room s ns L:=by have:=List.length_filter_le (fun t=>decide (t∉trs s ns)) L;unfold room;omega
theorem trs_mem (hg:GoodQ s ns) {i:Nat} {k:K4} (hk:ns[i]?=some k):(trs s ns)[i]?=some (.node (tr s ns k.a) (tr s ns k.b) (tr s ns k.c) (tr s ns k.d)):=by have h:=Dc hg hk;have hi:=(List.getElem?_eq_some_iff.1 hk).1;unfold tr Je at h;rw [if_neg o_,show (s+(i:Int) - s).toNat=i by omega,List.getD_eq_getElem?_getD,List.getElem?_eq_getElem (by rw [Cb];exact hi)] at h;rw [List.getElem?_eq_getElem (by rw [Cb];exact hi)];exact congrArg some h
theorem filter_drop {α:Type} [DecidableEq α] {l m:List α} {x:α} (hx:x∈l) (hm:x∉m):(l.filter fun t=>decide (t∉m++[x])).length+1≤(l.filter fun t=>decide (t∉m)).length:=by
 have hle:∀ l:List α,(l.filter fun t=>decide (t∉m++[x])).length≤(l.filter fun t=>decide (t∉m)).length:=by
  intro l
  induction l with
  | nil=>simp
  | cons y l ih =>
   simp only [List.filter_cons];by_cases h1:y∉m++[x];·
    have h2:y∉m:=fun h=>h1 (by simp [h]);simp [h1,h2] at ih ⊢;exact ih
   ·have:decide (y∉m++[x])=false:=(by simpa using h1);rw [this];simp only [Bool.false_eq_true,if_false];split;·simp only [List.length_cons];omega
    ·exact ih
 induction l with
 | nil=>cases hx
 | cons y l ih =>
  simp only [List.filter_cons];by_cases hy:y=x;·
   subst hy;have h1:decide (y∉m++[y])=false:=by simp
   have h2:decide (y∉m)=true:=(by simpa using hm);rw [h1,h2];simp only [Bool.false_eq_true,if_false,if_true,List.length_cons];have:=hle l;omega
  ·have hx':x∈l:=by
    rw [List.mem_cons] at hx;rcases hx with h|h
    ·exact absurd h.symm hy
    ·exact h
   have:=ih hx';by_cases h1:y∉m;·
    have h2:decide (y∉m++[x])=true:=(by simp [h1,hy]);have h3:decide (y∉m)=true:=(by simpa using h1);rw [h2,h3];simp only [if_true,List.length_cons];omega
   ·have h2:decide (y∉m++[x])=false:=(by simp at h1;simp [h1]);have h3:decide (y∉m)=false:=(by simpa using h1);rw [h2,h3];simpa using this
theorem I7 (hg:GoodQ s ns) (hr:room s ns L) (hn:n<256) (ha:Is s ns n a ta) (hb:Is s ns n b tb) (hc:Is s ns n c tc) (hd:Is s ns n d td)
  (hL:Tr.node ta tb tc td∈L):∃ id ms,join s ns ⟨a,b,c,d⟩=((id,0),ms)∧GoodQ s ms∧ns <+: ms∧room s ms L∧Is s ms (n+1) id (.node ta tb tc td):=by
 have hf:=Is.fits hg hn ha hb hc hd;have h0:join s ns ⟨a,b,c,d⟩=Fj s ns ⟨a,b,c,d⟩:=by unfold join;rw [if_neg,if_neg (by simpa using hf)];have la:=ha.lvl hg;have lb:=hb.lvl hg;have lc:=hc.lvl hg;have ld:=hd.lvl hg;simp only [la,lb,lc,ld];omega
 have hfull:Full (n+1) (.node ta tb tc td):=⟨ha.2.2.1,hb.2.2.1,hc.2.2.1,hd.2.2.1⟩;have hok:(Tr.node ta tb tc td).ok s:=⟨ha.2.2.2,hb.2.2.2,hc.2.2.2,hd.2.2.2⟩;cases hi:ns.idxOf? ⟨a,b,c,d⟩ with
 | some i =>
  obtain⟨hlt,he,_⟩:=List.idxOf?_eq_some_iff.1 hi;have hk:ns[i]?=some ⟨a,b,c,d⟩:=by rw [List.getElem?_eq_getElem hlt,he]
  refine⟨s+i,ns,by rw [h0,Lf hi],hg,List.prefix_refl _,hr,⟨by have:=hg.1;omega,o_⟩,?_,hfull,hok⟩;rw [Dc hg hk,ha.2.1,hb.2.1,hc.2.1,hd.2.1]
 | none =>
  have hnm:(⟨a,b,c,d⟩:K4)∉ns:=List.idxOf?_eq_none_iff.1 hi;have hT:Tr.node ta tb tc td∉trs s ns:=by
   intro hm;obtain⟨i,hi',he⟩:=List.mem_iff_getElem.1 hm;rw [Cb] at hi';have h1:Kn s ns (s+i):=⟨by have:=hg.1;omega,o_⟩;have hk:ns[i]?=some ns[i]:=List.getElem?_eq_getElem hi';have h2:=trs_mem hg hk;rw [List.getElem?_eq_getElem (by rw [Cb];exact hi'),he] at h2;injection h2 with h2
   injection h2 with e1 e2 e3 e4
   obtain⟨ka,kb,kc,kd⟩:=Dm hg hk;have f1:=Gp hg ns.length (x:=a) (y:=(ns[i]).a) (by have:=ha.1.2;omega) ha.1 ⟨ka.1,o_⟩ (ha.2.1.trans e1);have f2:=Gp hg ns.length (x:=b) (y:=(ns[i]).b) (by have:=hb.1.2;omega) hb.1 ⟨kb.1,o_⟩ (hb.2.1.trans e2);have f3:=Gp hg ns.length (x:=c) (y:=(ns[i]).c) (by have:=hc.1.2;omega) hc.1 ⟨kc.1,o_⟩ (hc.2.1.trans e3);have f4:=Gp hg ns.length (x:=d) (y:=(ns[i]).d) (by have:=hd.1.2;omega) hd.1 ⟨kd.1,o_⟩ (hd.2.1.trans e4);apply hnm;rw [f1,f2,f3,f4];exact List.getElem_mem hi'
  have hlt:ns.length<100000:=by have:1≤(L.filter fun t=>decide (t∉trs s ns)).length:=List.length_pos_of_mem (List.mem_filter.2 ⟨hL,by simpa using hT⟩);unfold room at hr;omega
  have hg':=hg.snoc hf hnm hlt;have hpre:ns <+: ns++[⟨a,b,c,d⟩]:=List.prefix_append _ _;have ha':=ha.grow hpre;have hb':=hb.grow hpre;have hc':=hc.grow hpre;have hd':=hd.grow hpre;refine⟨s+ns.length,ns++[⟨a,b,c,d⟩],by rw [h0,Le hi hlt],hg',hpre,?_,⟨by have:=hg.1;omega,by simp;omega⟩,?_,hfull,hok⟩;·
   unfold room at hr ⊢;rw [Jc,show (Tr.node (Je s (trs s ns) a) (Je s (trs s ns) b) (Je s (trs s ns) c) (Je s (trs s ns) d))=.node ta tb tc td by rw [← ha.2.1,← hb.2.1,← hc.2.1,← hd.2.1];rfl];have:=filter_drop hL hT;simp only [List.length_append,List.length_cons,List.length_nil];omega
  ·rw [Dc hg' (i:=ns.length) (k:=⟨a,b,c,d⟩) i_,ha'.2.1,hb'.2.1,hc'.2.1,hd'.2.1]
end Go.Proofs.Qs
namespace Go.Proofs.Ev
open Qs
def Ip:Tr→List Tr
 | .leaf _=>[]
 | .node a b c d=>Ip a++Ip b++Ip c++Ip d++[.node a b c d]
def i9:List (Nat×Nat):=[(0,0),(0,1),(0,2),(1,0),(1,1),(1,2),(2,0),(2,1),(2,2)]
def i4:List (Nat×Nat):=[(0,0),(0,1),(1,0),(1,1)]
def Da (g:Fld→Fld) (lost:Nat):Nat→Nat→Tr→List Tr
 | 0,_,_=>[]
 | n+1,k,t =>
  if n+1≤lost then Ip (stp g (n+1) k t)
  else
   (i9.flatMap fun p=>Jn t p.1 p.2::if k=n+1 - lost then Da g lost n (k - 1) (Jn t p.1 p.2) else [ctr (Jn t p.1 p.2)]) ++
   (i4.flatMap fun p=>Od g (n+1) k (decide (k=n+1 - lost)) t p.1 p.2::Da g lost n (if k=n+1 - lost then k - 1 else k) (Od g (n+1) k (decide (k=n+1 - lost)) t p.1 p.2)) ++
   [stp g (n+1) k t]
def T3 (m:Nat) (F:Fld) (ox y:Int):List Int:=(List.range m).map fun (x:Nat)=>F (ox+x) y
theorem Ji (m:Nat) (F:Fld) (ox y:Int):(T3 m F ox y).length=m:=by simp [T3]
theorem P0 {m:Nat} {F:Fld} {ox y:Int} {x:Nat} (h:x<m):(T3 m F ox y)[x]?=some (F (ox+x) y):=by simp [T3,h]
structure Rule where
 S:Int
 hood:List (Int×Int)
 nodes:List (Int×List Int)
def before (p q:Int×Int):Bool:=decide (p.2<q.2∨p.2=q.2∧p.1<q.1)
def Vj (p:Int×Int):Bool:=decide (-2≤p.1∧p.1≤2∧-2≤p.2∧p.2≤2)
def Gs (l:List (Int×Int)) (i:Nat):Bool:=Vj (l.getD i (0,0)) && (decide (i=0) || before (l.getD (i - 1) (0,0)) (l.getD i (0,0)))
def Db (l:List (Int×Int)):Bool:=decide (1≤l.length) && decide (l.length≤25) && (List.range l.length).all (Gs l)
def D4 (r:Rule) (k:Int):Int:=(r.nodes.getD k.toNat (0,[])).1
def N4 (r:Rule) (k s:Int):Int:=(r.nodes.getD k.toNat (0,[])).2.getD s.toNat 0
def Ic (r:Rule) (lv:Int) (i:Nat) (k:Int):Bool:=decide (0≤k) && (if lv=1 then decide (k<r.S) else true) && (if 1<lv then decide (k<i∧D4 r k=lv - 1) else true)
def G7 (r:Rule) (i:Nat):Bool :=
 decide (1≤(r.nodes.getD i (0,[])).1∧(r.nodes.getD i (0,[])).1≤r.hood.length∧(((r.nodes.getD i (0,[])).2.length:Nat):Int)=r.S) && (r.nodes.getD i (0,[])).2.all (Ic r (r.nodes.getD i (0,[])).1 i)
def Ar (r:Rule):Bool:=decide (2≤r.S∧r.S≤8) && Db r.hood && decide (1≤r.nodes.length∧r.nodes.length≤4096) && decide (D4 r (r.nodes.length - 1:Int)=r.hood.length) && (List.range r.nodes.length).all (G7 r)
def C0 (r:Int) (p:Int×Int):Int:=max (max (max (max r p.1) (-p.1)) p.2) (-p.2)
def A3 (l:List (Int×Int)):Int:=if Db l then l.foldl C0 0 else 0
def down (r:Rule) (ss:List Int):Int:=ss.foldl (fun k s=>N4 r k s) (r.nodes.length - 1:Int)
def gen (r:Rule) (F:Fld):Fld:=fun x y=>down r (r.hood.map fun p=>F (x+p.1) (y+p.2))
theorem Kk (r:Rule) (ss:List Int) (s:Int):down r (ss++[s])=N4 r (down r ss) s:=by simp [down]
section
variable {r:Rule} (h:Ar r=true)
include h
theorem Oh:2≤r.S∧r.S≤8:=by unfold Ar at h;simp only [Bool.and_eq_true,decide_eq_true_eq] at h;exact h.1.1.1.1
theorem Cy:Db r.hood=true:=by unfold Ar at h;simp only [Bool.and_eq_true,decide_eq_true_eq] at h;exact h.1.1.1.2
theorem K8:1≤r.nodes.length∧r.nodes.length≤4096:=by unfold Ar at h;simp only [Bool.and_eq_true,decide_eq_true_eq] at h;exact h.1.1.2
theorem right_root:D4 r (r.nodes.length - 1:Int)=r.hood.length:=by unfold Ar at h;simp only [Bool.and_eq_true,decide_eq_true_eq] at h;exact h.1.2
theorem P1 {i:Nat} (hi:i<r.nodes.length):G7 r i=true:=by unfold Ar at h;simp only [Bool.and_eq_true,decide_eq_true_eq,List.all_eq_true,List.mem_range] at h;exact h.2 i hi
theorem G3:1≤r.hood.length∧r.hood.length≤25:=by have:=Cy h;unfold Db at this;simp only [Bool.and_eq_true,decide_eq_true_eq] at this;exact this.1
theorem Vx:∀ {ss:List Int},(∀ s∈ss,0≤s∧s<r.S)→ss.length≤r.hood.length →
  (ss.length<r.hood.length→0≤down r ss∧down r ss<r.nodes.length∧D4 r (down r ss)=r.hood.length - ss.length)∧(ss.length=r.hood.length→0≤down r ss∧down r ss<r.S):=by
 intro ss;generalize hm:ss.length=m
 induction m generalizing ss with
 | zero =>intro _ _;obtain rfl:=List.eq_nil_of_length_eq_zero hm;have hl:=K8 h;have hh:=G3 h;have hr:=right_root h;have e:down r []=(r.nodes.length - 1:Int):=rfl;rw [e];exact⟨fun _=>⟨o_,o_,by rw [hr];omega⟩,fun h0=>by omega⟩
 | succ m ih =>
  intro hs hle;rcases List.eq_nil_or_concat ss with rfl|⟨l,s,rfl⟩
  ·simp at hm
  ·rw [List.concat_eq_append] at hs hm ⊢;have hm':l.length=m:=(by simpa using hm);obtain⟨h1,_⟩:=ih hm' (fun x hx=>hs x (by simp [hx])) o_;obtain⟨a1,a2,a3⟩:=h1 o_;have hs':=hs s i_;rw [Kk];generalize down r l=k at a1 a2 a3;have hn:=P1 h (i:=k.toNat) o_;unfold G7 at hn;unfold D4 at a3;unfold N4;generalize r.nodes.getD k.toNat (0,[])=x at a3 hn;rw [Bool.and_eq_true,decide_eq_true_eq,List.all_eq_true] at hn;obtain⟨⟨b1,b2,b3⟩,b4⟩:=hn;have hmem:x.2.getD s.toNat 0∈x.2:=by
    rw [List.getD_eq_getElem?_getD,List.getElem?_eq_getElem o_];exact List.getElem_mem _
   have b5:=b4 _ hmem;generalize x.2.getD s.toNat 0=z at b5;unfold Ic at b5;rw [Bool.and_eq_true,Bool.and_eq_true,decide_eq_true_eq] at b5;obtain⟨⟨c1,c2⟩,c3⟩:=b5;refine⟨fun hlt=>?_,fun heq=>?_⟩;·
    rw [if_pos o_,decide_eq_true_eq] at c3;exact⟨c1,o_,by rw [c3.2];omega⟩
   ·rw [if_pos o_,decide_eq_true_eq] at c2;exact⟨c1,c2⟩
end
theorem Qq {a b:Int} {p:Int×Int}:C0 a p≤b↔a≤b∧p.1≤b∧-p.1≤b∧p.2≤b∧-p.2≤b:=by unfold C0;omega
theorem Mc:∀ (l:List (Int×Int)) (a:Int),a≤l.foldl C0 a∧∀ p∈l,p.1≤l.foldl C0 a∧-p.1≤l.foldl C0 a∧p.2≤l.foldl C0 a∧-p.2≤l.foldl C0 a
 | [],a=>⟨Int.le_refl _,i_⟩
 | q::l,a=>by
  obtain⟨h1,h2⟩:=Mc l (C0 a q);have h3:=(Qq (a:=a) (b:=C0 a q) (p:=q)).1 (Int.le_refl _);rw [List.foldl_cons];refine⟨o_,fun p hp=>?_⟩;rw [List.mem_cons] at hp;rcases hp with rfl|hp
  ·omega
  ·exact h2 p hp
theorem Jv:∀ (l:List (Int×Int)) (a b:Int),a≤b→(∀ p∈l,p.1≤b∧-p.1≤b∧p.2≤b∧-p.2≤b)→l.foldl C0 a≤b
 | [],a,b,h,_=>h
 | q::l,a,b,h,hp=>by rw [List.foldl_cons];refine Jv l _ _ (Qq.2 ⟨h,hp q i_⟩) fun p hm=>hp p (by simp [hm])
theorem Aa (l:List (Int×Int)):0≤A3 l∧A3 l≤2:=by
 unfold A3;split;·
  rename_i h;refine⟨(Mc l 0).1,Jv l 0 2 o_ fun p hp=>?_⟩;unfold Db at h;simp only [Bool.and_eq_true,decide_eq_true_eq,List.all_eq_true,List.mem_range] at h;obtain⟨i,hi,rfl⟩:=List.mem_iff_getElem.1 hp;have:=h.2 i hi;unfold Gs Vj at this;simp only [Bool.and_eq_true,decide_eq_true_eq] at this;have h3:=this.1;rw [List.getD_eq_getElem?_getD,List.getElem?_eq_getElem hi] at h3;simp only [Option.getD_some] at h3;omega
 ·omega
theorem Fp {l:List (Int×Int)} (h:Db l=true) {p:Int×Int} (hp:p∈l):-A3 l≤p.1∧p.1≤A3 l∧-A3 l≤p.2∧p.2≤A3 l:=by have:=(Mc l 0).2 p hp;unfold A3;rw [h,if_pos rfl];omega
theorem Eg {r:Rule} (h:Ar r=true):Qh (A3 r.hood) (gen r):=by intro F H x y u v hF;unfold gen;congr 1;refine List.map_congr_left fun p hp=>?_;have:=Fp (Cy h) hp;exact hF _ _ this.1 this.2.1 this.2.2.1 this.2.2.2
theorem gen_ok {r:Rule} (h:Ar r=true) {F:Fld} {x y:Int} (hF:∀ i j,-A3 r.hood≤i→i≤A3 r.hood→-A3 r.hood≤j→j≤A3 r.hood→0≤F (x+i) (y+j)∧F (x+i) (y+j)<r.S):0≤gen r F x y∧gen r F x y<r.S:=by refine (Vx h (ss:=r.hood.map fun p=>F (x+p.1) (y+p.2)) (fun s hs=>?_) i_).2 i_;obtain⟨p,hp,rfl⟩:=List.mem_map.1 hs;have:=Fp (Cy h) hp;exact hF _ _ this.1 this.2.1 this.2.2.1 this.2.2.2
theorem Kl {s:Int}:∀ (n:Nat) {t:Tr},Full n t→t.ok s→∀ {x y:Int},0≤x→x<p2 n→0≤y→y<p2 n→0≤cell n t x y∧cell n t x y<s
 | 0,.leaf v,_,hv,x,y,_,_,_,_=>hv
 | 0,.node _ _ _ _,h,_,_,_,_,_,_,_=>h.elim
 | n+1,.leaf _,h,_,_,_,_,_,_,_=>h.elim
 | n+1,.node a b c d,h,ho,x,y,h1,h2,h3,h4=>by
  have hp:=Ac n;show 0≤(if y<p2 n then (if x<p2 n then _ else _) else _)∧(if y<p2 n then (if x<p2 n then _ else _) else _)<s;split;·
   split;·exact Kl n h.1 ho.1 h1 o_ h3 o_
   ·exact Kl n h.2.1 ho.2.1 o_ o_ h3 o_
  ·split;·exact Kl n h.2.2.1 ho.2.2.1 h1 o_ o_ o_
   ·exact Kl n h.2.2.2 ho.2.2.2 o_ o_ o_ o_
end Go.Proofs.Ev
namespace Go.Proofs.Ev
open Qs
def A1 (r:Int):Nat:=(max r 1).toNat+1
theorem D3 {r:Int} (h0:0≤r) (h2:r≤2):2≤A1 r∧A1 r≤3:=by unfold A1;omega
theorem Pd {r:Int} (h0:0≤r) (h2:r≤2) {n k:Nat} (hn:A1 r≤n) (hk:k≤n - A1 r):r*p2 k≤p2 (n - 2):=by
 have h1:r≤p2 (A1 r - 2):=by
  unfold A1;rcases (show r=0∨r=1∨r=2 by omega) with rfl|rfl|rfl
  ·exact Int.le_of_lt (C2 _)
  ·exact Int.le_refl _
  ·exact Int.le_refl _
 have h3:p2 (A1 r - 2)*p2 k=p2 (A1 r - 2+k):=by unfold p2;rw [Nat.pow_add,Int.natCast_mul]
 have h4:=Int.mul_le_mul_of_nonneg_right h1 (Int.le_of_lt (C2 k));rw [h3] at h4;refine Int.le_trans h4 (Te ?_);unfold A1 at *;omega
section
variable {g:Fld→Fld} {lost n k:Nat} {t:Tr}
theorem Uq {y x:Nat} (hy:y<3) (hx:x<3):(y,x)∈i9:=by
 unfold i9;have:y=0∨y=1∨y=2:=o_
 have:x=0∨x=1∨x=2:=o_
 rcases ‹y=0∨_› with rfl|rfl|rfl<;>rcases ‹x=0∨_› with rfl|rfl|rfl<;>simp
theorem mem_i4 {y x:Nat} (hy:y<2) (hx:x<2):(y,x)∈i4:=by
 unfold i4;have:y=0∨y=1:=o_
 have:x=0∨x=1:=o_
 rcases ‹y=0∨_› with rfl|rfl<;>rcases ‹x=0∨_› with rfl|rfl<;>simp
theorem need_part (h:lost<n+1) {y x:Nat} (hy:y<3) (hx:x<3):Jn t y x∈Da g lost (n+1) k t:=by rw [Da,if_neg o_];simp only [List.mem_append,List.mem_flatMap];exact .inl (.inl ⟨(y,x),Uq hy hx,i_⟩)
theorem need_two (h:lost<n+1) (hk:k=n+1 - lost) {y x:Nat} (hy:y<3) (hx:x<3) {u:Tr} (hu:u∈Da g lost n (k - 1) (Jn t y x)):u∈Da g lost (n+1) k t:=by rw [Da,if_neg o_];simp only [List.mem_append,List.mem_flatMap];exact .inl (.inl ⟨(y,x),Uq hy hx,by rw [if_pos hk];simp [hu]⟩)
theorem need_ctr (h:lost<n+1) (hk:k≠n+1 - lost) {y x:Nat} (hy:y<3) (hx:x<3):ctr (Jn t y x)∈Da g lost (n+1) k t:=by rw [Da,if_neg o_];simp only [List.mem_append,List.mem_flatMap];exact .inl (.inl ⟨(y,x),Uq hy hx,by rw [if_neg hk];simp⟩)
theorem Tl (h:lost<n+1) {y x:Nat} (hy:y<2) (hx:x<2):Od g (n+1) k (decide (k=n+1 - lost)) t y x∈Da g lost (n+1) k t:=by rw [Da,if_neg o_];simp only [List.mem_append,List.mem_flatMap];exact .inl (.inr ⟨(y,x),mem_i4 hy hx,i_⟩)
theorem Tk (h:lost<n+1) {y x:Nat} (hy:y<2) (hx:x<2) {u:Tr} (hu:u∈Da g lost n (if k=n+1 - lost then k - 1 else k) (Od g (n+1) k (decide (k=n+1 - lost)) t y x)):u∈Da g lost (n+1) k t:=by rw [Da,if_neg o_];simp only [List.mem_append,List.mem_flatMap];exact .inl (.inr ⟨(y,x),mem_i4 hy hx,by simp [hu]⟩)
theorem Qy (h:lost<n+1):stp g (n+1) k t∈Da g lost (n+1) k t:=by rw [Da,if_neg o_];simp
theorem Pb (h:n+1≤lost):Da g lost (n+1) k t=Ip (stp g (n+1) k t):=by rw [Da,if_pos h]
end
end Go.Proofs.Ev
namespace Go.Proofs.Qs
open Ev
def K4.get (k:K4):Nat→Int
 | 0=>k.a
 | 1=>k.b
 | 2=>k.c
 | _=>k.d
def A0 (s:Int) (ns:List K4) (id:Int):K4:=ns.getD (id - s).toNat ⟨0,0,0,0⟩
variable {n:Nat}{t:Tr}
theorem Is.node {s:Int} {ns:List K4} (hg:GoodQ s ns) {id:Int} (h:Is s ns (n+1) id t) :
  s≤id∧ns[(id - s).toNat]?=some (A0 s ns id)∧∀ q,q<4→Is s ns n ((A0 s ns id).get q) (Tr.q t q):=by
 obtain⟨i,k,rfl,hk,ha,hb,hc,hd,_⟩:=h.kids hg;have e:(s+(i:Int) - s).toNat=i:=o_
 have e2:A0 s ns (s+(i:Int))=k:=by unfold A0;rw [e,List.getD_eq_getElem?_getD,hk];rfl
 rw [e,e2];refine⟨o_,hk,fun q hq=>?_⟩
 match q,hq with
 | 0,_=>exact ha
 | 1,_=>exact hb
 | 2,_=>exact hc
 | 3,_=>exact hd
theorem tr_node4 (h:Full (n+1) t):t=.node (Tr.q t 0) (Tr.q t 1) (Tr.q t 2) (Tr.q t 3):=by
 match t,h with
 | .node a b c d,_=>rfl
def gid (s:Int) (ns:List K4) (id:Int) (y x:Nat):Int:=(A0 s ns ((A0 s ns id).get (2*(y / 2)+x / 2))).get (2*(y % 2)+x % 2)
theorem Is.gid {s:Int} {ns:List K4} (hg:GoodQ s ns) {n:Nat} {id:Int} {t:Tr} (h:Is s ns (n+2) id t) {y x:Nat} (hy:y<4) (hx:x<4):Is s ns n (gid s ns id y x) (g16 t y x) :=
 (((h.node hg).2.2 _ o_).node hg).2.2 _ o_
end Go.Proofs.Qs
namespace Go.Proofs.Mp
open Go
section
variable {P:Program} {T E:TypeId} {q:IntKind} {f1 f2:Field}
def Gh (q:IntKind) (k:Int×Int):Value:=.agg #[.int q k.1,.int q k.2]
theorem run_program (w:World):(Go.program:Sem Program).run P w=.ok P w:=rfl
theorem run_equalIn_pair (hT : P.underlying T = some (.struct #[f1, f2])) (t1 : f1.type = E) (t2 : f2.type = E) (o1 : f1.offset = 0) (o2 : f2.offset = 1) (n1 : f1.name ≠ "_") (n2 : f2.name ≠ "_") (hE : P.underlying E = some (.int q)) (hst : P.stoodInHeld T = false)
  (d:Nat) (x y:Int×Int) (w:World):(Op.equalIn (d+2) T (Gh q x) (Gh q y)).run P w=.ok (decide (x=y)) w:=by
 obtain⟨a,b⟩:=x;obtain⟨c,e⟩:=y;show Sem.run P (Op.equalIn ((d+1)+1) _ _ _) w=_;unfold Op.equalIn Gh;rw [Sem.run_bind,B2 hT];simp only [Result.andThen_ok];simp [run_program,hst,n1,n2,t1,t2,o1,o2,Result.andThen_ok,Dx hE,Kv hE];by_cases h1:a=c<;>by_cases h2:b=e<;>simp [h1,h2]
theorem run_checkKey_pair (hT : P.underlying T = some (.struct #[f1, f2])) (t1 : f1.type = E) (t2 : f2.type = E) (o1 : f1.offset = 0) (o2 : f2.offset = 1) (n1 : f1.name ≠ "_") (n2 : f2.name ≠ "_") (hE : P.underlying E = some (.int q))
  (d:Nat) (e:Bool) (x:Int×Int) (w:World):(Instr.checkKey e (d+2) T (Gh q x)).run P w=.ok () w:=by
 obtain⟨a,b⟩:=x;have hc:∀ (x:Int) w,(Instr.checkKey e (d+1) E (.int q x)).run P w=.ok () w:=by intro x w;unfold Instr.checkKey;rw [Sem.run_bind,B2 hE];simp
 show Sem.run P (Instr.checkKey e ((d+1)+1) _ _) w=_;unfold Instr.checkKey Gh;rw [Sem.run_bind,B2 hT];simp only [Result.andThen_ok];simp [n1,n2,t1,t2,o1,o2,Result.andThen_ok,Dx hE,hc]
theorem KeysBy.pair (hT : P.underlying T = some (.struct #[f1, f2])) (t1 : f1.type = E) (t2 : f2.type = E) (o1 : f1.offset = 0) (o2 : f2.offset = 1) (n1 : f1.name ≠ "_") (n2 : f2.name ≠ "_") (hE : P.underlying E = some (.int q)) (hst : P.stoodInHeld T = false) : KeysBy P T (Gh q) := by refine KeysBy.deep hT (fun k v=>rfl) (fun a b w=>run_equalIn_pair hT t1 t2 o1 o2 n1 n2 hE hst 9998 a b w) (fun e k w=>run_checkKey_pair hT t1 t2 o1 o2 n1 n2 hE 9998 e k w) fun k=>?_;show Instr.sameBits 10000 (.agg #[_,_]) (.agg #[_,_])=true;unfold Instr.sameBits;simp [Ly]
end
end Go.Proofs.Mp
namespace Go.Proofs.Hp
open Go Go.RowKit
structure Res where
 holds:World→List Nat→Prop
 keep:∀ {w w':World} {F:List Nat},holds w F→(∀ x∈F,w'.heap[x]?=w.heap[x]?)→holds w' F
 lt:∀ {w:World} {F:List Nat},holds w F→∀ x∈F,x<w.heap.size
def Seps (w:World):List Res→List Nat→Prop
 | [],F=>F=[]
 | P::Ps,F=>∃ F1 F2,P.holds w F1∧Seps w Ps F2∧(∀ x∈F1,x∉F2)∧F=F1++F2
def Has (W w:World) (Ps:List Res):Prop:=∃ F,Seps w Ps F∧Fr [] W w∧∀ x∈F,W.heap.size≤x
theorem Seps.keep {w w':World}:∀ {Ps:List Res} {F:List Nat},Seps w Ps F→(∀ x∈F,w'.heap[x]?=w.heap[x]?)→Seps w' Ps F
 | [],_,h,_=>h
 | P::Ps,F,⟨F1,F2,h1,h2,h3,h4⟩,hk=>⟨F1,F2,P.keep h1 fun x hx=>hk x (by rw [h4];simp [hx]),Seps.keep h2 fun x hx=>hk x (by rw [h4];simp [hx]),h3,h4⟩
theorem Seps.lt {w:World}:∀ {Ps:List Res} {F:List Nat},Seps w Ps F→∀ x∈F,x<w.heap.size
 | [],_,h,x,hx=>by rw [show _=[] from h] at hx;cases hx
 | P::Ps,F,⟨F1,F2,h1,h2,h3,h4⟩,x,hx=>by
  rw [h4,List.mem_append] at hx;rcases hx with hx|hx
  ·exact P.lt h1 x hx
  ·exact Seps.lt h2 x hx
section
variable {W w w':World} {P P' Q:Res} {Ps:List Res}
theorem Has.fr (h:Has W w Ps):Fr [] W w:=by obtain⟨_,_,h,_⟩:=h;exact h
theorem Has.nil (h:Fr [] W w):Has W w []:=⟨[],rfl,h,i_⟩
theorem Has.step (h:Has W w Ps) (hf:Fr [] w w'):Has W w' Ps:=by obtain⟨F,h1,h2,h3⟩:=h;exact⟨F,h1.keep fun x hx=>hf.block x (h1.lt x hx) i_,h2.trans0 hf,h3⟩
theorem Has.drew (h:Has W w Ps) (hd:Drew w w'):Has W w' Ps:=h.step (hd.fr _)
theorem Has.head (h:Has W w (P::Ps)):∃ F,P.holds w F:=by obtain⟨F,⟨F1,F2,h1,_⟩,_⟩:=h;exact⟨F1,h1⟩
theorem Has.new {F:List Nat} (h:Has W w Ps) (hf:Fr [] w w') (hP:P.holds w' F) (hF:∀ x∈F,w.heap.size≤x):Has W w' (P::Ps):=by
 obtain⟨G,h1,h2,h3⟩:=h;refine⟨F++G,⟨F,G,hP,h1.keep fun x hx=>hf.block x (h1.lt x hx) i_,fun x hx hx'=>?_,rfl⟩,h2.trans0 hf,fun x hx=>?_⟩;·have:=hF x hx;have:=h1.lt x hx';omega
 ·rw [List.mem_append] at hx;rcases hx with hx|hx
  ·have:=hF x hx;have:=h2.size;omega
  ·exact h3 x hx
theorem Has.swap (h:Has W w (P::Q::Ps)):Has W w (Q::P::Ps):=by
 obtain⟨F,⟨F1,F2,h1,⟨G1,G2,g1,g2,g3,rfl⟩,h3,rfl⟩,hf,hge⟩:=h;refine⟨G1++(F1++G2),⟨G1,F1++G2,g1,⟨F1,G2,h1,g2,fun x hx hx'=>h3 x hx (by simp [hx']),rfl⟩,fun x hx hx'=>?_,rfl⟩,hf,fun x hx=>hge x ?_⟩;·
  rw [List.mem_append] at hx';rcases hx' with h|h
  ·exact h3 x h (by simp [hx])
  ·exact g3 x hx h
 ·simp only [List.mem_append] at hx ⊢;rcases hx with h|h|h<;>simp [h]
theorem Has.drop (h:Has W w (P::Ps)):Has W w Ps:=by obtain⟨F,⟨F1,F2,h1,h2,h3,rfl⟩,hf,hge⟩:=h;exact⟨F2,h2,hf,fun x hx=>hge x (by simp [hx])⟩
theorem Has.upd (h:Has W w (P::Ps)) {R:Ending→Prop} {Pr:Program} {f:FuncId} {args:Array Value}
  (hc:∀ F,P.holds w F→Calls Pr f args w fun e w'=>R e∧∃ F',P'.holds w' F'∧Fr F w w'∧∀ x∈F',x∈F∨w.heap.size≤x):Calls Pr f args w fun e w'=>R e∧Has W w' (P'::Ps):=by
 obtain⟨F,⟨F1,F2,h1,h2,h3,rfl⟩,hf,hge⟩:=h;refine (hc F1 h1).mono ?_;rintro e w' ⟨hR,F',hP,hf',hs⟩;refine⟨hR,F'++F2,⟨F',F2,hP,h2.keep fun x hx=>hf'.block x (h2.lt x hx) fun hx'=>h3 x hx' hx,fun x hx hx'=>?_,rfl⟩,hf.trans hf' fun x hx=>.inr (hge x (by simp [hx])),fun x hx=>?_⟩;·
  rcases hs x hx with h|h
  ·exact h3 x h hx'
  ·have:=h2.lt x hx';omega
 ·rw [List.mem_append] at hx;rcases hx with hx|hx
  ·rcases hs x hx with h|h
   ·exact hge x (by simp [h])
   ·have:=hf.size;omega
  ·exact hge x (by simp [hx])
theorem Has.turn (h:Has W w (P::Ps)) (hc:∀ F,P.holds w F→∃ F',P'.holds w' F'∧Fr F w w'∧∀ x∈F',x∈F∨w.heap.size≤x):Has W w' (P'::Ps):=by
 obtain⟨F,⟨F1,F2,h1,h2,h3,rfl⟩,hf,hge⟩:=h;obtain⟨F',hP,hf',hs⟩:=hc F1 h1;refine⟨F'++F2,⟨F',F2,hP,h2.keep fun x hx=>hf'.block x (h2.lt x hx) fun hx'=>h3 x hx' hx,fun x hx hx'=>?_,rfl⟩,hf.trans hf' fun x hx=>.inr (hge x (by simp [hx])),fun x hx=>?_⟩;·
  rcases hs x hx with h|h
  ·exact h3 x h hx'
  ·have:=h2.lt x hx';omega
 ·rw [List.mem_append] at hx;rcases hx with hx|hx
  ·rcases hs x hx with h|h
   ·exact hge x (by simp [h])
   ·have:=hf.size;omega
  ·exact hge x (by simp [hx])
theorem Has.look (h:Has W w (P::Ps)) {R:Ending→World→Prop} {Pr:Program} {f:FuncId} {args:Array Value}
  (hc:∀ F,P.holds w F→Calls Pr f args w fun e w'=>R e w'∧Fr [] w w'):Calls Pr f args w fun e w'=>R e w'∧Has W w' (P::Ps):=by
 obtain⟨F,hP⟩:=h.head;exact (hc F hP).mono fun e w' ⟨h1,h2⟩=>⟨h1,h.step h2⟩
end
theorem Seps.perm {w:World} {Ps Qs:List Res} (p:Ps.Perm Qs):∀ {F:List Nat},Seps w Ps F→∃ G,Seps w Qs G∧∀ x,x∈G↔x∈F:=by
 induction p with
 | nil=>exact fun h=>⟨_,h,fun x=>Iff.rfl⟩
 | cons P _ ih =>rintro F ⟨F1,F2,h1,h2,h3,rfl⟩;obtain⟨G,g1,g2⟩:=ih h2;exact⟨F1++G,⟨F1,G,h1,g1,fun x hx hx'=>h3 x hx ((g2 x).1 hx'),rfl⟩,fun x=>by simp [g2]⟩
 | swap P Q l =>
  rintro F ⟨F1,F2,h1,⟨G1,G2,g1,g2,g3,rfl⟩,h3,rfl⟩;refine⟨G1++(F1++G2),⟨G1,F1++G2,g1,⟨F1,G2,h1,g2,fun x hx hx'=>h3 x hx (by simp [hx']),rfl⟩,fun x hx hx'=>?_,rfl⟩,fun x=>?_⟩;·
   rw [List.mem_append] at hx';rcases hx' with h|h
   ·exact h3 x h (by simp [hx])
   ·exact g3 x hx h
  ·simp only [List.mem_append];constructor<;>intro h<;>rcases h with h|h|h<;>simp [h]
 | trans _ _ ih1 ih2 =>intro F h;obtain⟨G,g1,g2⟩:=ih1 h;obtain⟨G',g1',g2'⟩:=ih2 g1;exact⟨G',g1',fun x=>(g2' x).trans (g2 x)⟩
theorem Has.perm {W w:World} {Ps Qs:List Res} (h:Has W w Ps) (p:Ps.Perm Qs):Has W w Qs:=by obtain⟨F,h1,h2,h3⟩:=h;obtain⟨G,g1,g2⟩:=h1.perm p;exact⟨G,g1,h2,fun x hx=>h3 x ((g2 x).1 hx)⟩
theorem Has.third {W w:World} {A B C:Res} {Ps:List Res} (h:Has W w (A::B::C::Ps)):Has W w (C::A::B::Ps):=h.perm (((List.Perm.swap C B Ps).cons A).trans (List.Perm.swap C A (B::Ps)))
theorem Has.fourth {W w:World} {A B C D:Res} {Ps:List Res} (h:Has W w (A::B::C::D::Ps)):Has W w (D::A::B::C::Ps) :=
 h.perm (((((List.Perm.swap D C Ps).cons B).trans (List.Perm.swap D B (C::Ps))).cons A).trans (List.Perm.swap D A (B::C::Ps)))
def blk (b:Nat) (o:Obj):Res where
 holds w F:=w.heap[b]?=some o∧F=[b]
 keep:=fun ⟨h1,h2⟩ hk=>⟨by rw [hk b (by simp [h2])];exact h1,h2⟩
 lt:=fun ⟨h1,h2⟩ x hx=>by rw [h2] at hx;simp at hx;subst hx;exact lBk h1
theorem Has.blk {W w:World} {Ps:List Res} {b:Nat} {o:Obj} (h:Has W w (Hp.blk b o::Ps)):w.heap[b]?=some o:=by obtain⟨F,h1,_⟩:=h.head;exact h1
def row (T size:Nat) (v:Value) (n:Nat) (xs:List Value):Res where
 holds w F:=w.ownsRow 0 T size v n xs∧F=v.ownBlock.toList
 keep:=fun ⟨h1,h2⟩ hk=>⟨oOB h1 fun g hg=>hk g (by simp [h2,hg]),h2⟩
 lt:=fun ⟨h1,h2⟩ x hx=>by rw [h2] at hx;exact oLT h1 (by simpa using hx)
theorem Has.row {W w:World} {Ps:List Res} {T size n:Nat} {v:Value} {xs:List Value} (h:Has W w (Hp.row T size v n xs::Ps)):w.ownsRow 0 T size v n xs:=by obtain⟨F,h1,_⟩:=h.head;exact h1
theorem Has.newRow {W w w':World} {Ps:List Res} {T size n:Nat} {v:Value} {xs:List Value} (h:Has W w Ps) (hf:Fr [] w w') (ho:w'.ownsRow w.heap.size T size v n xs):Has W w' (Hp.row T size v n xs::Ps) :=
 h.new hf (F:=v.ownBlock.toList) ⟨Ft ho (Nat.zero_le _),rfl⟩ fun x hx=>B7 ho (by simpa using hx)
theorem Has.newBlk {W w:World} {Ps:List Res} (h:Has W w Ps) (o:Obj):Has W (w.alloc o) (Hp.blk w.heap.size o::Ps) :=
 h.new ((Fr.refl [] w).alloc o) (F:=[w.heap.size]) ⟨by rw [hAC,if_pos rfl],rfl⟩ i_
end Go.Proofs.Hp
namespace Go.Proofs.YtebolidfbflkmaaGreat
open Go Go.RowKit Rg Mp Hp Qs Ev
def sTR (b:Nat) (s:Int) (ns:List K4):Res where
 holds w F:=StoreAt w b s ns F
 keep:=fun h hk=>h.keep hk
 lt:=fun h=>h.lt
def Iv (rb:Nat) (mm:List ((Int×Int)×Int)):Res where
 holds w F:=MapIs w rb (Gh .i64) (Value.int .i64) mm∧F=[rb]
 keep:=fun ⟨h1,h2⟩ hk=>⟨h1.of_block (hk _ (by simp [h2])),h2⟩
 lt:=fun ⟨h1,h2⟩ x hx=>by rw [h2] at hx;simp at hx;subst hx;exact h1.lt
section
variable {W w:World} {b:Nat} {s:Int} {ns:List K4} {Ps:List Res}
theorem A4 (h:Has W w (sTR b s ns::Ps)):GoodQ s ns:=by obtain⟨F,hS⟩:=h.head;exact hS.1
theorem D1 (h:Has W w (sTR b s ns::Ps)) (x y z u:Int) :
  Calls Tryz.prog 82 #[.pointer (some ⟨b,0,none⟩),.int .i64 x,.int .i64 y,.int .i64 z,.int .i64 u] w fun e w' =>
   e=.returned (.tuple #[.int .i64 (join s ns ⟨x,y,z,u⟩).1.1,.int .i64 (join s ns ⟨x,y,z,u⟩).1.2])∧Has W w' (sTR b s (join s ns ⟨x,y,z,u⟩).2::Ps) :=
 h.upd (P':=sTR b s (join s ns ⟨x,y,z,u⟩).2) (R:=fun e=>e=.returned (.tuple #[.int .i64 (join s ns ⟨x,y,z,u⟩).1.1,.int .i64 (join s ns ⟨x,y,z,u⟩).1.2])) fun F hS=>(Lm hS ⟨x,y,z,u⟩).mono fun e w' h=>h
theorem Ak (h:Has W w (sTR b s ns::Ps)) {L:List Tr} (hr:room s ns L) {n:Nat} (hn:n<256) {x y z u:Int} {ta tb tc td:Tr} (ha:Is s ns n x ta) (hb:Is s ns n y tb) (hc:Is s ns n z tc) (hd:Is s ns n u td) (hL:Tr.node ta tb tc td∈L) :
  Calls Tryz.prog 82 #[.pointer (some ⟨b,0,none⟩),.int .i64 x,.int .i64 y,.int .i64 z,.int .i64 u] w fun e w' =>
   ∃ id ms,e=.returned (.tuple #[.int .i64 id,.int .i64 0])∧Has W w' (sTR b s ms::Ps)∧ns <+: ms∧room s ms L∧Is s ms (n+1) id (.node ta tb tc td):=by
 obtain⟨id,ms,hj,hg,hp,hr',hi⟩:=I7 (A4 h) hr hn ha hb hc hd hL;refine (D1 h x y z u).mono ?_;rintro e w' ⟨rfl,h'⟩;rw [hj] at h' ⊢;exact⟨id,ms,rfl,h',hp,hr',hi⟩
theorem Dq (h:Has W w (sTR b s ns::Ps)) (id:Int) :
  Calls Tryz.prog 98 #[.pointer (some ⟨b,0,none⟩),.int .i64 id] w fun e w'=>e=.returned (.int .i64 (lvl s (A8 s ns) id))∧Has W w' (sTR b s ns::Ps)∧Fr [] w w':=by
 obtain⟨F,hS⟩:=h.head;refine (K3 hS id).mono ?_;rintro e w' ⟨rfl,hd⟩;exact⟨rfl,h.step (hd.fr _),hd.fr _⟩
theorem Fe (h:Has W w (sTR b s ns::Ps)) {n:Nat} {id:Int} {t:Tr} (hi:Is s ns n id t) :
  Calls Tryz.prog 98 #[.pointer (some ⟨b,0,none⟩),.int .i64 id] w fun e w'=>e=.returned (.int .i64 n)∧Has W w' (sTR b s ns::Ps)∧Fr [] w w':=by
 have:=Dq h id;rwa [hi.lvl (A4 h)] at this
theorem Bg (h:Has W w (sTR b s ns::Ps)) {n:Nat} {id:Int} {t:Tr} (hi:Is s ns (n+1) id t) :
  Calls Tryz.prog 106 #[.pointer (some ⟨b,0,none⟩),.int .i64 id] w fun e w'=>e=.returned (.tuple #[.agg #[.int .i64 (A0 s ns id).a,.int .i64 (A0 s ns id).b,.int .i64 (A0 s ns id).c,.int .i64 (A0 s ns id).d],.bool true])∧Has W w' (sTR b s ns::Ps)∧Fr [] w w':=by
 obtain⟨F,hS⟩:=h.head;obtain⟨h1,h2,_⟩:=hi.node (A4 h);have e:Ld s ns id=(A0 s ns id,true):=by unfold Ld;rw [if_neg o_,h2]
 refine (Qi hS id).mono ?_;rintro e' w' ⟨he,hf⟩;rw [e] at he;exact⟨he,h.step hf,hf⟩
theorem E6 (h:Has W w (sTR b s ns::Ps)) {id:Int} {t:Tr} (hi:Is s ns 0 id t) :
  Calls Tryz.prog 106 #[.pointer (some ⟨b,0,none⟩),.int .i64 id] w fun e w'=>e=.returned (.tuple #[.agg #[.int .i64 0,.int .i64 0,.int .i64 0,.int .i64 0],.bool false])∧Has W w' (sTR b s ns::Ps)∧Fr [] w w':=by
 obtain⟨F,hS⟩:=h.head;obtain⟨h1,h2,_⟩:=hi.zero (A4 h);have e:Ld s ns id=(⟨0,0,0,0⟩,false):=by unfold Ld;rw [if_pos h2]
 refine (Qi hS id).mono ?_;rintro e' w' ⟨he,hf⟩;rw [e] at he;exact⟨he,h.step hf,hf⟩
end
theorem hCE {W w:World} {b:Nat} {cs:Array Value} {t:TypeId} {Ps:List Res} (h:Has W w (Hp.blk b (.cells cs t (0,0))::Ps)):(∀ j,w.cell? ⟨b,j,none⟩=cs[j]?)∧(∀ j,w.frozen? ⟨b,j,none⟩=false)∧b<w.heap.size :=
 ⟨fun j=>hEC h.blk j,fun j=>hEF h.blk j,lBk h.blk⟩
theorem hST {W w:World} {b:Nat} {cs:Array Value} {t:TypeId} {Ps:List Res} (h:Has W w (Hp.blk b (.cells cs t (0,0))::Ps)) (j:Nat) (v:Value):Has W (w.setCell ⟨b,j,none⟩ v) (Hp.blk b (.cells (cs.setIfInBounds j v) t (0,0))::Ps) :=
 h.turn fun F ⟨h1,h2⟩=>⟨F,⟨Cq h1 j v,h2⟩,(Fr.refl F w).setCell (.inl (by simp [h2])) v,fun x hx=>.inl hx⟩
theorem hAL {W w:World} {Ps:List Res} (h:Has W w Ps) (cs:Array Value) (t:TypeId):Has W (w.alloc (.cells cs t (0,0))) (Hp.blk w.heap.size (.cells cs t (0,0))::Ps):=h.newBlk _
end Go.Proofs.YtebolidfbflkmaaGreat
namespace Go.Proofs.Hp
open Go Go.RowKit
def iv (l:List Int):List Value:=l.map fun n=>Value.int .i64 n
variable {l:List Int}{i:Nat}
theorem Pk {x:Int} (h:l[i]?=some x):(iv l)[i]?=some (.int .i64 x):=by rw [iv,List.getElem?_map,h];rfl
theorem Us (l:List Int) (i:Nat) (x:Int):(iv l).set i (.int .i64 x)=iv (l.set i x):=by unfold iv;rw [List.map_set]
theorem iv_replicate (n:Nat):List.replicate n (Value.int .i64 0)=iv (List.replicate n 0):=by simp [iv]
def IntsAt (w:World) (v:Value) (l:List Int):Prop:=Reads w v l.length 1 (iv l)
theorem IntsAt.fr {w w':World} {v:Value} {l:List Int} (h:IntsAt w v l) (hf:Fr [] w w'):IntsAt w' v l:=Reads.fr h hf
variable {w:World}{v:Value}
theorem IntsAt.form (h:IntsAt w v l):∃ a c,v=.slice a l.length c:=by obtain⟨_,a,c,h,_⟩:=h;exact⟨a,c,h⟩
def RowsAt (w:World) (v:Value) (L:List (List Int)):Prop:=∃ vs:List Value,Reads w v L.length 1 vs∧∀ (i:Nat) (r:List Int),L[i]?=some r→∃ u,vs[i]?=some u∧IntsAt w u r
theorem RowsAt.fr {w w':World} {v:Value} {L:List (List Int)} (h:RowsAt w v L) (hf:Fr [] w w'):RowsAt w' v L:=by obtain⟨vs,h1,h2⟩:=h;refine⟨vs,h1.fr hf,fun i r hi=>?_⟩;obtain⟨u,hu,hr⟩:=h2 i r hi;exact⟨u,hu,hr.fr hf⟩
theorem RowsAt.form {L:List (List Int)} (h:RowsAt w v L):∃ a c,v=.slice a L.length c:=by obtain⟨_,⟨_,a,c,h,_⟩,_⟩:=h;exact⟨a,c,h⟩
variable {n c:Nat}
theorem RowsAt.row {a:Option Addr} {L:List (List Int)} (h:RowsAt w (.slice a n c) L) {r:List Int} (hi:L[i]?=some r) :
  ∃ g off ra rc,a=some ⟨g,off,none⟩∧g<w.heap.size∧w.cell? ⟨g,off+i,none⟩=some (.slice ra r.length rc)∧IntsAt w (.slice ra r.length rc) r:=by
 obtain⟨vs,⟨hl,a',c',he,hp⟩,h2⟩:=h;cases he;obtain⟨u,hu,hr⟩:=h2 i r hi;obtain⟨ra,rc,rfl⟩:=hr.form;have hlt:=(List.getElem?_eq_some_iff.1 hi).1;obtain⟨g,off,rfl,hg,hc⟩:=hp o_;exact⟨g,off,ra,rc,rfl,hg,hc i _ hu,hr⟩
theorem IntsAt.cell {w:World} {a:Option Addr} {n c:Nat} {l:List Int} (h:IntsAt w (.slice a n c) l) {i:Nat} {x:Int} (hi:l[i]?=some x) :
  ∃ g off,a=some ⟨g,off,none⟩∧g<w.heap.size∧w.cell? ⟨g,off+i,none⟩=some (.int .i64 x):=by
 obtain⟨hl,a',c',he,hp⟩:=h;cases he;have hlt:=(List.getElem?_eq_some_iff.1 hi).1;obtain⟨g,off,rfl,hg,hc⟩:=hp o_;exact⟨g,off,rfl,hg,hc i _ (Pk hi)⟩
theorem IntsAt.part {a:Option Addr} {g off c':Nat} (h:IntsAt w (.slice (some ⟨g,off,none⟩) n c) l) {m:Nat} (hm:i+m≤l.length):IntsAt w (.slice (some ⟨g,off+i,none⟩) m c') ((l.drop i).take m):=by
 obtain⟨hl,a',c'',he,hp⟩:=h;cases he;have hlen:((l.drop i).take m).length=m:=by simp;omega
 refine⟨by simp [iv],_,_,by rw [hlen],fun h0=>?_⟩;rw [hlen] at h0;obtain⟨g',off',he,hg,hc⟩:=hp o_;cases he;refine⟨g,off+i,rfl,hg,fun j u hj=>?_⟩;have hj':(iv l)[i+j]?=some u:=by
  unfold iv at hj ⊢;rw [List.getElem?_map,List.getElem?_take] at hj;split at hj;·rw [List.getElem?_drop] at hj;rw [List.getElem?_map];exact hj
  ·simp at hj
 have:=hc (i+j) u hj';rwa [← Nat.add_assoc] at this
theorem RowsAt.of_owns {w:World} {base e:Nat} {v:Value} {vs:List Value} {L:List (List Int)} (h:w.ownsRow base e 1 v L.length vs) (hr:∀ (i:Nat) (r:List Int),L[i]?=some r→∃ u,vs[i]?=some u∧IntsAt w u r):RowsAt w v L:=⟨vs,Reads.of_owns h,hr⟩
end Go.Proofs.Hp
namespace Go.Proofs.Ev
open Qs
def filled (n:Nat) (G:Nat→Int) (k:Nat):List Int:=(List.range n).map fun i=>if i<k then G i else 0
variable {n k:Nat}
theorem Iz {G:Nat→Int} {i:Nat} (hi:i<n):(filled n G k)[i]?=some (if i<k then G i else 0):=by simp [filled,hi]
theorem filled_set {G:Nat→Int} (hk:k<n):(filled n G k).set k (G k)=filled n G (k+1):=by
 apply List.ext_getElem?;intro i;rw [List.getElem?_set];by_cases h:k=i;·
  subst h;rw [if_pos rfl,if_pos (by simp [filled];exact hk),Iz hk,if_pos o_]
 ·rw [if_neg h];by_cases hi:i<n;·
   rw [Iz hi,Iz hi];by_cases h2:i<k;·rw [if_pos h2,if_pos o_]
   ·rw [if_neg h2,if_neg o_]
  ·rw [List.getElem?_eq_none (by simp [filled];omega),List.getElem?_eq_none (by simp [filled];omega)]
end Go.Proofs.Ev
namespace Go.Proofs.YtebolidfbflkmaaGreat
open Go Go.RowKit Rg Mp Hp Qs Ev
theorem Ap {W w:World} {b n k:Nat} {G:Nat→Int} {T:TypeId} {Ps:List Res} (h:Has W w (Hp.blk b (.cells (iv (filled n G k)).toArray T (0,0))::Ps)) {i:Nat} (hi:i<n):w.cell? ⟨b,i,none⟩=some (.int .i64 (if i<k then G i else 0)):=by rw [(hCE h).1 i];have:=Pk (Iz (n:=n) (G:=G) (k:=k) hi);simpa using this
theorem B9 {W w:World} {b n k:Nat} {G:Nat→Int} {T:TypeId} {Ps:List Res} (h:Has W w (Hp.blk b (.cells (iv (filled n G k)).toArray T (0,0))::Ps)) (hk:k<n) {v:Int} (hv:v=G k):Has W (w.setCell ⟨b,k,none⟩ (.int .i64 v)) (Hp.blk b (.cells (iv (filled n G (k+1))).toArray T (0,0))::Ps):=by subst hv;have:=hST h k (.int .i64 (G k));rwa [show (iv (filled n G k)).toArray.setIfInBounds k (.int .i64 (G k))=(iv (filled n G (k+1))).toArray by rw [← filled_set hk,← Us];simp] at this
def At5 (P:Nat→Prop) (z:Int):Prop:=z=0∧P 0∨z=1∧P 1∨z=2∧P 2∨z=3∧P 3∨z=4∧P 4
section
variable {W w:World} {b:Nat} {s:Int} {ns:List K4} {Ps:List Res}
theorem known_has (h:Has W w (sTR b s ns::Ps)) {n:Nat} {id:Int} {t:Tr} (hi:Is s ns n id t) :
  Calls Tryz.prog 110 #[.pointer (some ⟨b,0,none⟩),.int .i64 id] w fun e w'=>e=.returned (.int .i64 0)∧Has W w' (sTR b s ns::Ps)∧Fr [] w w':=by
 have HL:=q_ (fun w1 (hf:Fr [] w w1)=>Fe (h.step hf) hi);clear h hi;go_enter Tryz.func110,Tryz.ntmps110;go_wp2_with fail;refine (HL.o _ (Fr.t)).mono ?_;rintro e w1 ⟨rfl,h,hf⟩;have H:=q_ (And.intro h hf);clear h hf;go_wp2;go_ret;exact⟨rfl,H.o.1,H.o.2⟩
end
theorem Centre_has {W w:World} {b:Nat} {s:Int} {ns:List K4} {Ps:List Res} (h:Has W w (sTR b s ns::Ps)) {L:List Tr} (hr:room s ns L) {n:Nat} (hn:n+2≤256) {id:Int} {t:Tr} (hi:Is s ns (n+2) id t) (hL:ctr t∈L) :
  Calls Tryz.prog 101 #[.pointer (some ⟨b,0,none⟩),.int .i64 id] w fun e w' =>
   ∃ id' ms,e=.returned (.tuple #[.int .i64 id',.int .i64 0])∧Has W w' (sTR b s ms::Ps)∧ns <+: ms∧room s ms L∧Is s ms (n+1) id' (ctr t):=by
 obtain⟨_,_,hk⟩:=hi.node (A4 h);have hkk:∀ q,q<4→Is s ns n ((A0 s ns ((A0 s ns id).get q)).get (3 - q)) (Tr.q (Tr.q t q) (3 - q)):=fun q hq=>((hk q hq).node (A4 h)).2.2 (3 - q) o_;have HJ:=q_ (fun w1 Qs (h1:Has W w1 (sTR b s ns::Qs))=>Ak h1 hr o_ (hkk 0 o_) (hkk 1 o_) (hkk 2 o_) (hkk 3 o_) hL);have HN:=q_ (fun w1 Qs (h1:Has W w1 (sTR b s ns::Qs))=>known_has h1 hi);have HL:=q_ (fun w1 Qs (h1:Has W w1 (sTR b s ns::Qs))=>Fe h1 hi);have HK:=q_ (fun w1 Qs (h1:Has W w1 (sTR b s ns::Qs))=>Bg h1 hi);have HK1:=q_ (fun w1 Qs q (hq:q<4) (h1:Has W w1 (sTR b s ns::Qs))=>Bg h1 (hk q hq));have H:=q_ h;clear hkk hk h hr hi hL;go_enter Tryz.func101,Tryz.ntmps101;go_wp2_with fail;refine (HN.o _ _ H.o).mono ?_;rintro e w1 ⟨rfl,h,hf⟩;have H:=q_ h;clear h hf;go_wp2_with fail;refine (HL.o _ _ H.o).mono ?_;rintro e w2 ⟨rfl,h,hf⟩;have H:=q_ h;clear h hf;have hn2:decide ((n:Int)+2<2)=false:=by simp;omega
 go_wp2_with fail;have h:=(hAL H.o #[.int .i64 0,.int .i64 0,.int .i64 0,.int .i64 0] 132).swap;refine (HK.o _ _ h).mono ?_;rintro e w3 ⟨rfl,h,hf⟩;obtain⟨ib,hib⟩:∃ ib,w2.heap.size=ib:=⟨_,rfl⟩;rw [hib] at h ⊢;have H3:=q_ h;clear h hf hib H;go_wp2;go_loopw [31] (fun x wr=>∃ z:Int,x=.int .i64 z∧At5 (fun k=>Has W wr (sTR b s ns::Hp.blk ib (.cells (iv (filled 4 (fun q=>(A0 s ns ((A0 s ns id).get q)).get (3 - q)) k)).toArray 132 (0,0))::Ps)) z) (fun x _=>4 - (intOf x).toNat);case atStart =>refine⟨0,rfl,.inl ⟨rfl,?_⟩⟩;have h0:=H3.o.step (Fr.t:Fr [] w3 (w3.alloc (.cells #[.int .i64 (A0 s ns id).a,.int .i64 (A0 s ns id).b,.int .i64 (A0 s ns id).c,.int .i64 (A0 s ns id).d] 132)));exact h0
 case round =>
  obtain⟨z,rfl,hz⟩:=hrel;clear H3;rcases hz with ⟨rfl,h⟩|⟨rfl,h⟩|⟨rfl,h⟩|⟨rfl,h⟩|⟨rfl,h⟩
  ·have H:=q_ h;clear h;go_wp2_with fail;refine (HK1.o _ _ 0 o_ H.o).mono ?_;rintro e w5 ⟨rfl,h,hf⟩;have c0:=Ap h.swap (i:=0) o_;simp only [Nat.lt_irrefl,if_false] at c0;have cz:=(hCE h.swap).2.1 0;have cl:=(hCE h.swap).2.2;have H5:=q_ h;clear h hf;go_wp2;go_roundw;case rel=>exact⟨1,rfl,(.inr (.inl ⟨rfl,(B9 H5.o.swap o_ rfl).swap.step ((Fr.refl [] _).alloc _)⟩))⟩
   case measure=>simp [intOf]
  ·have H:=q_ h;clear h;go_wp2_with fail;refine (HK1.o _ _ 1 o_ H.o).mono ?_;rintro e w5 ⟨rfl,h,hf⟩;have c0:=Ap h.swap (i:=1) o_;simp only [Nat.lt_irrefl,if_false] at c0;have cz:=(hCE h.swap).2.1 1;have cl:=(hCE h.swap).2.2;have H5:=q_ h;clear h hf;go_wp2;go_roundw;case rel=>exact⟨2,rfl,(.inr (.inr (.inl ⟨rfl,(B9 H5.o.swap o_ rfl).swap.step ((Fr.refl [] _).alloc _)⟩)))⟩
   case measure=>simp [intOf]
  ·have H:=q_ h;clear h;go_wp2_with fail;refine (HK1.o _ _ 2 o_ H.o).mono ?_;rintro e w5 ⟨rfl,h,hf⟩;have c0:=Ap h.swap (i:=2) o_;simp only [Nat.lt_irrefl,if_false] at c0;have cz:=(hCE h.swap).2.1 2;have cl:=(hCE h.swap).2.2;have H5:=q_ h;clear h hf;go_wp2;go_roundw;case rel=>exact⟨3,rfl,(.inr (.inr (.inr (.inl ⟨rfl,(B9 H5.o.swap o_ rfl).swap.step ((Fr.refl [] _).alloc _)⟩))))⟩
   case measure=>simp [intOf]
  ·have H:=q_ h;clear h;go_wp2_with fail;refine (HK1.o _ _ 3 o_ H.o).mono ?_;rintro e w5 ⟨rfl,h,hf⟩;have c0:=Ap h.swap (i:=3) o_;simp only [Nat.lt_irrefl,if_false] at c0;have cz:=(hCE h.swap).2.1 3;have cl:=(hCE h.swap).2.2;have H5:=q_ h;clear h hf;go_wp2;go_roundw;case rel=>exact⟨4,rfl,(.inr (.inr (.inr (.inr ⟨rfl,(B9 H5.o.swap o_ rfl).swap.step ((Fr.refl [] _).alloc _)⟩))))⟩
   case measure=>simp [intOf]
  ·have H:=q_ h;have c0:=Ap h.swap (i:=0) o_;have c1:=Ap h.swap (i:=1) o_;have c2:=Ap h.swap (i:=2) o_;have c3:=Ap h.swap (i:=3) o_;simp only [show (0:Nat)<4 by omega,show (1:Nat)<4 by omega,show (2:Nat)<4 by omega,show (3:Nat)<4 by omega,if_true] at c0 c1 c2 c3;clear h;go_wp2_with fail;refine (HJ.o _ _ H.o).mono ?_;rintro e w9 ⟨id',ms,rfl,h1,h2,h3,h4⟩;have HF:=q_ (And.intro h1 (And.intro h2 (And.intro h3 h4)));clear h1 h2 h3 h4;go_wp2;go_ret2;exact⟨id',ms,rfl,HF.o.1.swap.drop,HF.o.2.1,HF.o.2.2.1,HF.o.2.2.2⟩
end Go.Proofs.YtebolidfbflkmaaGreat
namespace Go.Proofs.YtebolidfbflkmaaGreat
open Go Go.RowKit Rg Mp Hp Qs
def L0 (s:Int) (ns:List K4):Nat→Int→Prop
 | 0,a=>a=0
 | L+1,a=>∃ (c:Int) (i:Nat),L0 s ns L c∧ns.idxOf? (four c)=some i∧a=s+i
variable {ns:List K4}{k:K4}{i:Nat}
theorem idx_append {t:List K4} (h:ns.idxOf? k=some i):(ns++t).idxOf? k=some i:=by rw [List.idxOf?_eq_some_iff] at h ⊢;obtain⟨h1,h2,h3⟩:=h;refine⟨by simp;omega,by rw [List.getElem_append_left h1];exact h2,fun j hj=>?_⟩;rw [List.getElem_append_left o_];exact h3 j hj
theorem Vr (h:ns.idxOf? k=some i):ns[i]?=some k:=by rw [List.idxOf?_eq_some_iff] at h;obtain⟨h1,h2,_⟩:=h;rw [List.getElem?_eq_getElem h1];simpa using h2
theorem idx_last (h:ns.idxOf? k=none):(ns++[k]).idxOf? k=some ns.length:=by
 have hn:k∉ns:=by simpa using h
 rw [List.idxOf?_eq_some_iff];refine⟨i_,i_,fun j hj he=>hn ?_⟩;rw [List.getElem_append_left o_] at he;have he':ns[j]=k:=by simpa using he
 rw [← he'];exact List.getElem_mem _
theorem Ms {s:Int} {ns:List K4} (t:List K4):∀ {L:Nat} {a:Int},L0 s ns L a→L0 s (ns++t) L a
 | 0,_,h=>h
 | _+1,_,⟨c,i,h1,h2,h3⟩=>⟨c,i,Ms t h1,idx_append h2,h3⟩
theorem Oa {s:Int} {ns:List K4} (hg:GoodQ s ns):∀ {L:Nat} {a:Int},L0 s ns L a→lvl s (A8 s ns) a=L
 | 0,a,h=>by have h:a=0:=h;subst h;have:=hg.1;unfold lvl;rw [if_neg o_,if_pos o_];rfl
 | L+1,a,⟨c,i,h1,h2,h3⟩=>by subst h3;have h0:=(Ju hg (Vr h2)).1;have:=Oa hg h1;simp only [four] at h0;omega
theorem O4 {s:Int} {ns:List K4}:∀ (m:Nat) {id:Int} {n:Nat},L0 s ns n id→L0 s ns (Ca s ns m id n).2 (Ca s ns m id n).1
 | 0,_,_,h=>h
 | m+1,id,n,h=>by
  unfold Ca;split;·
   rename_i i hi;exact O4 m ⟨id,i,h,hi,rfl⟩
  ·exact h
theorem Lh {s:Int}:∀ (m:Nat) {id:Int} {n:Nat} {ns:List K4},GoodQ s ns→L0 s ns n id→n+m≤256→ns.length+m≤100000 →
  GoodQ s (grow s m id ns).2∧L0 s (grow s m id ns).2 (n+m) (grow s m id ns).1
 | 0,_,_,_,hg,h,_,_=>⟨hg,h⟩
 | m+1,id,n,ns,hg,h,hn,hl=>by
  have hlv:=Oa hg h;have hfit:Fits s ns (four id):=⟨by show 0≤lvl s (A8 s ns) id;omega,by show lvl s (A8 s ns) id<256;omega,rfl,rfl,rfl⟩;have hj:join s ns (four id)=Fj s ns (four id):=by unfold join;rw [if_neg (by show ¬ (lvl s (A8 s ns) id<0∨lvl s (A8 s ns) id<0∨lvl s (A8 s ns) id<0∨lvl s (A8 s ns) id<0);omega),if_neg (fun hh=>hh hfit)]
  unfold grow;rw [hj,show n+(m+1)=(n+1)+m by omega];cases hi:ns.idxOf? (four id) with
  | some i =>rw [Lf hi];exact Lh m hg ⟨id,i,h,hi,rfl⟩ o_ (by show ns.length+m≤100000;omega)
  | none =>rw [Le hi o_];exact Lh m (hg.snoc hfit (by simpa using hi) o_) ⟨id,ns.length,Ms _ h,idx_last hi,rfl⟩ o_ u_'
theorem empty_first {s:Int} (hg:GoodQ s ns) {L:Nat} (hL:L≤256) (hl:ns.length+L≤100000):∃ a ns',Bf s ns L=((a,0),ns')∧GoodQ s ns'∧L0 s ns' L a:=by have hk:=Ua (s:=s) (ns:=ns) L 0 0;have hc:=O4 (s:=s) (ns:=ns) L (id:=0) (n:=0) rfl;obtain⟨h1,h2⟩:=Lh (L - (Ca s ns L 0 0).2) hg hc o_ o_;rw [show (Ca s ns L 0 0).2+(L - (Ca s ns L 0 0).2)=L by omega] at h2;refine⟨_,_,?_,h1,h2⟩;unfold Bf;rw [if_neg o_,show (L:Int).toNat=L by omega,if_neg o_]
theorem Js (s:Int) (ns:List K4) (k:K4):(join s ns k).2.length≤ns.length+1:=by
 unfold join;split;·simp
 ·split;·simp
  ·unfold Fj;split;·simp
   ·split<;>simp
end Go.Proofs.YtebolidfbflkmaaGreat
namespace Go.Proofs.YtebolidfbflkmaaGreat
open Go Qs Ev
def kr (f:List K4→Nat→(Int×Int)×List K4):Nat→List K4→Int×List Int×List K4
 | 0,ns=>(0,[],ns)
 | k+1,ns=>if (kr f k ns).1≠0 then kr f k ns else if (f (kr f k ns).2.2 k).1.2=0 then (0,(kr f k ns).2.1++[(f (kr f k ns).2.2 k).1.1],(f (kr f k ns).2.2 k).2) else ((f (kr f k ns).2.2 k).1.2,(kr f k ns).2.1,(f (kr f k ns).2.2 k).2)
def k4l (l:List Int):K4:=⟨l.getD 0 0,l.getD 1 0,l.getD 2 0,l.getD 3 0⟩
def fin4 (s:Int) (f:List K4→Nat→(Int×Int)×List K4) (ns:List K4):(Int×Int)×List K4 :=
 if (kr f 4 ns).1≠0 then ((0,(kr f 4 ns).1),(kr f 4 ns).2.2) else join s (kr f 4 ns).2.2 (k4l (kr f 4 ns).2.1)
theorem M5 {f:List K4→Nat→(Int×Int)×List K4} {k:Nat} {ns ms ms':List K4} {ids:List Int} {id:Int} (h:kr f k ns=(0,ids,ms)) (h2:f ms k=((id,0),ms')):kr f (k+1) ns=(0,ids++[id],ms'):=by rw [kr,h];simp only [ne_eq,not_true_eq_false,if_false];rw [h2];simp
theorem kr_bad {f:List K4→Nat→(Int×Int)×List K4} {k:Nat} {ns ms ms':List K4} {ids:List Int} {id e:Int} (h:kr f k ns=(0,ids,ms)) (h2:f ms k=((id,e),ms')) (he:e≠0):kr f (k+1) ns=(e,ids,ms'):=by rw [kr,h];simp only [ne_eq,not_true_eq_false,if_false];rw [h2];simp [he]
theorem S5 {f:List K4→Nat→(Int×Int)×List K4} {k:Nat} {ns ms:List K4} {ids:List Int} {e:Int} (h:kr f k ns=(e,ids,ms)) (he:e≠0):∀ m,kr f (k+m) ns=(e,ids,ms)
 | 0=>h
 | m+1=>by show kr f (k+m+1) ns=_;rw [kr,S5 h he m,if_pos he]
theorem Md {s:Int} {f:List K4→Nat→(Int×Int)×List K4} {k:Nat} {ns ms ms':List K4} {ids:List Int} {id e:Int} (hk:k<4) (h:kr f k ns=(0,ids,ms)) (h2:f ms k=((id,e),ms')) (he:e≠0):fin4 s f ns=((0,e),ms'):=by have:=S5 (kr_bad h h2 he) he (3 - k);rw [show k+1+(3 - k)=4 by omega] at this;unfold fin4;rw [this,if_pos he]
theorem Vu {s:Int} {f:List K4→Nat→(Int×Int)×List K4} {ns ms:List K4} {ids:List Int} (h:kr f 4 ns=(0,ids,ms)):fin4 s f ns=join s ms (k4l ids):=by unfold fin4;rw [h,if_neg i_]
theorem N6 {f:List K4→Nat→(Int×Int)×List K4}:∀ {k:Nat} {ns ms:List K4} {ids:List Int},kr f k ns=(0,ids,ms)→ids.length=k
 | 0,ns,ms,ids,h=>by simp only [kr,Prod.mk.injEq] at h;rw [← h.2.1];rfl
 | k+1,ns,ms,ids,h=>by
  obtain⟨e,i2,m2,h2⟩:∃ e i2 m2,kr f k ns=(e,i2,m2):=⟨_,_,_,rfl⟩;by_cases he:e=0;·
   subst he;obtain⟨id,e3,m3,h3⟩:∃ id e3 m3,f m2 k=((id,e3),m3):=⟨_,_,_,rfl⟩;by_cases h4:e3=0;·
    subst h4;rw [M5 h2 h3] at h;simp only [Prod.mk.injEq] at h;rw [← h.2.1];simp [N6 h2]
   ·rw [kr_bad h2 h3 h4] at h;simp only [Prod.mk.injEq] at h;exact absurd h.1 h4
  ·have:=S5 h2 he 1;rw [this] at h;simp only [Prod.mk.injEq] at h;exact absurd h.1 he
structure Spot where
 x:Nat
 y:Nat
 st:Int
def Fi (h:Nat) (c:Spot):Nat:=(if h≤c.x then 1 else 0)+(if h≤c.y then 2 else 0)
def R4 (h:Nat) (c:Spot):Spot:=⟨if h≤c.x then c.x - h else c.x,if h≤c.y then c.y - h else c.y,c.st⟩
def Jm (h:Nat) (k:Nat) (l:List Spot):List Spot:=(l.filter fun c=>decide (Fi h c=k)).map (R4 h)
def Rx (k:K4) (q:Nat) (v:Int):K4:=if q=0 then { k with a:=v } else if q=1 then { k with b:=v } else if q=2 then { k with c:=v } else { k with d:=v }
def qd (n x y:Nat):Nat:=x / 2 ^ n % 2+2*(y / 2 ^ n % 2)
theorem qd_lt (n x y:Nat):qd n x y<4:=by unfold qd;omega
def Fh (s:Int):Nat→List K4→Int→Nat→Nat→Int→(Int×Int)×List K4
 | 0,ns,id,x,y,st=>((st,0),ns)
 | n+1,ns,id,x,y,st =>
  if (Fh s n ns ((A0 s ns id).get (qd n x y)) x y st).1.2≠0 then ((0,(Fh s n ns ((A0 s ns id).get (qd n x y)) x y st).1.2),(Fh s n ns ((A0 s ns id).get (qd n x y)) x y st).2)
  else join s (Fh s n ns ((A0 s ns id).get (qd n x y)) x y st).2 (Rx (A0 s ns id) (qd n x y) (Fh s n ns ((A0 s ns id).get (qd n x y)) x y st).1.1)
def Gk (s:Int) (ns:List K4):Nat→Int→Nat→Nat→Int
 | 0,id,_,_=>id
 | n+1,id,x,y=>Gk s ns n ((A0 s ns id).get (qd n x y)) x y
def Kr:Nat→Tr→Nat→Nat→Int→Tr
 | n+1,.node a b c d,x,y,st=>if qd n x y=0 then .node (Kr n a x y st) b c d else if qd n x y=1 then .node a (Kr n b x y st) c d else if qd n x y=2 then .node a b (Kr n c x y st) d else .node a b c (Kr n d x y st)
 | _,_,_,_,st=>.leaf st
def I2:Nat→Tr→Nat→Nat→Int
 | n+1,t,x,y=>I2 n (Tr.q t (qd n x y)) x y
 | 0,.leaf v,_,_=>v
 | 0,_,_,_=>0
theorem Tq {s:Int} {ns:List K4} (hg:GoodQ s ns):∀ {n:Nat} {id:Int} {t:Tr} {x y:Nat},Is s ns n id t→Gk s ns n id x y=I2 n t x y
 | 0,id,t,x,y,h=>by obtain⟨_,_,rfl⟩:=h.zero hg;rfl
 | n+1,id,t,x,y,h=>by show Gk s ns n _ x y=I2 n _ x y;exact Tq hg ((h.node hg).2.2 _ (qd_lt n x y))
theorem V2 {s:Int} {st:Int} (h0:0≤st) (h1:st<s) {x y:Nat}:∀ {n:Nat} {ns:List K4} {id:Int} {t:Tr},GoodQ s ns→Is s ns n id t→n≤256→ns.length+n≤90000 →
  ∃ id' ms,Fh s n ns id x y st=((id',0),ms)∧GoodQ s ms∧ns <+: ms∧ms.length≤ns.length+n∧Is s ms n id' (Kr n t x y st)
 | 0,ns,id,t,hg,h,_,_=>by obtain⟨_,_,rfl⟩:=h.zero hg;exact⟨st,ns,rfl,hg,List.prefix_refl _,Nat.le_refl _,Is.leaf h0 h1⟩
 | n+1,ns,id,t,hg,h,hn,hl=>by
  obtain⟨i,k,rfl,hk,ka,kb,kc,kd,ht⟩:=h.kids hg;have hnode:A0 s ns (s+(i:Nat))=k:=by unfold A0;rw [show (s+(i:Int) - s).toNat=i by omega,List.getD_eq_getElem?_getD,hk];rfl
  have hkq:Is s ns n (k.get (qd n x y)) (Tr.q t (qd n x y)):=by have:=(h.node hg).2.2 _ (qd_lt n x y);rwa [hnode] at this
  obtain⟨id',ms,hs,hg',hp,hl',hi'⟩:=V2 h0 h1 (x:=x) (y:=y) hg hkq o_ o_;have hq:=qd_lt n x y;have hroom:∀ u,room s ms [u]:=fun u=>room.of_len u_';have hsT:Fh s (n+1) ns (s+(i:Nat)) x y st=join s ms (Rx k (qd n x y) id'):=by show (if (Fh s n ns ((A0 s ns (s+(i:Nat))).get (qd n x y)) x y st).1.2≠0 then _ else _)=_;rw [hnode,hs,if_neg i_]
  have ga:=ka.grow hp;have gb:=kb.grow hp;have gc:=kc.grow hp;have gd:=kd.grow hp;have hput:∃ a b c d ta tb tc td,Rx k (qd n x y) id'=⟨a,b,c,d⟩∧Is s ms n a ta∧Is s ms n b tb∧Is s ms n c tc∧Is s ms n d td∧Kr (n+1) t x y st=.node ta tb tc td:=by
   have:qd n x y=0∨qd n x y=1∨qd n x y=2∨qd n x y=3:=o_;rcases this with e|e|e|e<;>rw [e] at hi' ⊢
   ·exact⟨_,_,_,_,_,_,_,_,rfl,hi',gb,gc,gd,by rw [ht];simp only [Kr,e,if_true,Tr.q]⟩
   ·exact⟨_,_,_,_,_,_,_,_,rfl,ga,hi',gc,gd,by rw [ht];simp [Kr,e,Tr.q]⟩
   ·exact⟨_,_,_,_,_,_,_,_,rfl,ga,gb,hi',gd,by rw [ht];simp [Kr,e,Tr.q]⟩
   ·exact⟨_,_,_,_,_,_,_,_,rfl,ga,gb,gc,hi',by rw [ht];simp [Kr,e,Tr.q]⟩
  obtain⟨a,b,c,d,ta,tb,tc,td,hp4,ia,ib,ic,id4,ht4⟩:=hput;obtain⟨id2,ms2,hj,hg2,hp2,_,hi2⟩:=I7 hg' (hroom (.node ta tb tc td)) o_ ia ib ic id4 i_;refine⟨id2,ms2,by rw [hsT,hp4,hj],hg2,hp.trans hp2,?_,by rw [ht4];exact hi2⟩;have:=Js s ms ⟨a,b,c,d⟩;rw [hj] at this;simp only at this;omega
theorem mod_step (x n:Nat):x % 2 ^ (n+1)=x % 2 ^ n+2 ^ n*(x / 2 ^ n % 2):=by rw [Nat.pow_succ,Nat.mod_mul]
def B0:Tr→Nat
 | .leaf v=>if v=0 then 0 else 1
 | .node a b c d=>B0 a+B0 b+B0 c+B0 d
theorem K9:∀ {n:Nat} {t:Tr},Full n t→B0 t≤4 ^ n
 | 0,.leaf v,_=>by unfold B0;split<;>simp
 | 0,.node _ _ _ _,h=>h.elim
 | n+1,.leaf _,h=>h.elim
 | n+1,.node a b c d,⟨ha,hb,hc,hd⟩=>by have:=K9 ha;have:=K9 hb;have:=K9 hc;have:=K9 hd;show B0 a+B0 b+B0 c+B0 d≤_;rw [Nat.pow_succ];omega
def Cj:Nat→Tr→Nat→Nat→List Spot
 | 0,.leaf v,x,y=>if v=0 then [] else [⟨x,y,v⟩]
 | n+1,.node a b c d,x,y=>Cj n a x y++(Cj n b (x+2 ^ n) y++(Cj n c x (y+2 ^ n)++Cj n d (x+2 ^ n) (y+2 ^ n)))
 | _,_,_,_=>[]
theorem Ek:∀ {n:Nat} {t:Tr} {x y:Nat},Full n t→(Cj n t x y).length=B0 t
 | 0,.leaf v,x,y,_=>by unfold Cj B0;split<;>simp
 | 0,.node _ _ _ _,_,_,h=>h.elim
 | n+1,.leaf _,_,_,h=>h.elim
 | n+1,.node a b c d,x,y,⟨ha,hb,hc,hd⟩=>by unfold Cj B0;rw [List.length_append,List.length_append,List.length_append,Ek ha,Ek hb,Ek hc,Ek hd];omega
theorem cellsT_none {n:Nat} {t:Tr} {x y:Nat} (h:Full n t) (h0:B0 t=0):Cj n t x y=[]:=List.length_eq_zero_iff.1 ((Ek h).trans h0)
abbrev Frm:=Int×Int×Int×Int
def Fb (o x:Option Frm) (dx dy:Int):Option Frm :=
 match x,o with
 | none,o=>o
 | some (l,t,r,b),none=>some (l+dx,t+dy,r+dx,b+dy)
 | some (l,t,r,b),some (l',t',r',b')=>some (min (l+dx) l',min (t+dy) t',max (r+dx) r',max (b+dy) b')
def frT:Nat→Tr→Option Frm
 | 0,.leaf v=>if v=0 then none else some (0,0,0,0)
 | n+1,.node a b c d=>Fb (Fb (Fb (Fb none (frT n a) 0 0) (frT n b) ((2 ^ n:Nat):Int) 0) (frT n c) 0 ((2 ^ n:Nat):Int)) (frT n d) ((2 ^ n:Nat):Int) ((2 ^ n:Nat):Int)
 | _,_=>none
def inF (h:Int) (f:Frm):Prop:=0≤f.1∧f.1<h∧0≤f.2.1∧f.2.1<h∧0≤f.2.2.1∧f.2.2.1<h∧0≤f.2.2.2∧f.2.2.2<h
theorem Jt {h:Int} {o x:Option Frm} {dx dy:Int} (ho:∀ f,o=some f→inF (h+h) f) (hx:∀ f,x=some f→inF h f) (h1:0≤dx) (h2:dx≤h) (h3:0≤dy) (h4:dy≤h):∀ f,Fb o x dx dy=some f→inF (h+h) f:=by
 intro f hf;cases x with
 | none=>exact ho f hf
 | some x =>
  obtain⟨a,b,c,d⟩:=x;obtain⟨x1,x2,x3,x4,x5,x6,x7,x8⟩:=hx _ rfl;simp only at x1 x2 x3 x4 x5 x6 x7 x8;cases o with
  | none =>simp only [Fb,Option.some.injEq] at hf;subst hf;simp only [inF];omega
  | some o =>obtain⟨a',b',c',d'⟩:=o;obtain⟨y1,y2,y3,y4,y5,y6,y7,y8⟩:=ho _ rfl;simp only at y1 y2 y3 y4 y5 y6 y7 y8;simp only [Fb,Option.some.injEq] at hf;subst hf;simp only [inF];omega
theorem Na:∀ {n:Nat} {t:Tr},∀ f,frT n t=some f→inF ((2 ^ n:Nat):Int) f
 | 0,.leaf v,f,h=>by
  unfold frT at h;split at h;·cases h
  ·simp only [Option.some.injEq] at h;subst h;simp [inF]
 | 0,.node _ _ _ _,f,h=>by simp [frT] at h
 | n+1,.leaf _,f,h=>by simp [frT] at h
 | n+1,.node a b c d,f,h=>by
  have hp:=Nat.pow_pos (n:=n) (show 0<2 by omega);rw [show (2 ^ (n+1):Nat)=2 ^ n+2 ^ n by rw [Nat.pow_succ];omega,Int.natCast_add];have h1:(0:Int)<((2 ^ n:Nat):Int):=o_
  exact Jt (Jt (Jt (Jt i_ (Na (t:=a)) o_ o_ o_ o_) (Na (t:=b)) o_ o_ o_ o_) (Na (t:=c)) o_ o_ o_ o_) (Na (t:=d)) o_ o_ o_ o_ f h
def Ab:Nat→Tr
 | 0=>.leaf 0
 | n+1=>.node (Ab n) (Ab n) (Ab n) (Ab n)
theorem Qt:∀ n,B0 (Ab n)=0
 | 0=>rfl
 | n+1=>by simp [Ab,B0,Qt n]
theorem Eh:∀ n,Full n (Ab n)
 | 0=>trivial
 | n+1=>⟨Eh n,Eh n,Eh n,Eh n⟩
def expT (n:Nat) (t:Tr):Tr :=
 .node (.node (Ab n) (Ab n) (Ab n) (Tr.q t 0)) (.node (Ab n) (Ab n) (Tr.q t 1) (Ab n)) (.node (Ab n) (Tr.q t 2) (Ab n) (Ab n)) (.node (Tr.q t 3) (Ab n) (Ab n) (Ab n))
theorem join_pre (s:Int) (ns:List K4) (k:K4):ns <+: (join s ns k).2:=by
 unfold join;split;·exact List.prefix_refl _
 ·split;·exact List.prefix_refl _
  ·unfold Fj;split;·exact List.prefix_refl _
   ·split;·exact List.prefix_refl _
    ·exact List.prefix_append _ _
theorem U3 (s:Int):∀ (m:Nat) (id:Int) (ns:List K4),ns <+: (grow s m id ns).2∧(grow s m id ns).2.length≤ns.length+m
 | 0,id,ns=>⟨List.prefix_refl _,Nat.le_refl _⟩
 | m+1,id,ns=>by obtain⟨h1,h2⟩:=U3 s m (join s ns (four id)).1.1 (join s ns (four id)).2;have:=Js s ns (four id);exact⟨(join_pre s ns (four id)).trans h1,by unfold grow;omega⟩
theorem Me {s:Int} {ns:List K4} (L:Nat):ns <+: (Bf s ns L).2∧(Bf s ns L).2.length≤ns.length+L:=by
 unfold Bf;split;·exact⟨List.prefix_refl _,i_⟩
 ·split;·exact⟨List.prefix_refl _,i_⟩
  ·obtain⟨h1,h2⟩:=U3 s (((L:Nat):Int).toNat - (Ca s ns ((L:Nat):Int).toNat 0 0).2) (Ca s ns ((L:Nat):Int).toNat 0 0).1 ns;exact⟨h1,by simp only [Int.toNat_natCast] at h2 ⊢;omega⟩
theorem Ub {s:Int} {ns:List K4} (hg:GoodQ s ns):∀ {L:Nat} {a:Int},L0 s ns L a→Is s ns L a (Ab L)
 | 0,a,h=>by have:a=0:=h;subst this;exact Is.leaf o_ (by have:=hg.1;omega)
 | L+1,a,h=>by
  obtain⟨b,i,hb,hi,rfl⟩:=h;have hk:=Vr hi;have h1:=Ub hg hb;refine⟨⟨by have:=hg.1;omega,?_⟩,?_,⟨h1.2.2.1,h1.2.2.1,h1.2.2.1,h1.2.2.1⟩,⟨h1.2.2.2,h1.2.2.2,h1.2.2.2,h1.2.2.2⟩⟩;·have:=(List.getElem?_eq_some_iff.1 hk).1;omega
  ·rw [Dc hg hk];show Tr.node (tr s ns b) (tr s ns b) (tr s ns b) (tr s ns b)=_;rw [h1.2.1];rfl
theorem U7 {s:Int} {ns:List K4} (hg:GoodQ s ns) {L:Nat} (hL:L≤256) (hl:ns.length+L≤100000):∃ a ms,Bf s ns L=((a,0),ms)∧GoodQ s ms∧ns <+: ms∧ms.length≤ns.length+L∧Is s ms L a (Ab L):=by obtain⟨a,ms,h1,h2,h3⟩:=empty_first hg hL hl;have h4:=Me (s:=s) (ns:=ns) L;rw [h1] at h4;exact⟨a,ms,h1,h2,h4.1,h4.2,Ub h2 h3⟩
open Go.RowKit Rg Mp Hp
def kQ_ (s:Int) (ns:List K4) (id:Int):Int:=if lvl s (A8 s ns) id<0 then 13 else 0
def Be (o v:Int) (k:Nat):K4:=Rx ⟨o,o,o,o⟩ k v
def J0 (s:Int) (ns:List K4) (id:Int):(Int×Int)×List K4 :=
 if lvl s (A8 s ns) id<0 then ((0,13),ns) else if lvl s (A8 s ns) id<1∨256≤lvl s (A8 s ns) id then ((0,18),ns)
 else if (Bf s ns (lvl s (A8 s ns) id - 1)).1.2≠0 then ((0,(Bf s ns (lvl s (A8 s ns) id - 1)).1.2),(Bf s ns (lvl s (A8 s ns) id - 1)).2)
 else fin4 s (fun ms k=>join s ms (Be (Bf s ns (lvl s (A8 s ns) id - 1)).1.1 ((A0 s ns id).get k) (3 - k))) (Bf s ns (lvl s (A8 s ns) id - 1)).2
def J2 (s:Int) (ns:List K4) (id:Int):(Int×Int)×List K4 :=
 if lvl s (A8 s ns) id<0 then ((0,13),ns) else if lvl s (A8 s ns) id<2 then ((0,18),ns)
 else join s ns ⟨(A0 s ns (A0 s ns id).a).get 3,(A0 s ns (A0 s ns id).b).get 2,(A0 s ns (A0 s ns id).c).get 1,(A0 s ns (A0 s ns id).d).get 0⟩
section
variable {W w:World} {b:Nat} {s:Int} {ns:List K4} {Ps:List Res}
theorem Rp (h:Has W w (sTR b s ns::Ps)) (l:Int) :
  Calls Tryz.prog 39 #[.pointer (some ⟨b,0,none⟩),.int .i64 l] w fun e w'=>e=.returned (.tuple #[.int .i64 (Bf s ns l).1.1,.int .i64 (Bf s ns l).1.2])∧Has W w' (sTR b s (Bf s ns l).2::Ps) :=
 h.upd (P':=sTR b s (Bf s ns l).2) (R:=fun e=>e=.returned (.tuple #[.int .i64 (Bf s ns l).1.1,.int .i64 (Bf s ns l).1.2])) fun F hS=>(Empty_calls hS l).mono fun e w' h=>h
theorem M6 (h:Has W w (sTR b s ns::Ps)) (id:Int) :
  Calls Tryz.prog 110 #[.pointer (some ⟨b,0,none⟩),.int .i64 id] w fun e w'=>e=.returned (.int .i64 (kQ_ s ns id))∧Has W w' (sTR b s ns::Ps)∧Fr [] w w':=by
 have HL:=q_ (fun w1 (hf:Fr [] w w1)=>Dq (h.step hf) id);clear h;obtain⟨l,hl⟩:∃ l,lvl s (A8 s ns) id=l:=⟨_,rfl⟩;unfold kQ_;rw [hl] at HL ⊢;clear hl;by_cases h0:l<0;·
  have hd:decide (l<0)=true:=by simpa using h0
  rw [if_pos h0];go_enter Tryz.func110,Tryz.ntmps110;go_wp2_with fail;refine (HL.o _ (Fr.t)).mono ?_;rintro e w1 ⟨rfl,h,hf⟩;have H:=q_ (And.intro h hf);clear h hf;go_wp2;go_ret;exact⟨rfl,H.o.1,H.o.2⟩
 ·have hd:decide (l<0)=false:=by simpa using h0
  rw [if_neg h0];go_enter Tryz.func110,Tryz.ntmps110;go_wp2_with fail;refine (HL.o _ (Fr.t)).mono ?_;rintro e w1 ⟨rfl,h,hf⟩;have H:=q_ (And.intro h hf);clear h hf;go_wp2;go_ret;exact⟨rfl,H.o.1,H.o.2⟩
theorem isState_q (h:Has W w (sTR b s ns::Ps)) (id:Int) :
  Calls Tryz.prog 128 #[.pointer (some ⟨b,0,none⟩),.int .i64 id] w fun e w'=>e=.returned (.bool (decide (0≤id∧id<s)))∧Has W w' (sTR b s ns::Ps)∧Fr [] w w':=by
 have HL:=q_ (fun w1 (hf:Fr [] w w1)=>Dq (h.step hf) id);have he:((lvl s (A8 s ns) id) == 0)=decide (0≤id∧id<s):=by
  have hg:=A4 h;by_cases hk:Kn s ns id;·
   rcases hk.cases with ⟨h0,h1⟩|⟨i,k,rfl,hi⟩
   ·rw [decide_eq_true ⟨h0,h1⟩];unfold lvl;rw [if_neg o_,if_pos h1];rfl
   ·have h2:=Ju hg hi;rw [decide_eq_false o_];rw [h2.1];simp;omega
  ·have h2:lvl s (A8 s ns) id<0:=by
    have h3:=(S6 hg id).1;exact Int.not_le.1 fun h4=>hk (h3 h4)
   rw [decide_eq_false (by unfold Kn at hk;omega)];simp;omega
 rw [← he];clear h he;obtain⟨l,hl⟩:∃ l,lvl s (A8 s ns) id=l:=⟨_,rfl⟩;rw [hl] at HL ⊢;clear hl;go_enter Tryz.func128,Tryz.ntmps128;go_wp2_with fail;refine (HL.o _ (Fr.t)).mono ?_;rintro e w1 ⟨rfl,h,hf⟩;have H:=q_ (And.intro h hf);clear h hf;go_wp2;go_ret;exact⟨rfl,H.o.1,H.o.2⟩
end
end Go.Proofs.YtebolidfbflkmaaGreat
namespace Go.Proofs.YtebolidfbflkmaaGreat
open Go Go.RowKit Rg Mp Hp Qs Ev
variable {s:Int}{ns:List K4}
theorem Fv (hg:GoodQ s ns) {id:Int} (h:0≤lvl s (A8 s ns) id):∃ n:Nat,lvl s (A8 s ns) id=n∧n≤256∧Is s ns n id (tr s ns id):=by
 refine⟨(lvl s (A8 s ns) id).toNat,o_,?_,Is.of_lvl hg o_⟩;have hk:=(S6 hg id).1 h;rcases hk.cases with ⟨h0,h1⟩|⟨i,k,rfl,hi⟩
 ·have:lvl s (A8 s ns) id=0:=by unfold lvl;rw [if_neg o_,if_pos h1]
  omega
 ·have:=Ju hg hi;omega
variable {W w:World}{b:Nat}{Ps:List Res}
theorem Centre_q (h:Has W w (sTR b s ns::Ps)) (id:Int) :
  Calls Tryz.prog 101 #[.pointer (some ⟨b,0,none⟩),.int .i64 id] w fun e w' =>
   e=.returned (.tuple #[.int .i64 (J2 s ns id).1.1,.int .i64 (J2 s ns id).1.2])∧Has W w' (sTR b s (J2 s ns id).2::Ps):=by
 have hg:=A4 h;have HN:=q_ (fun w1 Qs (h1:Has W w1 (sTR b s ns::Qs))=>M6 h1 id);have HL:=q_ (fun w1 Qs (h1:Has W w1 (sTR b s ns::Qs))=>Dq h1 id);have H:=q_ h;unfold kQ_ at HN;unfold J2;by_cases h0:lvl s (A8 s ns) id<0;·
  simp only [if_pos h0] at HN ⊢;clear HL h hg;go_enter Tryz.func101,Tryz.ntmps101;go_wp2_with fail;refine (HN.o _ _ H.o).mono ?_;rintro e w1 ⟨rfl,h,hf⟩;have H:=q_ h;clear h hf;go_wp2;go_ret2;exact⟨rfl,H.o⟩
 simp only [if_neg h0] at HN ⊢;obtain⟨m,hm,hm256,hi⟩:=Fv hg (id:=id) o_;rw [hm] at HL h0 ⊢;by_cases h2:(m:Int)<2;·
  rw [if_pos h2];have hd:decide ((m:Int)<2)=true:=by simpa using h2
  clear h hg hi hm h2;go_enter Tryz.func101,Tryz.ntmps101;go_wp2_with fail;refine (HN.o _ _ H.o).mono ?_;rintro e w1 ⟨rfl,h,hf⟩;have H:=q_ h;clear h hf;go_wp2_with fail;refine (HL.o _ _ H.o).mono ?_;rintro e w2 ⟨rfl,h,hf⟩;have H:=q_ h;clear h hf;go_wp2;go_ret2;exact⟨rfl,H.o⟩
 rw [if_neg h2];have hd:decide ((m:Int)<2)=false:=by simpa using h2
 obtain⟨n,rfl⟩:∃ n,m=n+2:=⟨m - 2,o_⟩;obtain⟨_,_,hk⟩:=hi.node hg;have HK:=q_ (fun w1 Qs (h1:Has W w1 (sTR b s ns::Qs))=>Bg h1 hi);have HK1:=q_ (fun w1 Qs q (hq:q<4) (h1:Has W w1 (sTR b s ns::Qs))=>Bg h1 (hk q hq));clear h hg hi hm h2 hk h0;go_enter Tryz.func101,Tryz.ntmps101;go_wp2_with fail;refine (HN.o _ _ H.o).mono ?_;rintro e w1 ⟨rfl,h,hf⟩;have H:=q_ h;clear h hf;go_wp2_with fail;refine (HL.o _ _ H.o).mono ?_;rintro e w2 ⟨rfl,h,hf⟩;have H:=q_ h;clear h hf;go_wp2_with fail;have h:=(hAL H.o #[.int .i64 0,.int .i64 0,.int .i64 0,.int .i64 0] 132).swap;refine (HK.o _ _ h).mono ?_;rintro e w3 ⟨rfl,h,hf⟩;obtain⟨ib,hib⟩:∃ ib,w2.heap.size=ib:=⟨_,rfl⟩;rw [hib] at h ⊢;have H3:=q_ h;clear h hf hib H;go_wp2;go_loopw [31] (fun x wr=>∃ z:Int,x=.int .i64 z∧At5 (fun k=>Has W wr (sTR b s ns::Hp.blk ib (.cells (iv (filled 4 (fun q=>(A0 s ns ((A0 s ns id).get q)).get (3 - q)) k)).toArray 132 (0,0))::Ps)) z) (fun x _=>4 - (intOf x).toNat);case atStart =>refine⟨0,rfl,.inl ⟨rfl,?_⟩⟩;have h0:=H3.o.step (Fr.t:Fr [] w3 (w3.alloc (.cells #[.int .i64 (A0 s ns id).a,.int .i64 (A0 s ns id).b,.int .i64 (A0 s ns id).c,.int .i64 (A0 s ns id).d] 132)));exact h0
 case round =>
  obtain⟨z,rfl,hz⟩:=hrel;clear H3;rcases hz with ⟨rfl,h⟩|⟨rfl,h⟩|⟨rfl,h⟩|⟨rfl,h⟩|⟨rfl,h⟩
  ·have H:=q_ h;clear h;go_wp2_with fail;refine (HK1.o _ _ 0 o_ H.o).mono ?_;rintro e w5 ⟨rfl,h,hf⟩;have c0:=Ap h.swap (i:=0) o_;simp only [Nat.lt_irrefl,if_false] at c0;have cz:=(hCE h.swap).2.1 0;have cl:=(hCE h.swap).2.2;have H5:=q_ h;clear h hf;go_wp2;go_roundw;case rel=>exact⟨1,rfl,(.inr (.inl ⟨rfl,(B9 H5.o.swap o_ rfl).swap.step ((Fr.refl [] _).alloc _)⟩))⟩
   case measure=>simp [intOf]
  ·have H:=q_ h;clear h;go_wp2_with fail;refine (HK1.o _ _ 1 o_ H.o).mono ?_;rintro e w5 ⟨rfl,h,hf⟩;have c0:=Ap h.swap (i:=1) o_;simp only [Nat.lt_irrefl,if_false] at c0;have cz:=(hCE h.swap).2.1 1;have cl:=(hCE h.swap).2.2;have H5:=q_ h;clear h hf;go_wp2;go_roundw;case rel=>exact⟨2,rfl,(.inr (.inr (.inl ⟨rfl,(B9 H5.o.swap o_ rfl).swap.step ((Fr.refl [] _).alloc _)⟩)))⟩
   case measure=>simp [intOf]
  ·have H:=q_ h;clear h;go_wp2_with fail;refine (HK1.o _ _ 2 o_ H.o).mono ?_;rintro e w5 ⟨rfl,h,hf⟩;have c0:=Ap h.swap (i:=2) o_;simp only [Nat.lt_irrefl,if_false] at c0;have cz:=(hCE h.swap).2.1 2;have cl:=(hCE h.swap).2.2;have H5:=q_ h;clear h hf;go_wp2;go_roundw;case rel=>exact⟨3,rfl,(.inr (.inr (.inr (.inl ⟨rfl,(B9 H5.o.swap o_ rfl).swap.step ((Fr.refl [] _).alloc _)⟩))))⟩
   case measure=>simp [intOf]
  ·have H:=q_ h;clear h;go_wp2_with fail;refine (HK1.o _ _ 3 o_ H.o).mono ?_;rintro e w5 ⟨rfl,h,hf⟩;have c0:=Ap h.swap (i:=3) o_;simp only [Nat.lt_irrefl,if_false] at c0;have cz:=(hCE h.swap).2.1 3;have cl:=(hCE h.swap).2.2;have H5:=q_ h;clear h hf;go_wp2;go_roundw;case rel=>exact⟨4,rfl,(.inr (.inr (.inr (.inr ⟨rfl,(B9 H5.o.swap o_ rfl).swap.step ((Fr.refl [] _).alloc _)⟩))))⟩
   case measure=>simp [intOf]
  ·have H:=q_ h;have c0:=Ap h.swap (i:=0) o_;have c1:=Ap h.swap (i:=1) o_;have c2:=Ap h.swap (i:=2) o_;have c3:=Ap h.swap (i:=3) o_;simp only [show (0:Nat)<4 by omega,show (1:Nat)<4 by omega,show (2:Nat)<4 by omega,show (3:Nat)<4 by omega,if_true] at c0 c1 c2 c3;clear h;go_wp2_with fail;refine (D1 H.o _ _ _ _).mono ?_;rintro e w9 ⟨rfl,h1⟩;have HF:=q_ h1;clear h1;go_wp2;go_ret2;exact⟨rfl,HF.o.swap.drop⟩
def mixL (k:K4) (ids:List Int):List Int:=ids++[k.a,k.b,k.c,k.d].drop ids.length
theorem len2 {α:Type} {l:List α} (h:l.length=2):∃ a b,l=[a,b]:=by
 rcases l with _|⟨a,_|⟨b,_|⟨c,l⟩⟩⟩<;>simp at h
 exact⟨_,_,rfl⟩
theorem len3 {α:Type} {l:List α} (h:l.length=3):∃ a b c,l=[a,b,c]:=by
 rcases l with _|⟨a,_|⟨b,_|⟨c,_|⟨d,l⟩⟩⟩⟩<;>simp at h
 exact⟨_,_,_,rfl⟩
theorem len4 {α:Type} {l:List α} (h:l.length=4):∃ a b c d,l=[a,b,c,d]:=by
 rcases l with _|⟨a,_|⟨b,_|⟨c,_|⟨d,_|⟨e,l⟩⟩⟩⟩⟩<;>simp at h
 exact⟨_,_,_,_,rfl⟩
theorem Expand_q (h:Has W w (sTR b s ns::Ps)) (id:Int) :
  Calls Tryz.prog 96 #[.pointer (some ⟨b,0,none⟩),.int .i64 id] w fun e w' =>
   e=.returned (.tuple #[.int .i64 (J0 s ns id).1.1,.int .i64 (J0 s ns id).1.2])∧Has W w' (sTR b s (J0 s ns id).2::Ps):=by
 have hg:=A4 h;have HN:=q_ (fun w1 Qs (h1:Has W w1 (sTR b s ns::Qs))=>M6 h1 id);have HL:=q_ (fun w1 Qs (h1:Has W w1 (sTR b s ns::Qs))=>Dq h1 id);have H:=q_ h;unfold kQ_ at HN;unfold J0;by_cases h0:lvl s (A8 s ns) id<0;·
  simp only [if_pos h0] at HN ⊢;clear HL h hg;go_enter Tryz.func96,Tryz.ntmps96;go_wp2_with fail;refine (HN.o _ _ H.o).mono ?_;rintro e w1 ⟨rfl,h,hf⟩;have H:=q_ h;clear h hf;go_wp2;go_ret2;exact⟨rfl,H.o⟩
 simp only [if_neg h0] at HN ⊢;obtain⟨m,hm,hm256,hi⟩:=Fv hg (id:=id) o_;rw [hm] at HL h0 ⊢;by_cases h1:(m:Int)<1;·
  rw [if_pos (.inl h1)];have hd:decide ((m:Int)<1)=true:=by simpa using h1
  clear h hg hi hm h1;go_enter Tryz.func96,Tryz.ntmps96;go_wp2_with fail;refine (HN.o _ _ H.o).mono ?_;rintro e w1 ⟨rfl,h,hf⟩;have H:=q_ h;clear h hf;go_wp2_with fail;refine (HL.o _ _ H.o).mono ?_;rintro e w2 ⟨rfl,h,hf⟩;have H:=q_ h;clear h hf;go_wp2;go_ret2;exact⟨rfl,H.o⟩
 have hd:decide ((m:Int)<1)=false:=by simpa using h1
 by_cases h2:256≤(m:Int);·
  rw [if_pos (.inr h2)];have hd2:decide ((m:Int) ≥ 256)=true:=by simpa using h2
  clear h hg hi hm h1 h2;go_enter Tryz.func96,Tryz.ntmps96;go_wp2_with fail;refine (HN.o _ _ H.o).mono ?_;rintro e w1 ⟨rfl,h,hf⟩;have H:=q_ h;clear h hf;go_wp2_with fail;refine (HL.o _ _ H.o).mono ?_;rintro e w2 ⟨rfl,h,hf⟩;have H:=q_ h;clear h hf;go_wp2;go_ret2;exact⟨rfl,H.o⟩
 have hd2:decide ((m:Int) ≥ 256)=false:=by simpa using h2
 rw [if_neg o_];obtain⟨⟨o,eo⟩,no,hE⟩:∃ (r:Int×Int) (no:List K4),Bf s ns ((m:Int) - 1)=(r,no):=⟨_,_,rfl⟩;have HE:=q_ (fun w1 Qs (h1:Has W w1 (sTR b s ns::Qs))=>Rp h1 ((m:Int) - 1));rw [hE] at HE ⊢;simp only at HE ⊢;by_cases heo:eo=0;case neg =>
  rw [if_pos heo];have hb:(eo != 0)=true:=by simpa using heo
  clear h hg hi hm h1 h2 hE h0;go_enter Tryz.func96,Tryz.ntmps96;go_wp2_with fail;refine (HN.o _ _ H.o).mono ?_;rintro e w1 ⟨rfl,h,hf⟩;have H:=q_ h;clear h hf;go_wp2_with fail;refine (HL.o _ _ H.o).mono ?_;rintro e w2 ⟨rfl,h,hf⟩;have H:=q_ h;clear h hf;go_wp2_with fail;refine (HE.o _ _ H.o).mono ?_;rintro e w3 ⟨rfl,h⟩;have H3:=q_ h;clear h;go_wp2;go_ret2;exact⟨rfl,H3.o⟩
 subst heo;rw [if_neg i_];have hb:((0:Int) != 0)=false:=rfl;obtain⟨n,hnm⟩:∃ n,m=n+1:=⟨m - 1,o_⟩;have hpre:ns <+: no:=by have:=Me (s:=s) (ns:=ns) n;rw [show ((m:Int) - 1)=((n:Nat):Int) by omega] at hE;rw [hE] at this;exact this.1
 rw [hnm] at hi;have hi':=hi.grow hpre;have hnode:A0 s no id=A0 s ns id:=by obtain⟨i,k,rfl,hk,_⟩:=hi.kids hg;obtain⟨xs,rfl⟩:=hpre;have hlt:=(List.getElem?_eq_some_iff.1 hk).1;unfold A0;rw [List.getD_eq_getElem?_getD,List.getD_eq_getElem?_getD,List.getElem?_append_left o_]
 have HK:=q_ (fun w1 Qs (h1:Has W w1 (sTR b s no::Qs))=>Bg h1 hi');rw [hnode] at HK;clear h hg hi hm h1 h2 hE h0 hi' hnode hpre hnm;go_enter Tryz.func96,Tryz.ntmps96;go_wp2_with fail;refine (HN.o _ _ H.o).mono ?_;rintro e w1 ⟨rfl,h,hf⟩;have H:=q_ h;clear h hf;go_wp2_with fail;refine (HL.o _ _ H.o).mono ?_;rintro e w2 ⟨rfl,h,hf⟩;have H:=q_ h;clear h hf;go_wp2_with fail;refine (HE.o _ _ H.o).mono ?_;rintro e w3 ⟨rfl,h⟩;have H3:=q_ h;clear h;go_wp2_with fail;refine (HK.o _ _ H3.o).mono ?_;rintro e w4 ⟨rfl,h,hf⟩;have h:=(hAL h #[.int .i64 (A0 s ns id).a,.int .i64 (A0 s ns id).b,.int .i64 (A0 s ns id).c,.int .i64 (A0 s ns id).d] 132).swap;obtain⟨ib,hib⟩:∃ ib,w4.heap.size=ib:=⟨_,rfl⟩;rw [hib] at h;have H4:=q_ h;clear h hf H3;go_wp2;clear hib;go_loopw [45] (fun x wr=>∃ z:Int,x=.int .i64 z∧At5 (fun k=>∃ ids ms,kr (fun ms k=>join s ms (Be o ((A0 s ns id).get k) (3 - k))) k no=(0,ids,ms)∧Has W wr (sTR b s ms::Hp.blk ib (.cells (iv (mixL (A0 s ns id) ids)).toArray 132 (0,0))::Ps)) z) (fun x _=>4 - (intOf x).toNat);case atStart=>exact⟨0,rfl,.inl ⟨rfl,[],no,rfl,H4.o⟩⟩
 case round =>
  obtain⟨z,rfl,hz⟩:=hrel;clear H4;rcases hz with ⟨rfl,hz⟩|⟨rfl,hz⟩|⟨rfl,hz⟩|⟨rfl,hz⟩|⟨rfl,hz⟩
  ·obtain⟨ids,ms,hkr,h⟩:=hz;have hl:=N6 hkr;obtain rfl:=List.length_eq_zero_iff.1 hl;have Hkr:=q_ hkr;have c0:_=some (Value.int .i64 ((A0 s ns id).get 0)):=(hCE h.swap).1 0;have cz:=(hCE h.swap).2.1 0;have cl:=(hCE h.swap).2.2;have H:=q_ h;clear h hkr hl;go_wp2_with fail;refine (D1 (H.o.step (Fr.t)) _ _ _ _).mono ?_;obtain⟨id5,e5,ms5,hj⟩:∃ id5 e5 ms5,join s ms (Be o ((A0 s ns id).get 0) (3 - 0))=((id5,e5),ms5):=⟨_,_,_,rfl⟩;rintro e w5 ⟨rfl,h1⟩;rw [show (⟨o,o,o,(A0 s ns id).get 0⟩:K4)=Be o ((A0 s ns id).get 0) (3 - 0) from rfl,hj] at h1 ⊢;clear c0 cz cl;have c0:_=some (Value.int .i64 ((A0 s ns id).get 0)):=(hCE h1.swap).1 0;have cz:=(hCE h1.swap).2.1 0;have cl:=(hCE h1.swap).2.2;by_cases he5:e5=0;·
    subst he5;have hb5:((0:Int) != 0)=false:=rfl;have Hkr5:=q_ (M5 Hkr.o (show (fun ms k=>join s ms (Be o ((A0 s ns id).get k) (3 - k))) ms 0=((id5,0),ms5) from hj));have H5:=q_ h1;clear h1 hj;go_wp2;go_roundw;case rel=>exact⟨1,rfl,(.inr (.inl ⟨rfl,_,_,Hkr5.o,(hST H5.o.swap 0 _).swap⟩))⟩
    case measure=>simp [intOf]
   ·have hb5:(e5 != 0)=true:=(by simpa using he5);have HF5:=q_ (Md (s:=s) o_ Hkr.o (show (fun ms k=>join s ms (Be o ((A0 s ns id).get k) (3 - k))) ms 0=((id5,e5),ms5) from hj) he5);have H5:=q_ h1;clear h1 hj he5;go_wp2;go_ret2;rw [HF5.o];exact⟨rfl,(hST H5.o.swap 0 _).drop⟩
  ·obtain⟨ids,ms,hkr,h⟩:=hz;have hl:=N6 hkr;obtain⟨i0,rfl⟩:=List.length_eq_one_iff.1 hl;have Hkr:=q_ hkr;have c0:_=some (Value.int .i64 ((A0 s ns id).get 1)):=(hCE h.swap).1 1;have cz:=(hCE h.swap).2.1 1;have cl:=(hCE h.swap).2.2;have H:=q_ h;clear h hkr hl;go_wp2_with fail;refine (D1 (H.o.step (Fr.t)) _ _ _ _).mono ?_;obtain⟨id5,e5,ms5,hj⟩:∃ id5 e5 ms5,join s ms (Be o ((A0 s ns id).get 1) (3 - 1))=((id5,e5),ms5):=⟨_,_,_,rfl⟩;rintro e w5 ⟨rfl,h1⟩;rw [show (⟨o,o,(A0 s ns id).get 1,o⟩:K4)=Be o ((A0 s ns id).get 1) (3 - 1) from rfl,hj] at h1 ⊢;clear c0 cz cl;have c0:_=some (Value.int .i64 ((A0 s ns id).get 1)):=(hCE h1.swap).1 1;have cz:=(hCE h1.swap).2.1 1;have cl:=(hCE h1.swap).2.2;by_cases he5:e5=0;·
    subst he5;have hb5:((0:Int) != 0)=false:=rfl;have Hkr5:=q_ (M5 Hkr.o (show (fun ms k=>join s ms (Be o ((A0 s ns id).get k) (3 - k))) ms 1=((id5,0),ms5) from hj));have H5:=q_ h1;clear h1 hj;go_wp2;go_roundw;case rel=>exact⟨2,rfl,(.inr (.inr (.inl ⟨rfl,_,_,Hkr5.o,(hST H5.o.swap 1 _).swap⟩)))⟩
    case measure=>simp [intOf]
   ·have hb5:(e5 != 0)=true:=(by simpa using he5);have HF5:=q_ (Md (s:=s) o_ Hkr.o (show (fun ms k=>join s ms (Be o ((A0 s ns id).get k) (3 - k))) ms 1=((id5,e5),ms5) from hj) he5);have H5:=q_ h1;clear h1 hj he5;go_wp2;go_ret2;rw [HF5.o];exact⟨rfl,(hST H5.o.swap 1 _).drop⟩
  ·obtain⟨ids,ms,hkr,h⟩:=hz;have hl:=N6 hkr;obtain⟨i0,i1,rfl⟩:=len2 hl;have Hkr:=q_ hkr;have c0:_=some (Value.int .i64 ((A0 s ns id).get 2)):=(hCE h.swap).1 2;have cz:=(hCE h.swap).2.1 2;have cl:=(hCE h.swap).2.2;have H:=q_ h;clear h hkr hl;go_wp2_with fail;refine (D1 (H.o.step (Fr.t)) _ _ _ _).mono ?_;obtain⟨id5,e5,ms5,hj⟩:∃ id5 e5 ms5,join s ms (Be o ((A0 s ns id).get 2) (3 - 2))=((id5,e5),ms5):=⟨_,_,_,rfl⟩;rintro e w5 ⟨rfl,h1⟩;rw [show (⟨o,(A0 s ns id).get 2,o,o⟩:K4)=Be o ((A0 s ns id).get 2) (3 - 2) from rfl,hj] at h1 ⊢;clear c0 cz cl;have c0:_=some (Value.int .i64 ((A0 s ns id).get 2)):=(hCE h1.swap).1 2;have cz:=(hCE h1.swap).2.1 2;have cl:=(hCE h1.swap).2.2;by_cases he5:e5=0;·
    subst he5;have hb5:((0:Int) != 0)=false:=rfl;have Hkr5:=q_ (M5 Hkr.o (show (fun ms k=>join s ms (Be o ((A0 s ns id).get k) (3 - k))) ms 2=((id5,0),ms5) from hj));have H5:=q_ h1;clear h1 hj;go_wp2;go_roundw;case rel=>exact⟨3,rfl,(.inr (.inr (.inr (.inl ⟨rfl,_,_,Hkr5.o,(hST H5.o.swap 2 _).swap⟩))))⟩
    case measure=>simp [intOf]
   ·have hb5:(e5 != 0)=true:=(by simpa using he5);have HF5:=q_ (Md (s:=s) o_ Hkr.o (show (fun ms k=>join s ms (Be o ((A0 s ns id).get k) (3 - k))) ms 2=((id5,e5),ms5) from hj) he5);have H5:=q_ h1;clear h1 hj he5;go_wp2;go_ret2;rw [HF5.o];exact⟨rfl,(hST H5.o.swap 2 _).drop⟩
  ·obtain⟨ids,ms,hkr,h⟩:=hz;have hl:=N6 hkr;obtain⟨i0,i1,i2,rfl⟩:=len3 hl;have Hkr:=q_ hkr;have c0:_=some (Value.int .i64 ((A0 s ns id).get 3)):=(hCE h.swap).1 3;have cz:=(hCE h.swap).2.1 3;have cl:=(hCE h.swap).2.2;have H:=q_ h;clear h hkr hl;go_wp2_with fail;refine (D1 (H.o.step (Fr.t)) _ _ _ _).mono ?_;obtain⟨id5,e5,ms5,hj⟩:∃ id5 e5 ms5,join s ms (Be o ((A0 s ns id).get 3) (3 - 3))=((id5,e5),ms5):=⟨_,_,_,rfl⟩;rintro e w5 ⟨rfl,h1⟩;rw [show (⟨(A0 s ns id).get 3,o,o,o⟩:K4)=Be o ((A0 s ns id).get 3) (3 - 3) from rfl,hj] at h1 ⊢;clear c0 cz cl;have c0:_=some (Value.int .i64 ((A0 s ns id).get 3)):=(hCE h1.swap).1 3;have cz:=(hCE h1.swap).2.1 3;have cl:=(hCE h1.swap).2.2;by_cases he5:e5=0;·
    subst he5;have hb5:((0:Int) != 0)=false:=rfl;have Hkr5:=q_ (M5 Hkr.o (show (fun ms k=>join s ms (Be o ((A0 s ns id).get k) (3 - k))) ms 3=((id5,0),ms5) from hj));have H5:=q_ h1;clear h1 hj;go_wp2;go_roundw;case rel=>exact⟨4,rfl,(.inr (.inr (.inr (.inr ⟨rfl,_,_,Hkr5.o,(hST H5.o.swap 3 _).swap⟩))))⟩
    case measure=>simp [intOf]
   ·have hb5:(e5 != 0)=true:=(by simpa using he5);have HF5:=q_ (Md (s:=s) o_ Hkr.o (show (fun ms k=>join s ms (Be o ((A0 s ns id).get k) (3 - k))) ms 3=((id5,e5),ms5) from hj) he5);have H5:=q_ h1;clear h1 hj he5;go_wp2;go_ret2;rw [HF5.o];exact⟨rfl,(hST H5.o.swap 3 _).drop⟩
  ·obtain⟨ids,ms,hkr,h⟩:=hz;obtain⟨i0,i1,i2,i3,rfl⟩:=len4 (N6 hkr);have c0:_=some (Value.int .i64 i0):=(hCE h.swap).1 0;have c1:_=some (Value.int .i64 i1):=(hCE h.swap).1 1;have c2:_=some (Value.int .i64 i2):=(hCE h.swap).1 2;have c3:_=some (Value.int .i64 i3):=(hCE h.swap).1 3;have cl:=(hCE h.swap).2.2;have HF:=q_ (Vu (s:=s) hkr);have H:=q_ h;clear h hkr;go_wp2_with fail;refine (D1 H.o _ _ _ _).mono ?_;rintro e w5 ⟨rfl,h1⟩;have H5:=q_ h1;clear h1;go_wp2;go_ret2;rw [HF.o];exact⟨rfl,H5.o.swap.drop⟩
end Go.Proofs.YtebolidfbflkmaaGreat
