/- Own texts of this claim, part 6: no condition. -/
import Derived.Maps.AppendAt
import Derived.Laws.AppendOwnNone
import Derived.Deep.MidRow
import Derived.Test.YtdanghnadbkhfaaGreatZG3
import Derived.Test.YtdanghnadbkhfaaGreatZG4
set_option linter.unusedVariables false
set_option linter.unusedSimpArgs false
section
namespace Go.Proofs.Hp
open Go Go.RowKit
structure Res where
 holds:World→List Nat→Prop
 keep:∀ {w w':World} {F:List Nat},holds w F→(∀ x∈F,w'.heap[x]?=w.heap[x]?)→holds w' F
 lt:∀ {w:World} {F:List Nat},holds w F→∀ x∈F,x<w.heap.size
def Seps (w:World):List Res→List Nat→Prop
 | [],F=>F=[]
 | P::Ps,F=>∃ F1 F2,P.holds w F1∧Seps w Ps F2∧(∀ x∈F1,x∉F2)∧F=F1++F2
def Has (W w:World) (Ps:List Res):Prop:=∃ F,Seps w Ps F∧Fr [] W w∧∀ x∈F,W.heap.size≤x
theorem Seps.keep {w w':World}:∀ {Ps:List Res} {F:List Nat},Seps w Ps F→(∀ x∈F,w'.heap[x]?=w.heap[x]?)→Seps w' Ps F
 | [],_,h,_=>h
 | P::Ps,F,⟨F1,F2,h1,h2,h3,h4⟩,hk=>⟨F1,F2,P.keep h1 fun x hx=>hk x (by rw [h4];simp [hx]),Seps.keep h2 fun x hx=>hk x (by rw [h4];simp [hx]),h3,h4⟩
theorem Seps.lt {w:World}:∀ {Ps:List Res} {F:List Nat},Seps w Ps F→∀ x∈F,x<w.heap.size
 | [],_,h,x,hx=>by rw [show _=[] from h] at hx;cases hx
 | P::Ps,F,⟨F1,F2,h1,h2,h3,h4⟩,x,hx=>by
  rw [h4,List.mem_append] at hx
  rcases hx with hx|hx
  ·exact P.lt h1 x hx
  ·exact Seps.lt h2 x hx
section
variable {W w w':World} {P P' Q:Res} {Ps:List Res}
theorem Has.fr (h:Has W w Ps):Fr [] W w:=by obtain⟨_,_,h,_⟩:=h;exact h
theorem Has.nil (h:Fr [] W w):Has W w []:=⟨[],rfl,h,by simp⟩
theorem Has.step (h:Has W w Ps) (hf:Fr [] w w'):Has W w' Ps:=by
 obtain⟨F,h1,h2,h3⟩:=h
 exact⟨F,h1.keep fun x hx=>hf.block x (h1.lt x hx) (by simp),h2.trans0 hf,h3⟩
theorem Has.drew (h:Has W w Ps) (hd:Drew w w'):Has W w' Ps:=h.step (hd.fr _)
theorem Has.head (h:Has W w (P::Ps)):∃ F,P.holds w F:=by obtain⟨F,⟨F1,F2,h1,_⟩,_⟩:=h;exact⟨F1,h1⟩
theorem Has.new {F:List Nat} (h:Has W w Ps) (hf:Fr [] w w') (hP:P.holds w' F) (hF:∀ x∈F,w.heap.size≤x):Has W w' (P::Ps):=by
 obtain⟨G,h1,h2,h3⟩:=h
 refine⟨F++G,⟨F,G,hP,h1.keep fun x hx=>hf.block x (h1.lt x hx) (by simp),fun x hx hx'=>?_,rfl⟩,h2.trans0 hf,fun x hx=>?_⟩
 ·have:=hF x hx;have:=h1.lt x hx';omega
 ·rw [List.mem_append] at hx
  rcases hx with hx|hx
  ·have:=hF x hx;have:=h2.size;omega
  ·exact h3 x hx
theorem Has.swap (h:Has W w (P::Q::Ps)):Has W w (Q::P::Ps):=by
 obtain⟨F,⟨F1,F2,h1,⟨G1,G2,g1,g2,g3,rfl⟩,h3,rfl⟩,hf,hge⟩:=h
 refine⟨G1++(F1++G2),⟨G1,F1++G2,g1,⟨F1,G2,h1,g2,fun x hx hx'=>h3 x hx (by simp [hx']),rfl⟩,fun x hx hx'=>?_,rfl⟩,hf,fun x hx=>hge x ?_⟩
 ·rw [List.mem_append] at hx'
  rcases hx' with h|h
  ·exact h3 x h (by simp [hx])
  ·exact g3 x hx h
 ·simp only [List.mem_append] at hx ⊢
  rcases hx with h|h|h<;>simp [h]
theorem Has.drop (h:Has W w (P::Ps)):Has W w Ps:=by
 obtain⟨F,⟨F1,F2,h1,h2,h3,rfl⟩,hf,hge⟩:=h
 exact⟨F2,h2,hf,fun x hx=>hge x (by simp [hx])⟩
theorem Has.upd (h:Has W w (P::Ps)) {R:Ending→Prop} {Pr:Program} {f:FuncId} {args:Array Value}
  (hc:∀ F,P.holds w F→Calls Pr f args w fun e w'=>R e∧∃ F',P'.holds w' F'∧Fr F w w'∧∀ x∈F',x∈F∨w.heap.size≤x):Calls Pr f args w fun e w'=>R e∧Has W w' (P'::Ps):=by
 obtain⟨F,⟨F1,F2,h1,h2,h3,rfl⟩,hf,hge⟩:=h
 refine (hc F1 h1).mono ?_
 rintro e w' ⟨hR,F',hP,hf',hs⟩
 refine⟨hR,F'++F2,⟨F',F2,hP,h2.keep fun x hx=>hf'.block x (h2.lt x hx) fun hx'=>h3 x hx' hx,fun x hx hx'=>?_,rfl⟩,hf.trans hf' fun x hx=>.inr (hge x (by simp [hx])),fun x hx=>?_⟩
 ·rcases hs x hx with h|h
  ·exact h3 x h hx'
  ·have:=h2.lt x hx';omega
 ·rw [List.mem_append] at hx
  rcases hx with hx|hx
  ·rcases hs x hx with h|h
   ·exact hge x (by simp [h])
   ·have:=hf.size;omega
  ·exact hge x (by simp [hx])
theorem Has.turn (h:Has W w (P::Ps)) (hc:∀ F,P.holds w F→∃ F',P'.holds w' F'∧Fr F w w'∧∀ x∈F',x∈F∨w.heap.size≤x):Has W w' (P'::Ps):=by
 obtain⟨F,⟨F1,F2,h1,h2,h3,rfl⟩,hf,hge⟩:=h
 obtain⟨F',hP,hf',hs⟩:=hc F1 h1
 refine⟨F'++F2,⟨F',F2,hP,h2.keep fun x hx=>hf'.block x (h2.lt x hx) fun hx'=>h3 x hx' hx,fun x hx hx'=>?_,rfl⟩,hf.trans hf' fun x hx=>.inr (hge x (by simp [hx])),fun x hx=>?_⟩
 ·rcases hs x hx with h|h
  ·exact h3 x h hx'
  ·have:=h2.lt x hx';omega
 ·rw [List.mem_append] at hx
  rcases hx with hx|hx
  ·rcases hs x hx with h|h
   ·exact hge x (by simp [h])
   ·have:=hf.size;omega
  ·exact hge x (by simp [hx])
theorem Has.look (h:Has W w (P::Ps)) {R:Ending→World→Prop} {Pr:Program} {f:FuncId} {args:Array Value}
  (hc:∀ F,P.holds w F→Calls Pr f args w fun e w'=>R e w'∧Fr [] w w'):Calls Pr f args w fun e w'=>R e w'∧Has W w' (P::Ps):=by
 obtain⟨F,hP⟩:=h.head
 exact (hc F hP).mono fun e w' ⟨h1,h2⟩=>⟨h1,h.step h2⟩
end
theorem Seps.perm {w:World} {Ps Qs:List Res} (p:Ps.Perm Qs):∀ {F:List Nat},Seps w Ps F→∃ G,Seps w Qs G∧∀ x,x∈G↔x∈F:=by
 induction p with
 | nil=>exact fun h=>⟨_,h,fun x=>Iff.rfl⟩
 | cons P _ ih =>
  rintro F ⟨F1,F2,h1,h2,h3,rfl⟩
  obtain⟨G,g1,g2⟩:=ih h2
  exact⟨F1++G,⟨F1,G,h1,g1,fun x hx hx'=>h3 x hx ((g2 x).1 hx'),rfl⟩,fun x=>by simp [g2]⟩
 | swap P Q l =>
  rintro F ⟨F1,F2,h1,⟨G1,G2,g1,g2,g3,rfl⟩,h3,rfl⟩
  refine⟨G1++(F1++G2),⟨G1,F1++G2,g1,⟨F1,G2,h1,g2,fun x hx hx'=>h3 x hx (by simp [hx']),rfl⟩,fun x hx hx'=>?_,rfl⟩,fun x=>?_⟩
  ·rw [List.mem_append] at hx'
   rcases hx' with h|h
   ·exact h3 x h (by simp [hx])
   ·exact g3 x hx h
  ·simp only [List.mem_append]
   constructor<;>intro h<;>rcases h with h|h|h<;>simp [h]
 | trans _ _ ih1 ih2 =>
  intro F h
  obtain⟨G,g1,g2⟩:=ih1 h
  obtain⟨G',g1',g2'⟩:=ih2 g1
  exact⟨G',g1',fun x=>(g2' x).trans (g2 x)⟩
theorem Has.perm {W w:World} {Ps Qs:List Res} (h:Has W w Ps) (p:Ps.Perm Qs):Has W w Qs:=by
 obtain⟨F,h1,h2,h3⟩:=h
 obtain⟨G,g1,g2⟩:=h1.perm p
 exact⟨G,g1,h2,fun x hx=>h3 x ((g2 x).1 hx)⟩
theorem Has.third {W w:World} {A B C:Res} {Ps:List Res} (h:Has W w (A::B::C::Ps)):Has W w (C::A::B::Ps):=h.perm (((List.Perm.swap C B Ps).cons A).trans (List.Perm.swap C A (B::Ps)))
theorem Has.fourth {W w:World} {A B C D:Res} {Ps:List Res} (h:Has W w (A::B::C::D::Ps)):Has W w (D::A::B::C::Ps) :=
 h.perm (((((List.Perm.swap D C Ps).cons B).trans (List.Perm.swap D B (C::Ps))).cons A).trans (List.Perm.swap D A (B::C::Ps)))
def blk (b:Nat) (o:Obj):Res where
 holds w F:=w.heap[b]?=some o∧F=[b]
 keep:=fun ⟨h1,h2⟩ hk=>⟨by rw [hk b (by simp [h2])];exact h1,h2⟩
 lt:=fun ⟨h1,h2⟩ x hx=>by rw [h2] at hx;simp at hx;subst hx;exact lBk h1
theorem Has.blk {W w:World} {Ps:List Res} {b:Nat} {o:Obj} (h:Has W w (Hp.blk b o::Ps)):w.heap[b]?=some o:=by obtain⟨F,h1,_⟩:=h.head;exact h1
def row (T size:Nat) (v:Value) (n:Nat) (xs:List Value):Res where
 holds w F:=w.ownsRow 0 T size v n xs∧F=v.ownBlock.toList
 keep:=fun ⟨h1,h2⟩ hk=>⟨oOB h1 fun g hg=>hk g (by simp [h2,hg]),h2⟩
 lt:=fun ⟨h1,h2⟩ x hx=>by rw [h2] at hx;exact oLT h1 (by simpa using hx)
theorem Has.row {W w:World} {Ps:List Res} {T size n:Nat} {v:Value} {xs:List Value} (h:Has W w (Hp.row T size v n xs::Ps)):w.ownsRow 0 T size v n xs:=by obtain⟨F,h1,_⟩:=h.head;exact h1
theorem Has.newRow {W w w':World} {Ps:List Res} {T size n:Nat} {v:Value} {xs:List Value} (h:Has W w Ps) (hf:Fr [] w w') (ho:w'.ownsRow w.heap.size T size v n xs):Has W w' (Hp.row T size v n xs::Ps) :=
 h.new hf (F:=v.ownBlock.toList) ⟨owns_base ho (Nat.zero_le _),rfl⟩ fun x hx=>owns_ge ho (by simpa using hx)
theorem Has.newBlk {W w:World} {Ps:List Res} (h:Has W w Ps) (o:Obj):Has W (w.alloc o) (Hp.blk w.heap.size o::Ps) :=
 h.new ((Fr.refl [] w).alloc o) (F:=[w.heap.size]) ⟨by rw [hAC,if_pos rfl],rfl⟩ (by simp)
end Go.Proofs.Hp
end
section
namespace Go.Proofs.YtdanghnadbkhfaaGreat
open Go Go.RowKit Rg Mp Hp Qs Ev
def sTR (b:Nat) (s:Int) (ns:List K4):Res where
 holds w F:=StoreAt w b s ns F
 keep:=fun h hk=>h.keep hk
 lt:=fun h=>h.lt
section
variable {W w:World} {b:Nat} {s:Int} {ns:List K4} {Ps:List Res}
theorem has_good (h:Has W w (sTR b s ns::Ps)):GoodQ s ns:=by obtain⟨F,hS⟩:=h.head;exact hS.1
theorem Join_has (h:Has W w (sTR b s ns::Ps)) (x y z u:Int) :
  Calls Tryz.prog 75 #[.pointer (some ⟨b,0,none⟩),.int .i64 x,.int .i64 y,.int .i64 z,.int .i64 u] w fun e w' =>
   e=.returned (.tuple #[.int .i64 (join s ns ⟨x,y,z,u⟩).1.1,.int .i64 (join s ns ⟨x,y,z,u⟩).1.2])∧Has W w' (sTR b s (join s ns ⟨x,y,z,u⟩).2::Ps) :=
 h.upd (P':=sTR b s (join s ns ⟨x,y,z,u⟩).2) (R:=fun e=>e=.returned (.tuple #[.int .i64 (join s ns ⟨x,y,z,u⟩).1.1,.int .i64 (join s ns ⟨x,y,z,u⟩).1.2])) fun F hS=>(Join_calls hS ⟨x,y,z,u⟩).mono fun e w' h=>h
theorem Level_has (h:Has W w (sTR b s ns::Ps)) (id:Int) :
  Calls Tryz.prog 39 #[.pointer (some ⟨b,0,none⟩),.int .i64 id] w fun e w'=>e=.returned (.int .i64 (lvl s (levs s ns) id))∧Has W w' (sTR b s ns::Ps)∧Fr [] w w':=by
 obtain⟨F,hS⟩:=h.head
 refine (Level_calls hS id).mono ?_
 rintro e w' ⟨rfl,hd⟩
 exact⟨rfl,h.step (hd.fr _),hd.fr _⟩
theorem LevelIs_has (h:Has W w (sTR b s ns::Ps)) {n:Nat} {id:Int} {t:Tr} (hi:Is s ns n id t) :
  Calls Tryz.prog 39 #[.pointer (some ⟨b,0,none⟩),.int .i64 id] w fun e w'=>e=.returned (.int .i64 n)∧Has W w' (sTR b s ns::Ps)∧Fr [] w w':=by
 have:=Level_has h id
 rwa [hi.lvl (has_good h)] at this
theorem Kids_has (h:Has W w (sTR b s ns::Ps)) {n:Nat} {id:Int} {t:Tr} (hi:Is s ns (n+1) id t) :
  Calls Tryz.prog 40 #[.pointer (some ⟨b,0,none⟩),.int .i64 id] w fun e w'=>e=.returned (.tuple #[.agg #[.int .i64 (nodeOf s ns id).a,.int .i64 (nodeOf s ns id).b,.int .i64 (nodeOf s ns id).c,.int .i64 (nodeOf s ns id).d],.bool true])∧Has W w' (sTR b s ns::Ps)∧Fr [] w w':=by
 obtain⟨F,hS⟩:=h.head
 obtain⟨h1,h2,_⟩:=hi.node (has_good h)
 have e:kidsOf s ns id=(nodeOf s ns id,true):=by
  unfold kidsOf
  rw [if_neg (by omega),h2]
 refine (Kids_calls hS id).mono ?_
 rintro e' w' ⟨he,hf⟩
 rw [e] at he
 exact⟨he,h.step hf,hf⟩
theorem KidsLeaf_has (h:Has W w (sTR b s ns::Ps)) {id:Int} {t:Tr} (hi:Is s ns 0 id t) :
  Calls Tryz.prog 40 #[.pointer (some ⟨b,0,none⟩),.int .i64 id] w fun e w'=>e=.returned (.tuple #[.agg #[.int .i64 0,.int .i64 0,.int .i64 0,.int .i64 0],.bool false])∧Has W w' (sTR b s ns::Ps)∧Fr [] w w':=by
 obtain⟨F,hS⟩:=h.head
 obtain⟨h1,h2,_⟩:=hi.zero (has_good h)
 have e:kidsOf s ns id=(⟨0,0,0,0⟩,false):=by
  unfold kidsOf
  rw [if_pos h2]
 refine (Kids_calls hS id).mono ?_
 rintro e' w' ⟨he,hf⟩
 rw [e] at he
 exact⟨he,h.step hf,hf⟩
end
theorem hCE {W w:World} {b:Nat} {cs:Array Value} {t:TypeId} {Ps:List Res} (h:Has W w (Hp.blk b (.cells cs t (0,0))::Ps)):(∀ j,w.cell? ⟨b,j,none⟩=cs[j]?)∧(∀ j,w.frozen? ⟨b,j,none⟩=false)∧b<w.heap.size :=
 ⟨fun j=>hEC h.blk j,fun j=>hEF h.blk j,lBk h.blk⟩
theorem hST {W w:World} {b:Nat} {cs:Array Value} {t:TypeId} {Ps:List Res} (h:Has W w (Hp.blk b (.cells cs t (0,0))::Ps)) (j:Nat) (v:Value):Has W (w.setCell ⟨b,j,none⟩ v) (Hp.blk b (.cells (cs.setIfInBounds j v) t (0,0))::Ps) :=
 h.turn fun F ⟨h1,h2⟩=>⟨F,⟨heap_setCell_here h1 j v,h2⟩,(Fr.refl F w).setCell (.inl (by simp [h2])) v,fun x hx=>.inl hx⟩
theorem hAL {W w:World} {Ps:List Res} (h:Has W w Ps) (cs:Array Value) (t:TypeId):Has W (w.alloc (.cells cs t (0,0))) (Hp.blk w.heap.size (.cells cs t (0,0))::Ps):=h.newBlk _
end Go.Proofs.YtdanghnadbkhfaaGreat
end
section
namespace Go.Proofs.Hp
open Go Go.RowKit
def iv (l:List Int):List Value:=l.map fun n=>Value.int .i64 n
theorem iv_get {l:List Int} {i:Nat} {x:Int} (h:l[i]?=some x):(iv l)[i]?=some (.int .i64 x):=by rw [iv,List.getElem?_map,h];rfl
theorem iv_set (l:List Int) (i:Nat) (x:Int):(iv l).set i (.int .i64 x)=iv (l.set i x):=by unfold iv;rw [List.map_set]
def IntsAt (w:World) (v:Value) (l:List Int):Prop:=Reads w v l.length 1 (iv l)
theorem IntsAt.fr {w w':World} {v:Value} {l:List Int} (h:IntsAt w v l) (hf:Fr [] w w'):IntsAt w' v l:=Reads.fr h hf
theorem IntsAt.form {w:World} {v:Value} {l:List Int} (h:IntsAt w v l):∃ a c,v=.slice a l.length c:=by
 obtain⟨_,a,c,h,_⟩:=h
 exact⟨a,c,h⟩
def RowsAt (w:World) (v:Value) (L:List (List Int)):Prop:=∃ vs:List Value,Reads w v L.length 1 vs∧∀ (i:Nat) (r:List Int),L[i]?=some r→∃ u,vs[i]?=some u∧IntsAt w u r
theorem RowsAt.fr {w w':World} {v:Value} {L:List (List Int)} (h:RowsAt w v L) (hf:Fr [] w w'):RowsAt w' v L:=by
 obtain⟨vs,h1,h2⟩:=h
 refine⟨vs,h1.fr hf,fun i r hi=>?_⟩
 obtain⟨u,hu,hr⟩:=h2 i r hi
 exact⟨u,hu,hr.fr hf⟩
theorem RowsAt.form {w:World} {v:Value} {L:List (List Int)} (h:RowsAt w v L):∃ a c,v=.slice a L.length c:=by
 obtain⟨_,⟨_,a,c,h,_⟩,_⟩:=h
 exact⟨a,c,h⟩
theorem RowsAt.row {w:World} {a:Option Addr} {n c:Nat} {L:List (List Int)} (h:RowsAt w (.slice a n c) L) {i:Nat} {r:List Int} (hi:L[i]?=some r) :
  ∃ g off ra rc,a=some ⟨g,off,none⟩∧g<w.heap.size∧w.cell? ⟨g,off+i,none⟩=some (.slice ra r.length rc)∧IntsAt w (.slice ra r.length rc) r:=by
 obtain⟨vs,⟨hl,a',c',he,hp⟩,h2⟩:=h
 cases he
 obtain⟨u,hu,hr⟩:=h2 i r hi
 obtain⟨ra,rc,rfl⟩:=hr.form
 have hlt:=(List.getElem?_eq_some_iff.1 hi).1
 obtain⟨g,off,rfl,hg,hc⟩:=hp (by omega)
 exact⟨g,off,ra,rc,rfl,hg,hc i _ hu,hr⟩
theorem IntsAt.cell {w:World} {a:Option Addr} {n c:Nat} {l:List Int} (h:IntsAt w (.slice a n c) l) {i:Nat} {x:Int} (hi:l[i]?=some x) :
  ∃ g off,a=some ⟨g,off,none⟩∧g<w.heap.size∧w.cell? ⟨g,off+i,none⟩=some (.int .i64 x):=by
 obtain⟨hl,a',c',he,hp⟩:=h
 cases he
 have hlt:=(List.getElem?_eq_some_iff.1 hi).1
 obtain⟨g,off,rfl,hg,hc⟩:=hp (by omega)
 exact⟨g,off,rfl,hg,hc i _ (iv_get hi)⟩
theorem IntsAt.part {w:World} {a:Option Addr} {g off n c c':Nat} {l:List Int} (h:IntsAt w (.slice (some ⟨g,off,none⟩) n c) l) {i m:Nat} (hm:i+m≤l.length):IntsAt w (.slice (some ⟨g,off+i,none⟩) m c') ((l.drop i).take m):=by
 obtain⟨hl,a',c'',he,hp⟩:=h
 cases he
 have hlen:((l.drop i).take m).length=m:=by simp;omega
 refine⟨by simp [iv],_,_,by rw [hlen],fun h0=>?_⟩
 rw [hlen] at h0
 obtain⟨g',off',he,hg,hc⟩:=hp (by omega)
 cases he
 refine⟨g,off+i,rfl,hg,fun j u hj=>?_⟩
 have hj':(iv l)[i+j]?=some u:=by
  unfold iv at hj ⊢
  rw [List.getElem?_map,List.getElem?_take] at hj
  split at hj
  ·rw [List.getElem?_drop] at hj;rw [List.getElem?_map];exact hj
  ·simp at hj
 have:=hc (i+j) u hj'
 rwa [← Nat.add_assoc] at this
theorem RowsAt.of_owns {w:World} {base e:Nat} {v:Value} {vs:List Value} {L:List (List Int)} (h:w.ownsRow base e 1 v L.length vs) (hr:∀ (i:Nat) (r:List Int),L[i]?=some r→∃ u,vs[i]?=some u∧IntsAt w u r):RowsAt w v L:=⟨vs,Reads.of_owns h,hr⟩
end Go.Proofs.Hp
end
section
namespace Go.Proofs.Rg
open Go
theorem aGR {P:Program} {ops:Array Oper} {k:Nat} {o:Oper} {a:Act} {w:World} {T:TypeId} {x:Operand} {b off:Nat} {cs:List Value} {d:TypeDesc} (hk:ops[k]?=some o) (ho:o.op=.load T x)
  (hx:a.eval x=.pointer (some ⟨b,off,none⟩)) (hT:P.underlying T=some d) (hd:d.isRow=true) (hi:(P.info? T).map (·.size)=some cs.length) (hc:w.rangeAt b off cs)
  (hv:(a.put o.dst (.agg cs.toArray)).tmps=a.tmps):again P ops k a w:=by
 intro o' ho' _
 obtain rfl:o=o':=Option.some.inj (hk.symm.trans ho')
 refine⟨_,?_,hv⟩
 unfold execOp
 simp only [ho,hx,Sem.run_bind,run_loadAt_mid w b off T cs d hc hT hd hi,Result.andThen_ok]
 rfl
end Go.Proofs.Rg
end
section
namespace Go.Proofs.Ev
open Qs
def filled (n:Nat) (G:Nat→Int) (k:Nat):List Int:=(List.range n).map fun i=>if i<k then G i else 0
theorem filled_get {n:Nat} {G:Nat→Int} {k i:Nat} (hi:i<n):(filled n G k)[i]?=some (if i<k then G i else 0):=by simp [filled,hi]
theorem filled_set {n:Nat} {G:Nat→Int} {k:Nat} (hk:k<n):(filled n G k).set k (G k)=filled n G (k+1):=by
 apply List.ext_getElem?
 intro i
 rw [List.getElem?_set]
 by_cases h:k=i
 ·subst h
  rw [if_pos rfl,if_pos (by simp [filled];exact hk),filled_get hk,if_pos (by omega)]
 ·rw [if_neg h]
  by_cases hi:i<n
  ·rw [filled_get hi,filled_get hi]
   by_cases h2:i<k
   ·rw [if_pos h2,if_pos (by omega)]
   ·rw [if_neg h2,if_neg (by omega)]
  ·rw [List.getElem?_eq_none (by simp [filled];omega),List.getElem?_eq_none (by simp [filled];omega)]
end Go.Proofs.Ev
namespace Go.Proofs.YtdanghnadbkhfaaGreat
open Go Go.RowKit Rg Mp Hp Qs Ev
theorem filled_cell {W w:World} {b n k:Nat} {G:Nat→Int} {T:TypeId} {Ps:List Res} (h:Has W w (Hp.blk b (.cells (iv (filled n G k)).toArray T (0,0))::Ps)) {i:Nat} (hi:i<n):w.cell? ⟨b,i,none⟩=some (.int .i64 (if i<k then G i else 0)):=by
 rw [(hCE h).1 i]
 have:=iv_get (filled_get (n:=n) (G:=G) (k:=k) hi)
 simpa using this
theorem filled_set_has {W w:World} {b n k:Nat} {G:Nat→Int} {T:TypeId} {Ps:List Res} (h:Has W w (Hp.blk b (.cells (iv (filled n G k)).toArray T (0,0))::Ps)) (hk:k<n) {v:Int} (hv:v=G k):Has W (w.setCell ⟨b,k,none⟩ (.int .i64 v)) (Hp.blk b (.cells (iv (filled n G (k+1))).toArray T (0,0))::Ps):=by
 subst hv
 have:=hST h k (.int .i64 (G k))
 rwa [show (iv (filled n G k)).toArray.setIfInBounds k (.int .i64 (G k))=(iv (filled n G (k+1))).toArray by rw [← filled_set hk,← iv_set];simp] at this
def At5 (P:Nat→Prop) (z:Int):Prop:=z=0∧P 0∨z=1∧P 1∨z=2∧P 2∨z=3∧P 3∨z=4∧P 4
section
variable {W w:World} {b:Nat} {s:Int} {ns:List K4} {Ps:List Res}
end
end Go.Proofs.YtdanghnadbkhfaaGreat
end
section
namespace Go.Proofs.YtdanghnadbkhfaaGreat
open Go Go.RowKit Rg Mp Hp Qs
def Chain (s:Int) (ns:List K4):Nat→Int→Prop
 | 0,a=>a=0
 | L+1,a=>∃ (c:Int) (i:Nat),Chain s ns L c∧ns.idxOf? (four c)=some i∧a=s+i
theorem idx_append {ns t:List K4} {k:K4} {i:Nat} (h:ns.idxOf? k=some i):(ns++t).idxOf? k=some i:=by
 rw [List.idxOf?_eq_some_iff] at h ⊢
 obtain⟨h1,h2,h3⟩:=h
 refine⟨by simp;omega,by rw [List.getElem_append_left h1];exact h2,fun j hj=>?_⟩
 rw [List.getElem_append_left (by omega)]
 exact h3 j hj
theorem idx_get {ns:List K4} {k:K4} {i:Nat} (h:ns.idxOf? k=some i):ns[i]?=some k:=by
 rw [List.idxOf?_eq_some_iff] at h
 obtain⟨h1,h2,_⟩:=h
 rw [List.getElem?_eq_getElem h1]
 simpa using h2
theorem idx_last {ns:List K4} {k:K4} (h:ns.idxOf? k=none):(ns++[k]).idxOf? k=some ns.length:=by
 have hn:k∉ns:=by simpa using h
 rw [List.idxOf?_eq_some_iff]
 refine⟨by simp,by simp,fun j hj he=>hn ?_⟩
 rw [List.getElem_append_left (by omega)] at he
 have he':ns[j]=k:=by simpa using he
 rw [← he']
 exact List.getElem_mem _
theorem Chain_append {s:Int} {ns:List K4} (t:List K4):∀ {L:Nat} {a:Int},Chain s ns L a→Chain s (ns++t) L a
 | 0,_,h=>h
 | _+1,_,⟨c,i,h1,h2,h3⟩=>⟨c,i,Chain_append t h1,idx_append h2,h3⟩
theorem Chain_level {s:Int} {ns:List K4} (hg:GoodQ s ns):∀ {L:Nat} {a:Int},Chain s ns L a→lvl s (levs s ns) a=L
 | 0,a,h=>by
  have h:a=0:=h
  subst h
  have:=hg.1
  unfold lvl
  rw [if_neg (by omega),if_pos (by omega)]
  rfl
 | L+1,a,⟨c,i,h1,h2,h3⟩=>by
  subst h3
  have h0:=(good_lvl hg (idx_get h2)).1
  have:=Chain_level hg h1
  simp only [four] at h0
  omega
theorem climb_chain {s:Int} {ns:List K4}:∀ (m:Nat) {id:Int} {n:Nat},Chain s ns n id→Chain s ns (climb s ns m id n).2 (climb s ns m id n).1
 | 0,_,_,h=>h
 | m+1,id,n,h=>by
  unfold climb
  split
  ·rename_i i hi
   exact climb_chain m ⟨id,i,h,hi,rfl⟩
  ·exact h
theorem grow_chain {s:Int}:∀ (m:Nat) {id:Int} {n:Nat} {ns:List K4},GoodQ s ns→Chain s ns n id→n+m≤256→ns.length+m≤100000 →
  GoodQ s (grow s m id ns).2∧Chain s (grow s m id ns).2 (n+m) (grow s m id ns).1
 | 0,_,_,_,hg,h,_,_=>⟨hg,h⟩
 | m+1,id,n,ns,hg,h,hn,hl=>by
  have hlv:=Chain_level hg h
  have hfit:Fits s ns (four id):=⟨by show 0≤lvl s (levs s ns) id;omega,by show lvl s (levs s ns) id<256;omega,rfl,rfl,rfl⟩
  have hj:join s ns (four id)=joinIn s ns (four id):=by
   unfold join
   rw [if_neg (by show ¬ (lvl s (levs s ns) id<0∨lvl s (levs s ns) id<0∨lvl s (levs s ns) id<0∨lvl s (levs s ns) id<0);omega),if_neg (fun hh=>hh hfit)]
  unfold grow
  rw [hj,show n+(m+1)=(n+1)+m by omega]
  cases hi:ns.idxOf? (four id) with
  | some i =>
   rw [joinIn_hit hi]
   exact grow_chain m hg ⟨id,i,h,hi,rfl⟩ (by omega) (by show ns.length+m≤100000;omega)
  | none =>
   rw [joinIn_new hi (by omega)]
   exact grow_chain m (hg.snoc hfit (by simpa using hi) (by omega)) ⟨id,ns.length,Chain_append _ h,idx_last hi,rfl⟩ (by omega) (by simp;omega)
theorem empty_high {s:Int} {ns:List K4} {l:Int} (h:256<l):emptyQ s ns l=((0,18),ns):=by
 unfold emptyQ
 rw [if_pos (.inr h)]
theorem join_len (s:Int) (ns:List K4) (k:K4):(join s ns k).2.length≤ns.length+1:=by
 unfold join
 split
 ·simp
 ·split
  ·simp
  ·unfold joinIn
   split
   ·simp
   ·split<;>simp
end Go.Proofs.YtdanghnadbkhfaaGreat
end
section
namespace Go.Proofs.YtdanghnadbkhfaaGreat
open Go Qs Ev
def kr (f:List K4→Nat→(Int×Int)×List K4):Nat→List K4→Int×List Int×List K4
 | 0,ns=>(0,[],ns)
 | k+1,ns=>if (kr f k ns).1≠0 then kr f k ns else if (f (kr f k ns).2.2 k).1.2=0 then (0,(kr f k ns).2.1++[(f (kr f k ns).2.2 k).1.1],(f (kr f k ns).2.2 k).2) else ((f (kr f k ns).2.2 k).1.2,(kr f k ns).2.1,(f (kr f k ns).2.2 k).2)
def k4l (l:List Int):K4:=⟨l.getD 0 0,l.getD 1 0,l.getD 2 0,l.getD 3 0⟩
def fin4 (s:Int) (f:List K4→Nat→(Int×Int)×List K4) (ns:List K4):(Int×Int)×List K4 :=
 if (kr f 4 ns).1≠0 then ((0,(kr f 4 ns).1),(kr f 4 ns).2.2) else join s (kr f 4 ns).2.2 (k4l (kr f 4 ns).2.1)
theorem kr_ok {f:List K4→Nat→(Int×Int)×List K4} {k:Nat} {ns ms ms':List K4} {ids:List Int} {id:Int} (h:kr f k ns=(0,ids,ms)) (h2:f ms k=((id,0),ms')):kr f (k+1) ns=(0,ids++[id],ms'):=by
 rw [kr,h]
 simp only [ne_eq,not_true_eq_false,if_false]
 rw [h2]
 simp
theorem kr_bad {f:List K4→Nat→(Int×Int)×List K4} {k:Nat} {ns ms ms':List K4} {ids:List Int} {id e:Int} (h:kr f k ns=(0,ids,ms)) (h2:f ms k=((id,e),ms')) (he:e≠0):kr f (k+1) ns=(e,ids,ms'):=by
 rw [kr,h]
 simp only [ne_eq,not_true_eq_false,if_false]
 rw [h2]
 simp [he]
theorem kr_stay {f:List K4→Nat→(Int×Int)×List K4} {k:Nat} {ns ms:List K4} {ids:List Int} {e:Int} (h:kr f k ns=(e,ids,ms)) (he:e≠0):∀ m,kr f (k+m) ns=(e,ids,ms)
 | 0=>h
 | m+1=>by
  show kr f (k+m+1) ns=_
  rw [kr,kr_stay h he m,if_pos he]
theorem fin4_bad {s:Int} {f:List K4→Nat→(Int×Int)×List K4} {k:Nat} {ns ms ms':List K4} {ids:List Int} {id e:Int} (hk:k<4) (h:kr f k ns=(0,ids,ms)) (h2:f ms k=((id,e),ms')) (he:e≠0):fin4 s f ns=((0,e),ms'):=by
 have:=kr_stay (kr_bad h h2 he) he (3 - k)
 rw [show k+1+(3 - k)=4 by omega] at this
 unfold fin4
 rw [this,if_pos he]
theorem fin4_ok {s:Int} {f:List K4→Nat→(Int×Int)×List K4} {ns ms:List K4} {ids:List Int} (h:kr f 4 ns=(0,ids,ms)):fin4 s f ns=join s ms (k4l ids):=by
 unfold fin4
 rw [h,if_neg (by simp)]
theorem kr_len {f:List K4→Nat→(Int×Int)×List K4}:∀ {k:Nat} {ns ms:List K4} {ids:List Int},kr f k ns=(0,ids,ms)→ids.length=k
 | 0,ns,ms,ids,h=>by
  simp only [kr,Prod.mk.injEq] at h
  rw [← h.2.1];rfl
 | k+1,ns,ms,ids,h=>by
  obtain⟨e,i2,m2,h2⟩:∃ e i2 m2,kr f k ns=(e,i2,m2):=⟨_,_,_,rfl⟩
  by_cases he:e=0
  ·subst he
   obtain⟨id,e3,m3,h3⟩:∃ id e3 m3,f m2 k=((id,e3),m3):=⟨_,_,_,rfl⟩
   by_cases h4:e3=0
   ·subst h4
    rw [kr_ok h2 h3] at h
    simp only [Prod.mk.injEq] at h
    rw [← h.2.1]
    simp [kr_len h2]
   ·rw [kr_bad h2 h3 h4] at h
    simp only [Prod.mk.injEq] at h
    exact absurd h.1 h4
  ·have:=kr_stay h2 he 1
   rw [this] at h
   simp only [Prod.mk.injEq] at h
   exact absurd h.1 he
structure Spot where
 x:Nat
 y:Nat
 st:Int
def quadOf (h:Nat) (c:Spot):Nat:=(if h≤c.x then 1 else 0)+(if h≤c.y then 2 else 0)
def intoQ (h:Nat) (c:Spot):Spot:=⟨if h≤c.x then c.x - h else c.x,if h≤c.y then c.y - h else c.y,c.st⟩
def partQ (h:Nat) (k:Nat) (l:List Spot):List Spot:=(l.filter fun c=>decide (quadOf h c=k)).map (intoQ h)
theorem partQ_snoc (h k:Nat) (l:List Spot) (c:Spot):partQ h k (l++[c])=partQ h k l++if quadOf h c=k then [intoQ h c] else []:=by
 unfold partQ
 rw [List.filter_append,List.map_append]
 by_cases hc:quadOf h c=k<;>simp [hc]
def buildQ (s:Int):Nat→List K4→List Spot→(Int×Int)×List K4
 | n,ns,[]=>emptyQ s ns n
 | 0,ns,c::_=>((c.st,0),ns)
 | n+1,ns,c::l=>fin4 s (fun ms k=>buildQ s n ms (partQ (2 ^ n) k (c::l))) ns
theorem buildQ_nil (s:Int) (n:Nat) (ns:List K4):buildQ s n ns []=emptyQ s ns n:=by cases n<;>rfl
def putK (k:K4) (q:Nat) (v:Int):K4:=if q=0 then { k with a:=v } else if q=1 then { k with b:=v } else if q=2 then { k with c:=v } else { k with d:=v }
def qd (n x y:Nat):Nat:=x / 2 ^ n % 2+2*(y / 2 ^ n % 2)
def setQ (s:Int):Nat→List K4→Int→Nat→Nat→Int→(Int×Int)×List K4
 | 0,ns,id,x,y,st=>((st,0),ns)
 | n+1,ns,id,x,y,st =>
  if (setQ s n ns ((nodeOf s ns id).get (qd n x y)) x y st).1.2≠0 then ((0,(setQ s n ns ((nodeOf s ns id).get (qd n x y)) x y st).1.2),(setQ s n ns ((nodeOf s ns id).get (qd n x y)) x y st).2)
  else join s (setQ s n ns ((nodeOf s ns id).get (qd n x y)) x y st).2 (putK (nodeOf s ns id) (qd n x y) (setQ s n ns ((nodeOf s ns id).get (qd n x y)) x y st).1.1)
def lookQ (s:Int) (ns:List K4):Nat→Int→Nat→Nat→Int
 | 0,id,_,_=>id
 | n+1,id,x,y=>lookQ s ns n ((nodeOf s ns id).get (qd n x y)) x y
theorem mod_step (x n:Nat):x % 2 ^ (n+1)=x % 2 ^ n+2 ^ n*(x / 2 ^ n % 2):=by rw [Nat.pow_succ,Nat.mod_mul]
end Go.Proofs.YtdanghnadbkhfaaGreat
end
section
namespace Go.Proofs.YtdanghnadbkhfaaGreat
open Go Qs Ev
def popT:Tr→Nat
 | .leaf v=>if v=0 then 0 else 1
 | .node a b c d=>popT a+popT b+popT c+popT d
theorem popT_le:∀ {n:Nat} {t:Tr},Full n t→popT t≤4 ^ n
 | 0,.leaf v,_=>by unfold popT;split<;>simp
 | 0,.node _ _ _ _,h=>h.elim
 | n+1,.leaf _,h=>h.elim
 | n+1,.node a b c d,⟨ha,hb,hc,hd⟩=>by
  have:=popT_le ha;have:=popT_le hb;have:=popT_le hc;have:=popT_le hd
  show popT a+popT b+popT c+popT d≤_
  rw [Nat.pow_succ];omega
def cellsT:Nat→Tr→Nat→Nat→List Spot
 | 0,.leaf v,x,y=>if v=0 then [] else [⟨x,y,v⟩]
 | n+1,.node a b c d,x,y=>cellsT n a x y++(cellsT n b (x+2 ^ n) y++(cellsT n c x (y+2 ^ n)++cellsT n d (x+2 ^ n) (y+2 ^ n)))
 | _,_,_,_=>[]
theorem cellsT_len:∀ {n:Nat} {t:Tr} {x y:Nat},Full n t→(cellsT n t x y).length=popT t
 | 0,.leaf v,x,y,_=>by unfold cellsT popT;split<;>simp
 | 0,.node _ _ _ _,_,_,h=>h.elim
 | n+1,.leaf _,_,_,h=>h.elim
 | n+1,.node a b c d,x,y,⟨ha,hb,hc,hd⟩=>by
  unfold cellsT popT
  rw [List.length_append,List.length_append,List.length_append,cellsT_len ha,cellsT_len hb,cellsT_len hc,cellsT_len hd];omega
theorem cellsT_none {n:Nat} {t:Tr} {x y:Nat} (h:Full n t) (h0:popT t=0):cellsT n t x y=[]:=List.length_eq_zero_iff.1 ((cellsT_len h).trans h0)
abbrev Frm:=Int×Int×Int×Int
def joinF (o x:Option Frm) (dx dy:Int):Option Frm :=
 match x,o with
 | none,o=>o
 | some (l,t,r,b),none=>some (l+dx,t+dy,r+dx,b+dy)
 | some (l,t,r,b),some (l',t',r',b')=>some (min (l+dx) l',min (t+dy) t',max (r+dx) r',max (b+dy) b')
def frT:Nat→Tr→Option Frm
 | 0,.leaf v=>if v=0 then none else some (0,0,0,0)
 | n+1,.node a b c d=>joinF (joinF (joinF (joinF none (frT n a) 0 0) (frT n b) ((2 ^ n:Nat):Int) 0) (frT n c) 0 ((2 ^ n:Nat):Int)) (frT n d) ((2 ^ n:Nat):Int) ((2 ^ n:Nat):Int)
 | _,_=>none
def inF (h:Int) (f:Frm):Prop:=0≤f.1∧f.1<h∧0≤f.2.1∧f.2.1<h∧0≤f.2.2.1∧f.2.2.1<h∧0≤f.2.2.2∧f.2.2.2<h
theorem joinF_in {h:Int} {o x:Option Frm} {dx dy:Int} (ho:∀ f,o=some f→inF (h+h) f) (hx:∀ f,x=some f→inF h f) (h1:0≤dx) (h2:dx≤h) (h3:0≤dy) (h4:dy≤h):∀ f,joinF o x dx dy=some f→inF (h+h) f:=by
 intro f hf
 cases x with
 | none=>exact ho f hf
 | some x =>
  obtain⟨a,b,c,d⟩:=x
  obtain⟨x1,x2,x3,x4,x5,x6,x7,x8⟩:=hx _ rfl
  simp only at x1 x2 x3 x4 x5 x6 x7 x8
  cases o with
  | none =>
   simp only [joinF,Option.some.injEq] at hf
   subst hf
   simp only [inF];omega
  | some o =>
   obtain⟨a',b',c',d'⟩:=o
   obtain⟨y1,y2,y3,y4,y5,y6,y7,y8⟩:=ho _ rfl
   simp only at y1 y2 y3 y4 y5 y6 y7 y8
   simp only [joinF,Option.some.injEq] at hf
   subst hf
   simp only [inF];omega
theorem frT_in:∀ {n:Nat} {t:Tr},∀ f,frT n t=some f→inF ((2 ^ n:Nat):Int) f
 | 0,.leaf v,f,h=>by
  unfold frT at h
  split at h
  ·cases h
  ·simp only [Option.some.injEq] at h
   subst h
   simp [inF]
 | 0,.node _ _ _ _,f,h=>by simp [frT] at h
 | n+1,.leaf _,f,h=>by simp [frT] at h
 | n+1,.node a b c d,f,h=>by
  have hp:=Nat.pow_pos (n:=n) (show 0<2 by omega)
  rw [show (2 ^ (n+1):Nat)=2 ^ n+2 ^ n by rw [Nat.pow_succ];omega,Int.natCast_add]
  have h1:(0:Int)<((2 ^ n:Nat):Int):=by omega
  exact joinF_in (joinF_in (joinF_in (joinF_in (by simp) (frT_in (t:=a)) (by omega) (by omega) (by omega) (by omega)) (frT_in (t:=b)) (by omega) (by omega) (by omega) (by omega)) (frT_in (t:=c)) (by omega) (by omega) (by omega) (by omega)) (frT_in (t:=d)) (by omega) (by omega) (by omega) (by omega) f h
def emptyT:Nat→Tr
 | 0=>.leaf 0
 | n+1=>.node (emptyT n) (emptyT n) (emptyT n) (emptyT n)
theorem join_pre (s:Int) (ns:List K4) (k:K4):ns <+: (join s ns k).2:=by
 unfold join
 split
 ·exact List.prefix_refl _
 ·split
  ·exact List.prefix_refl _
  ·unfold joinIn
   split
   ·exact List.prefix_refl _
   ·split
    ·exact List.prefix_refl _
    ·exact List.prefix_append _ _
theorem grow_pre (s:Int):∀ (m:Nat) (id:Int) (ns:List K4),ns <+: (grow s m id ns).2∧(grow s m id ns).2.length≤ns.length+m
 | 0,id,ns=>⟨List.prefix_refl _,Nat.le_refl _⟩
 | m+1,id,ns=>by
  obtain⟨h1,h2⟩:=grow_pre s m (join s ns (four id)).1.1 (join s ns (four id)).2
  have:=join_len s ns (four id)
  exact⟨(join_pre s ns (four id)).trans h1,by unfold grow;omega⟩
theorem emptyQ_grows {s:Int} {ns:List K4} (L:Nat):ns <+: (emptyQ s ns L).2∧(emptyQ s ns L).2.length≤ns.length+L:=by
 unfold emptyQ
 split
 ·exact⟨List.prefix_refl _,by simp⟩
 ·split
  ·exact⟨List.prefix_refl _,by simp⟩
  ·obtain⟨h1,h2⟩:=grow_pre s (((L:Nat):Int).toNat - (climb s ns ((L:Nat):Int).toNat 0 0).2) (climb s ns ((L:Nat):Int).toNat 0 0).1 ns
   exact⟨h1,by simp only [Int.toNat_natCast] at h2 ⊢;omega⟩
theorem chain_is {s:Int} {ns:List K4} (hg:GoodQ s ns):∀ {L:Nat} {a:Int},Chain s ns L a→Is s ns L a (emptyT L)
 | 0,a,h=>by
  have:a=0:=h
  subst this
  exact Is.leaf (by omega) (by have:=hg.1;omega)
 | L+1,a,h=>by
  obtain⟨b,i,hb,hi,rfl⟩:=h
  have hk:=idx_get hi
  have h1:=chain_is hg hb
  refine⟨⟨by have:=hg.1;omega,?_⟩,?_,⟨h1.2.2.1,h1.2.2.1,h1.2.2.1,h1.2.2.1⟩,⟨h1.2.2.2,h1.2.2.2,h1.2.2.2,h1.2.2.2⟩⟩
  ·have:=(List.getElem?_eq_some_iff.1 hk).1;omega
  ·rw [tr_node hg hk]
   show Tr.node (tr s ns b) (tr s ns b) (tr s ns b) (tr s ns b)=_
   rw [h1.2.1];rfl
end Go.Proofs.YtdanghnadbkhfaaGreat
end
section
namespace Go.Proofs.YtdanghnadbkhfaaGreat
open Go Go.RowKit Rg Mp Hp Qs Ev
def knownQ (s:Int) (ns:List K4) (id:Int):Int:=if lvl s (levs s ns) id<0 then 13 else 0
def cornerK (o v:Int) (k:Nat):K4:=putK ⟨o,o,o,o⟩ k v
def expandQ (s:Int) (ns:List K4) (id:Int):(Int×Int)×List K4 :=
 if lvl s (levs s ns) id<0 then ((0,13),ns) else if lvl s (levs s ns) id<1∨256≤lvl s (levs s ns) id then ((0,18),ns)
 else if (emptyQ s ns (lvl s (levs s ns) id - 1)).1.2≠0 then ((0,(emptyQ s ns (lvl s (levs s ns) id - 1)).1.2),(emptyQ s ns (lvl s (levs s ns) id - 1)).2)
 else fin4 s (fun ms k=>join s ms (cornerK (emptyQ s ns (lvl s (levs s ns) id - 1)).1.1 ((nodeOf s ns id).get k) (3 - k))) (emptyQ s ns (lvl s (levs s ns) id - 1)).2
def centreQ (s:Int) (ns:List K4) (id:Int):(Int×Int)×List K4 :=
 if lvl s (levs s ns) id<0 then ((0,13),ns) else if lvl s (levs s ns) id<2 then ((0,18),ns)
 else join s ns ⟨(nodeOf s ns (nodeOf s ns id).a).get 3,(nodeOf s ns (nodeOf s ns id).b).get 2,(nodeOf s ns (nodeOf s ns id).c).get 1,(nodeOf s ns (nodeOf s ns id).d).get 0⟩
section
variable {W w:World} {b:Nat} {s:Int} {ns:List K4} {Ps:List Res}
theorem Empty_has (h:Has W w (sTR b s ns::Ps)) (l:Int) :
  Calls Tryz.prog 36 #[.pointer (some ⟨b,0,none⟩),.int .i64 l] w fun e w'=>e=.returned (.tuple #[.int .i64 (emptyQ s ns l).1.1,.int .i64 (emptyQ s ns l).1.2])∧Has W w' (sTR b s (emptyQ s ns l).2::Ps) :=
 h.upd (P':=sTR b s (emptyQ s ns l).2) (R:=fun e=>e=.returned (.tuple #[.int .i64 (emptyQ s ns l).1.1,.int .i64 (emptyQ s ns l).1.2])) fun F hS=>(Empty_calls hS l).mono fun e w' h=>h
theorem known_q (h:Has W w (sTR b s ns::Ps)) (id:Int) :
  Calls Tryz.prog 46 #[.pointer (some ⟨b,0,none⟩),.int .i64 id] w fun e w'=>e=.returned (.int .i64 (knownQ s ns id))∧Has W w' (sTR b s ns::Ps)∧Fr [] w w':=by
 have HL:=Lib.hid (fun w1 (hf:Fr [] w w1)=>Level_has (h.step hf) id)
 clear h
 obtain⟨l,hl⟩:∃ l,lvl s (levs s ns) id=l:=⟨_,rfl⟩
 unfold knownQ
 rw [hl] at HL ⊢
 clear hl
 by_cases h0:l<0
 ·have hd:decide (l<0)=true:=by simpa using h0
  rw [if_pos h0]
  go_enter Tryz.func46,Tryz.ntmps46
  go_wp2_with fail
  refine (HL.out _ (by (repeat first|exact Fr.refl _ _|assumption|apply Fr.n|apply Fr.d|apply Fr.a|refine Fr.s ?_ (.inr (by simp;try omega)) _))).mono ?_
  rintro e w1 ⟨rfl,h,hf⟩
  have H:=Lib.hid (And.intro h hf)
  clear h hf
  go_wp2
  go_ret
  exact⟨rfl,H.out.1,H.out.2⟩
 ·have hd:decide (l<0)=false:=by simpa using h0
  rw [if_neg h0]
  go_enter Tryz.func46,Tryz.ntmps46
  go_wp2_with fail
  refine (HL.out _ (by (repeat first|exact Fr.refl _ _|assumption|apply Fr.n|apply Fr.d|apply Fr.a|refine Fr.s ?_ (.inr (by simp;try omega)) _))).mono ?_
  rintro e w1 ⟨rfl,h,hf⟩
  have H:=Lib.hid (And.intro h hf)
  clear h hf
  go_wp2
  go_ret
  exact⟨rfl,H.out.1,H.out.2⟩
theorem isState_q (h:Has W w (sTR b s ns::Ps)) (id:Int) :
  Calls Tryz.prog 64 #[.pointer (some ⟨b,0,none⟩),.int .i64 id] w fun e w'=>e=.returned (.bool (decide (0≤id∧id<s)))∧Has W w' (sTR b s ns::Ps)∧Fr [] w w':=by
 have HL:=Lib.hid (fun w1 (hf:Fr [] w w1)=>Level_has (h.step hf) id)
 have he:((lvl s (levs s ns) id) == 0)=decide (0≤id∧id<s):=by
  have hg:=has_good h
  by_cases hk:Kn s ns id
  ·rcases hk.cases with ⟨h0,h1⟩|⟨i,k,rfl,hi⟩
   ·rw [decide_eq_true ⟨h0,h1⟩]
    unfold lvl
    rw [if_neg (by omega),if_pos h1];rfl
   ·have h2:=good_lvl hg hi
    rw [decide_eq_false (by omega)]
    rw [h2.1]
    simp;omega
  ·have h2:lvl s (levs s ns) id<0:=by
    have h3:=(kn_lvl hg id).1
    exact Int.not_le.1 fun h4=>hk (h3 h4)
   rw [decide_eq_false (by unfold Kn at hk;omega)]
   simp;omega
 rw [← he]
 clear h he
 obtain⟨l,hl⟩:∃ l,lvl s (levs s ns) id=l:=⟨_,rfl⟩
 rw [hl] at HL ⊢
 clear hl
 go_enter Tryz.func64,Tryz.ntmps64
 go_wp2_with fail
 refine (HL.out _ (by (repeat first|exact Fr.refl _ _|assumption|apply Fr.n|apply Fr.d|apply Fr.a|refine Fr.s ?_ (.inr (by simp;try omega)) _))).mono ?_
 rintro e w1 ⟨rfl,h,hf⟩
 have H:=Lib.hid (And.intro h hf)
 clear h hf
 go_wp2
 go_ret
 exact⟨rfl,H.out.1,H.out.2⟩
end
end Go.Proofs.YtdanghnadbkhfaaGreat
end
