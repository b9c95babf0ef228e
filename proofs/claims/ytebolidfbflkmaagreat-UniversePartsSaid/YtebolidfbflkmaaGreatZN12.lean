/- Own texts of this claim, part 13: no condition. -/
import Derived.Maps.AppendAt
import Derived.Laws.AppendOwnNone
import Derived.Test.YtebolidfbflkmaaGreatZN10
import Derived.Test.YtebolidfbflkmaaGreatZN11
import Derived.Test.YtebolidfbflkmaaGreatZN3
import Derived.Test.YtebolidfbflkmaaGreatZN2
set_option linter.unusedVariables false
set_option linter.unusedSimpArgs false
set_option maxHeartbeats 16000000
section
namespace Go.Proofs.YtebolidfbflkmaaGreat
open Go Go.RowKit Rg Mp Hp Qs Ev
def sTR (b:Nat) (s:Int) (ns:List K4):Res where
 holds w F:=StoreAt w b s ns F
 keep:=fun h hk=>h.keep hk
 lt:=fun h=>h.lt
def mapR (rb:Nat) (mm:List ((Int×Int)×Int)):Res where
 holds w F:=MapIs w rb (pairV .i64) (Value.int .i64) mm∧F=[rb]
 keep:=fun ⟨h1,h2⟩ hk=>⟨h1.of_block (hk _ (by simp [h2])),h2⟩
 lt:=fun ⟨h1,h2⟩ x hx=>by rw [h2] at hx;simp at hx;subst hx;exact h1.lt
section
variable {W w:World} {b:Nat} {s:Int} {ns:List K4} {Ps:List Res}
theorem has_good (h:Has W w (sTR b s ns::Ps)):GoodQ s ns:=by obtain⟨F,hS⟩:=h.head;exact hS.1
theorem Join_has (h:Has W w (sTR b s ns::Ps)) (x y z u:Int) :
  Calls Tryz.prog 82 #[.pointer (some ⟨b,0,none⟩),.int .i64 x,.int .i64 y,.int .i64 z,.int .i64 u] w fun e w' =>
   e=.returned (.tuple #[.int .i64 (join s ns ⟨x,y,z,u⟩).1.1,.int .i64 (join s ns ⟨x,y,z,u⟩).1.2])∧Has W w' (sTR b s (join s ns ⟨x,y,z,u⟩).2::Ps) :=
 h.upd (P':=sTR b s (join s ns ⟨x,y,z,u⟩).2) (R:=fun e=>e=.returned (.tuple #[.int .i64 (join s ns ⟨x,y,z,u⟩).1.1,.int .i64 (join s ns ⟨x,y,z,u⟩).1.2])) fun F hS=>(Join_calls hS ⟨x,y,z,u⟩).mono fun e w' h=>h
theorem JoinRoom_has (h:Has W w (sTR b s ns::Ps)) {L:List Tr} (hr:room s ns L) {n:Nat} (hn:n<256) {x y z u:Int} {ta tb tc td:Tr} (ha:Is s ns n x ta) (hb:Is s ns n y tb) (hc:Is s ns n z tc) (hd:Is s ns n u td) (hL:Tr.node ta tb tc td∈L) :
  Calls Tryz.prog 82 #[.pointer (some ⟨b,0,none⟩),.int .i64 x,.int .i64 y,.int .i64 z,.int .i64 u] w fun e w' =>
   ∃ id ms,e=.returned (.tuple #[.int .i64 id,.int .i64 0])∧Has W w' (sTR b s ms::Ps)∧ns <+: ms∧room s ms L∧Is s ms (n+1) id (.node ta tb tc td):=by
 obtain⟨id,ms,hj,hg,hp,hr',hi⟩:=join_room (has_good h) hr hn ha hb hc hd hL;refine (Join_has h x y z u).mono ?_;rintro e w' ⟨rfl,h'⟩;rw [hj] at h' ⊢;exact⟨id,ms,rfl,h',hp,hr',hi⟩
theorem Level_has (h:Has W w (sTR b s ns::Ps)) (id:Int) :
  Calls Tryz.prog 98 #[.pointer (some ⟨b,0,none⟩),.int .i64 id] w fun e w'=>e=.returned (.int .i64 (lvl s (levs s ns) id))∧Has W w' (sTR b s ns::Ps)∧Fr [] w w':=by
 obtain⟨F,hS⟩:=h.head;refine (Level_calls hS id).mono ?_;rintro e w' ⟨rfl,hd⟩;exact⟨rfl,h.step (hd.fr _),hd.fr _⟩
theorem LevelIs_has (h:Has W w (sTR b s ns::Ps)) {n:Nat} {id:Int} {t:Tr} (hi:Is s ns n id t) :
  Calls Tryz.prog 98 #[.pointer (some ⟨b,0,none⟩),.int .i64 id] w fun e w'=>e=.returned (.int .i64 n)∧Has W w' (sTR b s ns::Ps)∧Fr [] w w':=by
 have:=Level_has h id;rwa [hi.lvl (has_good h)] at this
theorem Kids_has (h:Has W w (sTR b s ns::Ps)) {n:Nat} {id:Int} {t:Tr} (hi:Is s ns (n+1) id t) :
  Calls Tryz.prog 106 #[.pointer (some ⟨b,0,none⟩),.int .i64 id] w fun e w'=>e=.returned (.tuple #[.agg #[.int .i64 (nodeOf s ns id).a,.int .i64 (nodeOf s ns id).b,.int .i64 (nodeOf s ns id).c,.int .i64 (nodeOf s ns id).d],.bool true])∧Has W w' (sTR b s ns::Ps)∧Fr [] w w':=by
 obtain⟨F,hS⟩:=h.head;obtain⟨h1,h2,_⟩:=hi.node (has_good h);have e:kidsOf s ns id=(nodeOf s ns id,true):=by unfold kidsOf;rw [if_neg o_,h2]
 refine (Kids_calls hS id).mono ?_;rintro e' w' ⟨he,hf⟩;rw [e] at he;exact⟨he,h.step hf,hf⟩
theorem KidsLeaf_has (h:Has W w (sTR b s ns::Ps)) {id:Int} {t:Tr} (hi:Is s ns 0 id t) :
  Calls Tryz.prog 106 #[.pointer (some ⟨b,0,none⟩),.int .i64 id] w fun e w'=>e=.returned (.tuple #[.agg #[.int .i64 0,.int .i64 0,.int .i64 0,.int .i64 0],.bool false])∧Has W w' (sTR b s ns::Ps)∧Fr [] w w':=by
 obtain⟨F,hS⟩:=h.head;obtain⟨h1,h2,_⟩:=hi.zero (has_good h);have e:kidsOf s ns id=(⟨0,0,0,0⟩,false):=by unfold kidsOf;rw [if_pos h2]
 refine (Kids_calls hS id).mono ?_;rintro e' w' ⟨he,hf⟩;rw [e] at he;exact⟨he,h.step hf,hf⟩
end
theorem hCE {W w:World} {b:Nat} {cs:Array Value} {t:TypeId} {Ps:List Res} (h:Has W w (Hp.blk b (.cells cs t (0,0))::Ps)):(∀ j,w.cell? ⟨b,j,none⟩=cs[j]?)∧(∀ j,w.frozen? ⟨b,j,none⟩=false)∧b<w.heap.size :=
 ⟨fun j=>hEC h.blk j,fun j=>hEF h.blk j,lBk h.blk⟩
theorem hST {W w:World} {b:Nat} {cs:Array Value} {t:TypeId} {Ps:List Res} (h:Has W w (Hp.blk b (.cells cs t (0,0))::Ps)) (j:Nat) (v:Value):Has W (w.setCell ⟨b,j,none⟩ v) (Hp.blk b (.cells (cs.setIfInBounds j v) t (0,0))::Ps) :=
 h.turn fun F ⟨h1,h2⟩=>⟨F,⟨heap_setCell_here h1 j v,h2⟩,(Fr.refl F w).setCell (.inl (by simp [h2])) v,fun x hx=>.inl hx⟩
theorem hAL {W w:World} {Ps:List Res} (h:Has W w Ps) (cs:Array Value) (t:TypeId):Has W (w.alloc (.cells cs t (0,0))) (Hp.blk w.heap.size (.cells cs t (0,0))::Ps):=h.newBlk _
end Go.Proofs.YtebolidfbflkmaaGreat
end
section
namespace Go.Proofs.Hp
open Go Go.RowKit
def iv (l:List Int):List Value:=l.map fun n=>Value.int .i64 n
theorem iv_get {l:List Int} {i:Nat} {x:Int} (h:l[i]?=some x):(iv l)[i]?=some (.int .i64 x):=by rw [iv,List.getElem?_map,h];rfl
theorem iv_set (l:List Int) (i:Nat) (x:Int):(iv l).set i (.int .i64 x)=iv (l.set i x):=by unfold iv;rw [List.map_set]
theorem iv_replicate (n:Nat):List.replicate n (Value.int .i64 0)=iv (List.replicate n 0):=by simp [iv]
def IntsAt (w:World) (v:Value) (l:List Int):Prop:=Reads w v l.length 1 (iv l)
theorem IntsAt.fr {w w':World} {v:Value} {l:List Int} (h:IntsAt w v l) (hf:Fr [] w w'):IntsAt w' v l:=Reads.fr h hf
theorem IntsAt.form {w:World} {v:Value} {l:List Int} (h:IntsAt w v l):∃ a c,v=.slice a l.length c:=by obtain⟨_,a,c,h,_⟩:=h;exact⟨a,c,h⟩
def RowsAt (w:World) (v:Value) (L:List (List Int)):Prop:=∃ vs:List Value,Reads w v L.length 1 vs∧∀ (i:Nat) (r:List Int),L[i]?=some r→∃ u,vs[i]?=some u∧IntsAt w u r
theorem RowsAt.fr {w w':World} {v:Value} {L:List (List Int)} (h:RowsAt w v L) (hf:Fr [] w w'):RowsAt w' v L:=by obtain⟨vs,h1,h2⟩:=h;refine⟨vs,h1.fr hf,fun i r hi=>?_⟩;obtain⟨u,hu,hr⟩:=h2 i r hi;exact⟨u,hu,hr.fr hf⟩
theorem RowsAt.form {w:World} {v:Value} {L:List (List Int)} (h:RowsAt w v L):∃ a c,v=.slice a L.length c:=by obtain⟨_,⟨_,a,c,h,_⟩,_⟩:=h;exact⟨a,c,h⟩
theorem RowsAt.row {w:World} {a:Option Addr} {n c:Nat} {L:List (List Int)} (h:RowsAt w (.slice a n c) L) {i:Nat} {r:List Int} (hi:L[i]?=some r) :
  ∃ g off ra rc,a=some ⟨g,off,none⟩∧g<w.heap.size∧w.cell? ⟨g,off+i,none⟩=some (.slice ra r.length rc)∧IntsAt w (.slice ra r.length rc) r:=by
 obtain⟨vs,⟨hl,a',c',he,hp⟩,h2⟩:=h;cases he;obtain⟨u,hu,hr⟩:=h2 i r hi;obtain⟨ra,rc,rfl⟩:=hr.form;have hlt:=(List.getElem?_eq_some_iff.1 hi).1;obtain⟨g,off,rfl,hg,hc⟩:=hp o_;exact⟨g,off,ra,rc,rfl,hg,hc i _ hu,hr⟩
theorem IntsAt.cell {w:World} {a:Option Addr} {n c:Nat} {l:List Int} (h:IntsAt w (.slice a n c) l) {i:Nat} {x:Int} (hi:l[i]?=some x) :
  ∃ g off,a=some ⟨g,off,none⟩∧g<w.heap.size∧w.cell? ⟨g,off+i,none⟩=some (.int .i64 x):=by
 obtain⟨hl,a',c',he,hp⟩:=h;cases he;have hlt:=(List.getElem?_eq_some_iff.1 hi).1;obtain⟨g,off,rfl,hg,hc⟩:=hp o_;exact⟨g,off,rfl,hg,hc i _ (iv_get hi)⟩
theorem IntsAt.part {w:World} {a:Option Addr} {g off n c c':Nat} {l:List Int} (h:IntsAt w (.slice (some ⟨g,off,none⟩) n c) l) {i m:Nat} (hm:i+m≤l.length):IntsAt w (.slice (some ⟨g,off+i,none⟩) m c') ((l.drop i).take m):=by
 obtain⟨hl,a',c'',he,hp⟩:=h;cases he;have hlen:((l.drop i).take m).length=m:=by simp;omega
 refine⟨by simp [iv],_,_,by rw [hlen],fun h0=>?_⟩;rw [hlen] at h0;obtain⟨g',off',he,hg,hc⟩:=hp o_;cases he;refine⟨g,off+i,rfl,hg,fun j u hj=>?_⟩;have hj':(iv l)[i+j]?=some u:=by
  unfold iv at hj ⊢;rw [List.getElem?_map,List.getElem?_take] at hj;split at hj;·rw [List.getElem?_drop] at hj;rw [List.getElem?_map];exact hj
  ·simp at hj
 have:=hc (i+j) u hj';rwa [← Nat.add_assoc] at this
theorem RowsAt.of_owns {w:World} {base e:Nat} {v:Value} {vs:List Value} {L:List (List Int)} (h:w.ownsRow base e 1 v L.length vs) (hr:∀ (i:Nat) (r:List Int),L[i]?=some r→∃ u,vs[i]?=some u∧IntsAt w u r):RowsAt w v L:=⟨vs,Reads.of_owns h,hr⟩
end Go.Proofs.Hp
end
section
namespace Go.Proofs.Ev
open Qs
def filled (n:Nat) (G:Nat→Int) (k:Nat):List Int:=(List.range n).map fun i=>if i<k then G i else 0
theorem filled_get {n:Nat} {G:Nat→Int} {k i:Nat} (hi:i<n):(filled n G k)[i]?=some (if i<k then G i else 0):=by simp [filled,hi]
theorem filled_set {n:Nat} {G:Nat→Int} {k:Nat} (hk:k<n):(filled n G k).set k (G k)=filled n G (k+1):=by
 apply List.ext_getElem?;intro i;rw [List.getElem?_set];by_cases h:k=i;·
  subst h;rw [if_pos rfl,if_pos (by simp [filled];exact hk),filled_get hk,if_pos o_]
 ·rw [if_neg h];by_cases hi:i<n;·
   rw [filled_get hi,filled_get hi];by_cases h2:i<k;·rw [if_pos h2,if_pos o_]
   ·rw [if_neg h2,if_neg o_]
  ·rw [List.getElem?_eq_none (by simp [filled];omega),List.getElem?_eq_none (by simp [filled];omega)]
end Go.Proofs.Ev
namespace Go.Proofs.YtebolidfbflkmaaGreat
open Go Go.RowKit Rg Mp Hp Qs Ev
theorem filled_cell {W w:World} {b n k:Nat} {G:Nat→Int} {T:TypeId} {Ps:List Res} (h:Has W w (Hp.blk b (.cells (iv (filled n G k)).toArray T (0,0))::Ps)) {i:Nat} (hi:i<n):w.cell? ⟨b,i,none⟩=some (.int .i64 (if i<k then G i else 0)):=by rw [(hCE h).1 i];have:=iv_get (filled_get (n:=n) (G:=G) (k:=k) hi);simpa using this
theorem filled_set_has {W w:World} {b n k:Nat} {G:Nat→Int} {T:TypeId} {Ps:List Res} (h:Has W w (Hp.blk b (.cells (iv (filled n G k)).toArray T (0,0))::Ps)) (hk:k<n) {v:Int} (hv:v=G k):Has W (w.setCell ⟨b,k,none⟩ (.int .i64 v)) (Hp.blk b (.cells (iv (filled n G (k+1))).toArray T (0,0))::Ps):=by subst hv;have:=hST h k (.int .i64 (G k));rwa [show (iv (filled n G k)).toArray.setIfInBounds k (.int .i64 (G k))=(iv (filled n G (k+1))).toArray by rw [← filled_set hk,← iv_set];simp] at this
def At5 (P:Nat→Prop) (z:Int):Prop:=z=0∧P 0∨z=1∧P 1∨z=2∧P 2∨z=3∧P 3∨z=4∧P 4
section
variable {W w:World} {b:Nat} {s:Int} {ns:List K4} {Ps:List Res}
theorem known_has (h:Has W w (sTR b s ns::Ps)) {n:Nat} {id:Int} {t:Tr} (hi:Is s ns n id t) :
  Calls Tryz.prog 110 #[.pointer (some ⟨b,0,none⟩),.int .i64 id] w fun e w'=>e=.returned (.int .i64 0)∧Has W w' (sTR b s ns::Ps)∧Fr [] w w':=by
 have HL:=q_ (fun w1 (hf:Fr [] w w1)=>LevelIs_has (h.step hf) hi);clear h hi;go_enter Tryz.func110,Tryz.ntmps110;go_wp2_with fail;refine (HL.out _ (Fr.t)).mono ?_;rintro e w1 ⟨rfl,h,hf⟩;have H:=q_ (And.intro h hf);clear h hf;go_wp2;go_ret;exact⟨rfl,H.out.1,H.out.2⟩
end
theorem Centre_has {W w:World} {b:Nat} {s:Int} {ns:List K4} {Ps:List Res} (h:Has W w (sTR b s ns::Ps)) {L:List Tr} (hr:room s ns L) {n:Nat} (hn:n+2≤256) {id:Int} {t:Tr} (hi:Is s ns (n+2) id t) (hL:ctr t∈L) :
  Calls Tryz.prog 101 #[.pointer (some ⟨b,0,none⟩),.int .i64 id] w fun e w' =>
   ∃ id' ms,e=.returned (.tuple #[.int .i64 id',.int .i64 0])∧Has W w' (sTR b s ms::Ps)∧ns <+: ms∧room s ms L∧Is s ms (n+1) id' (ctr t):=by
 obtain⟨_,_,hk⟩:=hi.node (has_good h);have hkk:∀ q,q<4→Is s ns n ((nodeOf s ns ((nodeOf s ns id).get q)).get (3 - q)) (Tr.q (Tr.q t q) (3 - q)):=fun q hq=>((hk q hq).node (has_good h)).2.2 (3 - q) o_;have HJ:=q_ (fun w1 Qs (h1:Has W w1 (sTR b s ns::Qs))=>JoinRoom_has h1 hr o_ (hkk 0 o_) (hkk 1 o_) (hkk 2 o_) (hkk 3 o_) hL);have HN:=q_ (fun w1 Qs (h1:Has W w1 (sTR b s ns::Qs))=>known_has h1 hi);have HL:=q_ (fun w1 Qs (h1:Has W w1 (sTR b s ns::Qs))=>LevelIs_has h1 hi);have HK:=q_ (fun w1 Qs (h1:Has W w1 (sTR b s ns::Qs))=>Kids_has h1 hi);have HK1:=q_ (fun w1 Qs q (hq:q<4) (h1:Has W w1 (sTR b s ns::Qs))=>Kids_has h1 (hk q hq));have H:=q_ h;clear hkk hk h hr hi hL;go_enter Tryz.func101,Tryz.ntmps101;go_wp2_with fail;refine (HN.out _ _ H.out).mono ?_;rintro e w1 ⟨rfl,h,hf⟩;have H:=q_ h;clear h hf;go_wp2_with fail;refine (HL.out _ _ H.out).mono ?_;rintro e w2 ⟨rfl,h,hf⟩;have H:=q_ h;clear h hf;have hn2:decide ((n:Int)+2<2)=false:=by simp;omega
 go_wp2_with fail;have h:=(hAL H.out #[.int .i64 0,.int .i64 0,.int .i64 0,.int .i64 0] 132).swap;refine (HK.out _ _ h).mono ?_;rintro e w3 ⟨rfl,h,hf⟩;obtain⟨ib,hib⟩:∃ ib,w2.heap.size=ib:=⟨_,rfl⟩;rw [hib] at h ⊢;have H3:=q_ h;clear h hf hib H;go_wp2;go_loopw [31] (fun x wr=>∃ z:Int,x=.int .i64 z∧At5 (fun k=>Has W wr (sTR b s ns::Hp.blk ib (.cells (iv (filled 4 (fun q=>(nodeOf s ns ((nodeOf s ns id).get q)).get (3 - q)) k)).toArray 132 (0,0))::Ps)) z) (fun x _=>4 - (intOf x).toNat);case atStart =>refine⟨0,rfl,.inl ⟨rfl,?_⟩⟩;have h0:=H3.out.step (Fr.t:Fr [] w3 (w3.alloc (.cells #[.int .i64 (nodeOf s ns id).a,.int .i64 (nodeOf s ns id).b,.int .i64 (nodeOf s ns id).c,.int .i64 (nodeOf s ns id).d] 132)));exact h0
 case round =>
  obtain⟨z,rfl,hz⟩:=hrel;clear H3;rcases hz with ⟨rfl,h⟩|⟨rfl,h⟩|⟨rfl,h⟩|⟨rfl,h⟩|⟨rfl,h⟩
  ·have H:=q_ h;clear h;go_wp2_with fail;refine (HK1.out _ _ 0 o_ H.out).mono ?_;rintro e w5 ⟨rfl,h,hf⟩;have c0:=filled_cell h.swap (i:=0) o_;simp only [Nat.lt_irrefl,if_false] at c0;have cz:=(hCE h.swap).2.1 0;have cl:=(hCE h.swap).2.2;have H5:=q_ h;clear h hf;go_wp2;go_roundw;case rel=>exact⟨1,rfl,(.inr (.inl ⟨rfl,(filled_set_has H5.out.swap o_ rfl).swap.step ((Fr.refl [] _).alloc _)⟩))⟩
   case measure=>simp [intOf]
  ·have H:=q_ h;clear h;go_wp2_with fail;refine (HK1.out _ _ 1 o_ H.out).mono ?_;rintro e w5 ⟨rfl,h,hf⟩;have c0:=filled_cell h.swap (i:=1) o_;simp only [Nat.lt_irrefl,if_false] at c0;have cz:=(hCE h.swap).2.1 1;have cl:=(hCE h.swap).2.2;have H5:=q_ h;clear h hf;go_wp2;go_roundw;case rel=>exact⟨2,rfl,(.inr (.inr (.inl ⟨rfl,(filled_set_has H5.out.swap o_ rfl).swap.step ((Fr.refl [] _).alloc _)⟩)))⟩
   case measure=>simp [intOf]
  ·have H:=q_ h;clear h;go_wp2_with fail;refine (HK1.out _ _ 2 o_ H.out).mono ?_;rintro e w5 ⟨rfl,h,hf⟩;have c0:=filled_cell h.swap (i:=2) o_;simp only [Nat.lt_irrefl,if_false] at c0;have cz:=(hCE h.swap).2.1 2;have cl:=(hCE h.swap).2.2;have H5:=q_ h;clear h hf;go_wp2;go_roundw;case rel=>exact⟨3,rfl,(.inr (.inr (.inr (.inl ⟨rfl,(filled_set_has H5.out.swap o_ rfl).swap.step ((Fr.refl [] _).alloc _)⟩))))⟩
   case measure=>simp [intOf]
  ·have H:=q_ h;clear h;go_wp2_with fail;refine (HK1.out _ _ 3 o_ H.out).mono ?_;rintro e w5 ⟨rfl,h,hf⟩;have c0:=filled_cell h.swap (i:=3) o_;simp only [Nat.lt_irrefl,if_false] at c0;have cz:=(hCE h.swap).2.1 3;have cl:=(hCE h.swap).2.2;have H5:=q_ h;clear h hf;go_wp2;go_roundw;case rel=>exact⟨4,rfl,(.inr (.inr (.inr (.inr ⟨rfl,(filled_set_has H5.out.swap o_ rfl).swap.step ((Fr.refl [] _).alloc _)⟩))))⟩
   case measure=>simp [intOf]
  ·have H:=q_ h;have c0:=filled_cell h.swap (i:=0) o_;have c1:=filled_cell h.swap (i:=1) o_;have c2:=filled_cell h.swap (i:=2) o_;have c3:=filled_cell h.swap (i:=3) o_;simp only [show (0:Nat)<4 by omega,show (1:Nat)<4 by omega,show (2:Nat)<4 by omega,show (3:Nat)<4 by omega,if_true] at c0 c1 c2 c3;clear h;go_wp2_with fail;refine (HJ.out _ _ H.out).mono ?_;rintro e w9 ⟨id',ms,rfl,h1,h2,h3,h4⟩;have HF:=q_ (And.intro h1 (And.intro h2 (And.intro h3 h4)));clear h1 h2 h3 h4;go_wp2;go_ret2;exact⟨id',ms,rfl,HF.out.1.swap.drop,HF.out.2.1,HF.out.2.2.1,HF.out.2.2.2⟩
end Go.Proofs.YtebolidfbflkmaaGreat
end
section
namespace Go.Proofs.YtebolidfbflkmaaGreat
open Go Go.RowKit Rg Mp Hp Qs
def Chain (s:Int) (ns:List K4):Nat→Int→Prop
 | 0,a=>a=0
 | L+1,a=>∃ (c:Int) (i:Nat),Chain s ns L c∧ns.idxOf? (four c)=some i∧a=s+i
theorem idx_append {ns t:List K4} {k:K4} {i:Nat} (h:ns.idxOf? k=some i):(ns++t).idxOf? k=some i:=by rw [List.idxOf?_eq_some_iff] at h ⊢;obtain⟨h1,h2,h3⟩:=h;refine⟨by simp;omega,by rw [List.getElem_append_left h1];exact h2,fun j hj=>?_⟩;rw [List.getElem_append_left o_];exact h3 j hj
theorem idx_get {ns:List K4} {k:K4} {i:Nat} (h:ns.idxOf? k=some i):ns[i]?=some k:=by rw [List.idxOf?_eq_some_iff] at h;obtain⟨h1,h2,_⟩:=h;rw [List.getElem?_eq_getElem h1];simpa using h2
theorem idx_last {ns:List K4} {k:K4} (h:ns.idxOf? k=none):(ns++[k]).idxOf? k=some ns.length:=by
 have hn:k∉ns:=by simpa using h
 rw [List.idxOf?_eq_some_iff];refine⟨i_,i_,fun j hj he=>hn ?_⟩;rw [List.getElem_append_left o_] at he;have he':ns[j]=k:=by simpa using he
 rw [← he'];exact List.getElem_mem _
theorem Chain_append {s:Int} {ns:List K4} (t:List K4):∀ {L:Nat} {a:Int},Chain s ns L a→Chain s (ns++t) L a
 | 0,_,h=>h
 | _+1,_,⟨c,i,h1,h2,h3⟩=>⟨c,i,Chain_append t h1,idx_append h2,h3⟩
theorem Chain_level {s:Int} {ns:List K4} (hg:GoodQ s ns):∀ {L:Nat} {a:Int},Chain s ns L a→lvl s (levs s ns) a=L
 | 0,a,h=>by have h:a=0:=h;subst h;have:=hg.1;unfold lvl;rw [if_neg o_,if_pos o_];rfl
 | L+1,a,⟨c,i,h1,h2,h3⟩=>by subst h3;have h0:=(good_lvl hg (idx_get h2)).1;have:=Chain_level hg h1;simp only [four] at h0;omega
theorem climb_chain {s:Int} {ns:List K4}:∀ (m:Nat) {id:Int} {n:Nat},Chain s ns n id→Chain s ns (climb s ns m id n).2 (climb s ns m id n).1
 | 0,_,_,h=>h
 | m+1,id,n,h=>by
  unfold climb;split;·
   rename_i i hi;exact climb_chain m ⟨id,i,h,hi,rfl⟩
  ·exact h
theorem grow_chain {s:Int}:∀ (m:Nat) {id:Int} {n:Nat} {ns:List K4},GoodQ s ns→Chain s ns n id→n+m≤256→ns.length+m≤100000 →
  GoodQ s (grow s m id ns).2∧Chain s (grow s m id ns).2 (n+m) (grow s m id ns).1
 | 0,_,_,_,hg,h,_,_=>⟨hg,h⟩
 | m+1,id,n,ns,hg,h,hn,hl=>by
  have hlv:=Chain_level hg h;have hfit:Fits s ns (four id):=⟨by show 0≤lvl s (levs s ns) id;omega,by show lvl s (levs s ns) id<256;omega,rfl,rfl,rfl⟩;have hj:join s ns (four id)=joinIn s ns (four id):=by unfold join;rw [if_neg (by show ¬ (lvl s (levs s ns) id<0∨lvl s (levs s ns) id<0∨lvl s (levs s ns) id<0∨lvl s (levs s ns) id<0);omega),if_neg (fun hh=>hh hfit)]
  unfold grow;rw [hj,show n+(m+1)=(n+1)+m by omega];cases hi:ns.idxOf? (four id) with
  | some i =>rw [joinIn_hit hi];exact grow_chain m hg ⟨id,i,h,hi,rfl⟩ o_ (by show ns.length+m≤100000;omega)
  | none =>rw [joinIn_new hi o_];exact grow_chain m (hg.snoc hfit (by simpa using hi) o_) ⟨id,ns.length,Chain_append _ h,idx_last hi,rfl⟩ o_ (by simp;omega)
theorem empty_first {s:Int} {ns:List K4} (hg:GoodQ s ns) {L:Nat} (hL:L≤256) (hl:ns.length+L≤100000):∃ a ns',emptyQ s ns L=((a,0),ns')∧GoodQ s ns'∧Chain s ns' L a:=by have hk:=climb_le (s:=s) (ns:=ns) L 0 0;have hc:=climb_chain (s:=s) (ns:=ns) L (id:=0) (n:=0) rfl;obtain⟨h1,h2⟩:=grow_chain (L - (climb s ns L 0 0).2) hg hc o_ o_;rw [show (climb s ns L 0 0).2+(L - (climb s ns L 0 0).2)=L by omega] at h2;refine⟨_,_,?_,h1,h2⟩;unfold emptyQ;rw [if_neg o_,show (L:Int).toNat=L by omega,if_neg o_]
theorem join_len (s:Int) (ns:List K4) (k:K4):(join s ns k).2.length≤ns.length+1:=by
 unfold join;split;·simp
 ·split;·simp
  ·unfold joinIn;split;·simp
   ·split<;>simp
end Go.Proofs.YtebolidfbflkmaaGreat
end
section
namespace Go.Proofs.YtebolidfbflkmaaGreat
open Go Qs Ev
def kr (f:List K4→Nat→(Int×Int)×List K4):Nat→List K4→Int×List Int×List K4
 | 0,ns=>(0,[],ns)
 | k+1,ns=>if (kr f k ns).1≠0 then kr f k ns else if (f (kr f k ns).2.2 k).1.2=0 then (0,(kr f k ns).2.1++[(f (kr f k ns).2.2 k).1.1],(f (kr f k ns).2.2 k).2) else ((f (kr f k ns).2.2 k).1.2,(kr f k ns).2.1,(f (kr f k ns).2.2 k).2)
def k4l (l:List Int):K4:=⟨l.getD 0 0,l.getD 1 0,l.getD 2 0,l.getD 3 0⟩
def fin4 (s:Int) (f:List K4→Nat→(Int×Int)×List K4) (ns:List K4):(Int×Int)×List K4 :=
 if (kr f 4 ns).1≠0 then ((0,(kr f 4 ns).1),(kr f 4 ns).2.2) else join s (kr f 4 ns).2.2 (k4l (kr f 4 ns).2.1)
theorem kr_ok {f:List K4→Nat→(Int×Int)×List K4} {k:Nat} {ns ms ms':List K4} {ids:List Int} {id:Int} (h:kr f k ns=(0,ids,ms)) (h2:f ms k=((id,0),ms')):kr f (k+1) ns=(0,ids++[id],ms'):=by rw [kr,h];simp only [ne_eq,not_true_eq_false,if_false];rw [h2];simp
theorem kr_bad {f:List K4→Nat→(Int×Int)×List K4} {k:Nat} {ns ms ms':List K4} {ids:List Int} {id e:Int} (h:kr f k ns=(0,ids,ms)) (h2:f ms k=((id,e),ms')) (he:e≠0):kr f (k+1) ns=(e,ids,ms'):=by rw [kr,h];simp only [ne_eq,not_true_eq_false,if_false];rw [h2];simp [he]
theorem kr_stay {f:List K4→Nat→(Int×Int)×List K4} {k:Nat} {ns ms:List K4} {ids:List Int} {e:Int} (h:kr f k ns=(e,ids,ms)) (he:e≠0):∀ m,kr f (k+m) ns=(e,ids,ms)
 | 0=>h
 | m+1=>by show kr f (k+m+1) ns=_;rw [kr,kr_stay h he m,if_pos he]
theorem fin4_bad {s:Int} {f:List K4→Nat→(Int×Int)×List K4} {k:Nat} {ns ms ms':List K4} {ids:List Int} {id e:Int} (hk:k<4) (h:kr f k ns=(0,ids,ms)) (h2:f ms k=((id,e),ms')) (he:e≠0):fin4 s f ns=((0,e),ms'):=by have:=kr_stay (kr_bad h h2 he) he (3 - k);rw [show k+1+(3 - k)=4 by omega] at this;unfold fin4;rw [this,if_pos he]
theorem fin4_ok {s:Int} {f:List K4→Nat→(Int×Int)×List K4} {ns ms:List K4} {ids:List Int} (h:kr f 4 ns=(0,ids,ms)):fin4 s f ns=join s ms (k4l ids):=by unfold fin4;rw [h,if_neg i_]
theorem kr_len {f:List K4→Nat→(Int×Int)×List K4}:∀ {k:Nat} {ns ms:List K4} {ids:List Int},kr f k ns=(0,ids,ms)→ids.length=k
 | 0,ns,ms,ids,h=>by simp only [kr,Prod.mk.injEq] at h;rw [← h.2.1];rfl
 | k+1,ns,ms,ids,h=>by
  obtain⟨e,i2,m2,h2⟩:∃ e i2 m2,kr f k ns=(e,i2,m2):=⟨_,_,_,rfl⟩;by_cases he:e=0;·
   subst he;obtain⟨id,e3,m3,h3⟩:∃ id e3 m3,f m2 k=((id,e3),m3):=⟨_,_,_,rfl⟩;by_cases h4:e3=0;·
    subst h4;rw [kr_ok h2 h3] at h;simp only [Prod.mk.injEq] at h;rw [← h.2.1];simp [kr_len h2]
   ·rw [kr_bad h2 h3 h4] at h;simp only [Prod.mk.injEq] at h;exact absurd h.1 h4
  ·have:=kr_stay h2 he 1;rw [this] at h;simp only [Prod.mk.injEq] at h;exact absurd h.1 he
structure Spot where
 x:Nat
 y:Nat
 st:Int
def quadOf (h:Nat) (c:Spot):Nat:=(if h≤c.x then 1 else 0)+(if h≤c.y then 2 else 0)
def intoQ (h:Nat) (c:Spot):Spot:=⟨if h≤c.x then c.x - h else c.x,if h≤c.y then c.y - h else c.y,c.st⟩
def partQ (h:Nat) (k:Nat) (l:List Spot):List Spot:=(l.filter fun c=>decide (quadOf h c=k)).map (intoQ h)
def putK (k:K4) (q:Nat) (v:Int):K4:=if q=0 then { k with a:=v } else if q=1 then { k with b:=v } else if q=2 then { k with c:=v } else { k with d:=v }
def qd (n x y:Nat):Nat:=x / 2 ^ n % 2+2*(y / 2 ^ n % 2)
theorem qd_lt (n x y:Nat):qd n x y<4:=by unfold qd;omega
def setQ (s:Int):Nat→List K4→Int→Nat→Nat→Int→(Int×Int)×List K4
 | 0,ns,id,x,y,st=>((st,0),ns)
 | n+1,ns,id,x,y,st =>
  if (setQ s n ns ((nodeOf s ns id).get (qd n x y)) x y st).1.2≠0 then ((0,(setQ s n ns ((nodeOf s ns id).get (qd n x y)) x y st).1.2),(setQ s n ns ((nodeOf s ns id).get (qd n x y)) x y st).2)
  else join s (setQ s n ns ((nodeOf s ns id).get (qd n x y)) x y st).2 (putK (nodeOf s ns id) (qd n x y) (setQ s n ns ((nodeOf s ns id).get (qd n x y)) x y st).1.1)
def lookQ (s:Int) (ns:List K4):Nat→Int→Nat→Nat→Int
 | 0,id,_,_=>id
 | n+1,id,x,y=>lookQ s ns n ((nodeOf s ns id).get (qd n x y)) x y
def setT:Nat→Tr→Nat→Nat→Int→Tr
 | n+1,.node a b c d,x,y,st=>if qd n x y=0 then .node (setT n a x y st) b c d else if qd n x y=1 then .node a (setT n b x y st) c d else if qd n x y=2 then .node a b (setT n c x y st) d else .node a b c (setT n d x y st)
 | _,_,_,_,st=>.leaf st
def lookT:Nat→Tr→Nat→Nat→Int
 | n+1,t,x,y=>lookT n (Tr.q t (qd n x y)) x y
 | 0,.leaf v,_,_=>v
 | 0,_,_,_=>0
theorem lookQ_is {s:Int} {ns:List K4} (hg:GoodQ s ns):∀ {n:Nat} {id:Int} {t:Tr} {x y:Nat},Is s ns n id t→lookQ s ns n id x y=lookT n t x y
 | 0,id,t,x,y,h=>by obtain⟨_,_,rfl⟩:=h.zero hg;rfl
 | n+1,id,t,x,y,h=>by show lookQ s ns n _ x y=lookT n _ x y;exact lookQ_is hg ((h.node hg).2.2 _ (qd_lt n x y))
theorem setQ_ok {s:Int} {st:Int} (h0:0≤st) (h1:st<s) {x y:Nat}:∀ {n:Nat} {ns:List K4} {id:Int} {t:Tr},GoodQ s ns→Is s ns n id t→n≤256→ns.length+n≤90000 →
  ∃ id' ms,setQ s n ns id x y st=((id',0),ms)∧GoodQ s ms∧ns <+: ms∧ms.length≤ns.length+n∧Is s ms n id' (setT n t x y st)
 | 0,ns,id,t,hg,h,_,_=>by obtain⟨_,_,rfl⟩:=h.zero hg;exact⟨st,ns,rfl,hg,List.prefix_refl _,Nat.le_refl _,Is.leaf h0 h1⟩
 | n+1,ns,id,t,hg,h,hn,hl=>by
  obtain⟨i,k,rfl,hk,ka,kb,kc,kd,ht⟩:=h.kids hg;have hnode:nodeOf s ns (s+(i:Nat))=k:=by unfold nodeOf;rw [show (s+(i:Int) - s).toNat=i by omega,List.getD_eq_getElem?_getD,hk];rfl
  have hkq:Is s ns n (k.get (qd n x y)) (Tr.q t (qd n x y)):=by have:=(h.node hg).2.2 _ (qd_lt n x y);rwa [hnode] at this
  obtain⟨id',ms,hs,hg',hp,hl',hi'⟩:=setQ_ok h0 h1 (x:=x) (y:=y) hg hkq o_ o_;have hq:=qd_lt n x y;have hroom:∀ u,room s ms [u]:=fun u=>room.of_len (by simp;omega);have hsT:setQ s (n+1) ns (s+(i:Nat)) x y st=join s ms (putK k (qd n x y) id'):=by show (if (setQ s n ns ((nodeOf s ns (s+(i:Nat))).get (qd n x y)) x y st).1.2≠0 then _ else _)=_;rw [hnode,hs,if_neg i_]
  have ga:=ka.grow hp;have gb:=kb.grow hp;have gc:=kc.grow hp;have gd:=kd.grow hp;have hput:∃ a b c d ta tb tc td,putK k (qd n x y) id'=⟨a,b,c,d⟩∧Is s ms n a ta∧Is s ms n b tb∧Is s ms n c tc∧Is s ms n d td∧setT (n+1) t x y st=.node ta tb tc td:=by
   have:qd n x y=0∨qd n x y=1∨qd n x y=2∨qd n x y=3:=o_;rcases this with e|e|e|e<;>rw [e] at hi' ⊢
   ·exact⟨_,_,_,_,_,_,_,_,rfl,hi',gb,gc,gd,by rw [ht];simp only [setT,e,if_true,Tr.q]⟩
   ·exact⟨_,_,_,_,_,_,_,_,rfl,ga,hi',gc,gd,by rw [ht];simp [setT,e,Tr.q]⟩
   ·exact⟨_,_,_,_,_,_,_,_,rfl,ga,gb,hi',gd,by rw [ht];simp [setT,e,Tr.q]⟩
   ·exact⟨_,_,_,_,_,_,_,_,rfl,ga,gb,gc,hi',by rw [ht];simp [setT,e,Tr.q]⟩
  obtain⟨a,b,c,d,ta,tb,tc,td,hp4,ia,ib,ic,id4,ht4⟩:=hput;obtain⟨id2,ms2,hj,hg2,hp2,_,hi2⟩:=join_room hg' (hroom (.node ta tb tc td)) o_ ia ib ic id4 i_;refine⟨id2,ms2,by rw [hsT,hp4,hj],hg2,hp.trans hp2,?_,by rw [ht4];exact hi2⟩;have:=join_len s ms ⟨a,b,c,d⟩;rw [hj] at this;simp only at this;omega
theorem mod_step (x n:Nat):x % 2 ^ (n+1)=x % 2 ^ n+2 ^ n*(x / 2 ^ n % 2):=by rw [Nat.pow_succ,Nat.mod_mul]
def popT:Tr→Nat
 | .leaf v=>if v=0 then 0 else 1
 | .node a b c d=>popT a+popT b+popT c+popT d
theorem popT_le:∀ {n:Nat} {t:Tr},Full n t→popT t≤4 ^ n
 | 0,.leaf v,_=>by unfold popT;split<;>simp
 | 0,.node _ _ _ _,h=>h.elim
 | n+1,.leaf _,h=>h.elim
 | n+1,.node a b c d,⟨ha,hb,hc,hd⟩=>by have:=popT_le ha;have:=popT_le hb;have:=popT_le hc;have:=popT_le hd;show popT a+popT b+popT c+popT d≤_;rw [Nat.pow_succ];omega
def cellsT:Nat→Tr→Nat→Nat→List Spot
 | 0,.leaf v,x,y=>if v=0 then [] else [⟨x,y,v⟩]
 | n+1,.node a b c d,x,y=>cellsT n a x y++(cellsT n b (x+2 ^ n) y++(cellsT n c x (y+2 ^ n)++cellsT n d (x+2 ^ n) (y+2 ^ n)))
 | _,_,_,_=>[]
theorem cellsT_len:∀ {n:Nat} {t:Tr} {x y:Nat},Full n t→(cellsT n t x y).length=popT t
 | 0,.leaf v,x,y,_=>by unfold cellsT popT;split<;>simp
 | 0,.node _ _ _ _,_,_,h=>h.elim
 | n+1,.leaf _,_,_,h=>h.elim
 | n+1,.node a b c d,x,y,⟨ha,hb,hc,hd⟩=>by unfold cellsT popT;rw [List.length_append,List.length_append,List.length_append,cellsT_len ha,cellsT_len hb,cellsT_len hc,cellsT_len hd];omega
theorem cellsT_none {n:Nat} {t:Tr} {x y:Nat} (h:Full n t) (h0:popT t=0):cellsT n t x y=[]:=List.length_eq_zero_iff.1 ((cellsT_len h).trans h0)
abbrev Frm:=Int×Int×Int×Int
def joinF (o x:Option Frm) (dx dy:Int):Option Frm :=
 match x,o with
 | none,o=>o
 | some (l,t,r,b),none=>some (l+dx,t+dy,r+dx,b+dy)
 | some (l,t,r,b),some (l',t',r',b')=>some (min (l+dx) l',min (t+dy) t',max (r+dx) r',max (b+dy) b')
def frT:Nat→Tr→Option Frm
 | 0,.leaf v=>if v=0 then none else some (0,0,0,0)
 | n+1,.node a b c d=>joinF (joinF (joinF (joinF none (frT n a) 0 0) (frT n b) ((2 ^ n:Nat):Int) 0) (frT n c) 0 ((2 ^ n:Nat):Int)) (frT n d) ((2 ^ n:Nat):Int) ((2 ^ n:Nat):Int)
 | _,_=>none
def inF (h:Int) (f:Frm):Prop:=0≤f.1∧f.1<h∧0≤f.2.1∧f.2.1<h∧0≤f.2.2.1∧f.2.2.1<h∧0≤f.2.2.2∧f.2.2.2<h
theorem joinF_in {h:Int} {o x:Option Frm} {dx dy:Int} (ho:∀ f,o=some f→inF (h+h) f) (hx:∀ f,x=some f→inF h f) (h1:0≤dx) (h2:dx≤h) (h3:0≤dy) (h4:dy≤h):∀ f,joinF o x dx dy=some f→inF (h+h) f:=by
 intro f hf;cases x with
 | none=>exact ho f hf
 | some x =>
  obtain⟨a,b,c,d⟩:=x;obtain⟨x1,x2,x3,x4,x5,x6,x7,x8⟩:=hx _ rfl;simp only at x1 x2 x3 x4 x5 x6 x7 x8;cases o with
  | none =>simp only [joinF,Option.some.injEq] at hf;subst hf;simp only [inF];omega
  | some o =>obtain⟨a',b',c',d'⟩:=o;obtain⟨y1,y2,y3,y4,y5,y6,y7,y8⟩:=ho _ rfl;simp only at y1 y2 y3 y4 y5 y6 y7 y8;simp only [joinF,Option.some.injEq] at hf;subst hf;simp only [inF];omega
theorem frT_in:∀ {n:Nat} {t:Tr},∀ f,frT n t=some f→inF ((2 ^ n:Nat):Int) f
 | 0,.leaf v,f,h=>by
  unfold frT at h;split at h;·cases h
  ·simp only [Option.some.injEq] at h;subst h;simp [inF]
 | 0,.node _ _ _ _,f,h=>by simp [frT] at h
 | n+1,.leaf _,f,h=>by simp [frT] at h
 | n+1,.node a b c d,f,h=>by
  have hp:=Nat.pow_pos (n:=n) (show 0<2 by omega);rw [show (2 ^ (n+1):Nat)=2 ^ n+2 ^ n by rw [Nat.pow_succ];omega,Int.natCast_add];have h1:(0:Int)<((2 ^ n:Nat):Int):=o_
  exact joinF_in (joinF_in (joinF_in (joinF_in i_ (frT_in (t:=a)) o_ o_ o_ o_) (frT_in (t:=b)) o_ o_ o_ o_) (frT_in (t:=c)) o_ o_ o_ o_) (frT_in (t:=d)) o_ o_ o_ o_ f h
def emptyT:Nat→Tr
 | 0=>.leaf 0
 | n+1=>.node (emptyT n) (emptyT n) (emptyT n) (emptyT n)
theorem pop_empty:∀ n,popT (emptyT n)=0
 | 0=>rfl
 | n+1=>by simp [emptyT,popT,pop_empty n]
theorem empty_full:∀ n,Full n (emptyT n)
 | 0=>trivial
 | n+1=>⟨empty_full n,empty_full n,empty_full n,empty_full n⟩
def expT (n:Nat) (t:Tr):Tr :=
 .node (.node (emptyT n) (emptyT n) (emptyT n) (Tr.q t 0)) (.node (emptyT n) (emptyT n) (Tr.q t 1) (emptyT n)) (.node (emptyT n) (Tr.q t 2) (emptyT n) (emptyT n)) (.node (Tr.q t 3) (emptyT n) (emptyT n) (emptyT n))
theorem join_pre (s:Int) (ns:List K4) (k:K4):ns <+: (join s ns k).2:=by
 unfold join;split;·exact List.prefix_refl _
 ·split;·exact List.prefix_refl _
  ·unfold joinIn;split;·exact List.prefix_refl _
   ·split;·exact List.prefix_refl _
    ·exact List.prefix_append _ _
theorem grow_pre (s:Int):∀ (m:Nat) (id:Int) (ns:List K4),ns <+: (grow s m id ns).2∧(grow s m id ns).2.length≤ns.length+m
 | 0,id,ns=>⟨List.prefix_refl _,Nat.le_refl _⟩
 | m+1,id,ns=>by obtain⟨h1,h2⟩:=grow_pre s m (join s ns (four id)).1.1 (join s ns (four id)).2;have:=join_len s ns (four id);exact⟨(join_pre s ns (four id)).trans h1,by unfold grow;omega⟩
theorem emptyQ_grows {s:Int} {ns:List K4} (L:Nat):ns <+: (emptyQ s ns L).2∧(emptyQ s ns L).2.length≤ns.length+L:=by
 unfold emptyQ;split;·exact⟨List.prefix_refl _,i_⟩
 ·split;·exact⟨List.prefix_refl _,i_⟩
  ·obtain⟨h1,h2⟩:=grow_pre s (((L:Nat):Int).toNat - (climb s ns ((L:Nat):Int).toNat 0 0).2) (climb s ns ((L:Nat):Int).toNat 0 0).1 ns;exact⟨h1,by simp only [Int.toNat_natCast] at h2 ⊢;omega⟩
theorem chain_is {s:Int} {ns:List K4} (hg:GoodQ s ns):∀ {L:Nat} {a:Int},Chain s ns L a→Is s ns L a (emptyT L)
 | 0,a,h=>by have:a=0:=h;subst this;exact Is.leaf o_ (by have:=hg.1;omega)
 | L+1,a,h=>by
  obtain⟨b,i,hb,hi,rfl⟩:=h;have hk:=idx_get hi;have h1:=chain_is hg hb;refine⟨⟨by have:=hg.1;omega,?_⟩,?_,⟨h1.2.2.1,h1.2.2.1,h1.2.2.1,h1.2.2.1⟩,⟨h1.2.2.2,h1.2.2.2,h1.2.2.2,h1.2.2.2⟩⟩;·have:=(List.getElem?_eq_some_iff.1 hk).1;omega
  ·rw [tr_node hg hk];show Tr.node (tr s ns b) (tr s ns b) (tr s ns b) (tr s ns b)=_;rw [h1.2.1];rfl
theorem empty_is {s:Int} {ns:List K4} (hg:GoodQ s ns) {L:Nat} (hL:L≤256) (hl:ns.length+L≤100000):∃ a ms,emptyQ s ns L=((a,0),ms)∧GoodQ s ms∧ns <+: ms∧ms.length≤ns.length+L∧Is s ms L a (emptyT L):=by obtain⟨a,ms,h1,h2,h3⟩:=empty_first hg hL hl;have h4:=emptyQ_grows (s:=s) (ns:=ns) L;rw [h1] at h4;exact⟨a,ms,h1,h2,h4.1,h4.2,chain_is h2 h3⟩
open Go.RowKit Rg Mp Hp
def kQ_ (s:Int) (ns:List K4) (id:Int):Int:=if lvl s (levs s ns) id<0 then 13 else 0
def cornerK (o v:Int) (k:Nat):K4:=putK ⟨o,o,o,o⟩ k v
def expandQ (s:Int) (ns:List K4) (id:Int):(Int×Int)×List K4 :=
 if lvl s (levs s ns) id<0 then ((0,13),ns) else if lvl s (levs s ns) id<1∨256≤lvl s (levs s ns) id then ((0,18),ns)
 else if (emptyQ s ns (lvl s (levs s ns) id - 1)).1.2≠0 then ((0,(emptyQ s ns (lvl s (levs s ns) id - 1)).1.2),(emptyQ s ns (lvl s (levs s ns) id - 1)).2)
 else fin4 s (fun ms k=>join s ms (cornerK (emptyQ s ns (lvl s (levs s ns) id - 1)).1.1 ((nodeOf s ns id).get k) (3 - k))) (emptyQ s ns (lvl s (levs s ns) id - 1)).2
def centreQ (s:Int) (ns:List K4) (id:Int):(Int×Int)×List K4 :=
 if lvl s (levs s ns) id<0 then ((0,13),ns) else if lvl s (levs s ns) id<2 then ((0,18),ns)
 else join s ns ⟨(nodeOf s ns (nodeOf s ns id).a).get 3,(nodeOf s ns (nodeOf s ns id).b).get 2,(nodeOf s ns (nodeOf s ns id).c).get 1,(nodeOf s ns (nodeOf s ns id).d).get 0⟩
section
variable {W w:World} {b:Nat} {s:Int} {ns:List K4} {Ps:List Res}
theorem Empty_has (h:Has W w (sTR b s ns::Ps)) (l:Int) :
  Calls Tryz.prog 39 #[.pointer (some ⟨b,0,none⟩),.int .i64 l] w fun e w'=>e=.returned (.tuple #[.int .i64 (emptyQ s ns l).1.1,.int .i64 (emptyQ s ns l).1.2])∧Has W w' (sTR b s (emptyQ s ns l).2::Ps) :=
 h.upd (P':=sTR b s (emptyQ s ns l).2) (R:=fun e=>e=.returned (.tuple #[.int .i64 (emptyQ s ns l).1.1,.int .i64 (emptyQ s ns l).1.2])) fun F hS=>(Empty_calls hS l).mono fun e w' h=>h
theorem known_q (h:Has W w (sTR b s ns::Ps)) (id:Int) :
  Calls Tryz.prog 110 #[.pointer (some ⟨b,0,none⟩),.int .i64 id] w fun e w'=>e=.returned (.int .i64 (kQ_ s ns id))∧Has W w' (sTR b s ns::Ps)∧Fr [] w w':=by
 have HL:=q_ (fun w1 (hf:Fr [] w w1)=>Level_has (h.step hf) id);clear h;obtain⟨l,hl⟩:∃ l,lvl s (levs s ns) id=l:=⟨_,rfl⟩;unfold kQ_;rw [hl] at HL ⊢;clear hl;by_cases h0:l<0;·
  have hd:decide (l<0)=true:=by simpa using h0
  rw [if_pos h0];go_enter Tryz.func110,Tryz.ntmps110;go_wp2_with fail;refine (HL.out _ (Fr.t)).mono ?_;rintro e w1 ⟨rfl,h,hf⟩;have H:=q_ (And.intro h hf);clear h hf;go_wp2;go_ret;exact⟨rfl,H.out.1,H.out.2⟩
 ·have hd:decide (l<0)=false:=by simpa using h0
  rw [if_neg h0];go_enter Tryz.func110,Tryz.ntmps110;go_wp2_with fail;refine (HL.out _ (Fr.t)).mono ?_;rintro e w1 ⟨rfl,h,hf⟩;have H:=q_ (And.intro h hf);clear h hf;go_wp2;go_ret;exact⟨rfl,H.out.1,H.out.2⟩
theorem isState_q (h:Has W w (sTR b s ns::Ps)) (id:Int) :
  Calls Tryz.prog 128 #[.pointer (some ⟨b,0,none⟩),.int .i64 id] w fun e w'=>e=.returned (.bool (decide (0≤id∧id<s)))∧Has W w' (sTR b s ns::Ps)∧Fr [] w w':=by
 have HL:=q_ (fun w1 (hf:Fr [] w w1)=>Level_has (h.step hf) id);have he:((lvl s (levs s ns) id) == 0)=decide (0≤id∧id<s):=by
  have hg:=has_good h;by_cases hk:Kn s ns id;·
   rcases hk.cases with ⟨h0,h1⟩|⟨i,k,rfl,hi⟩
   ·rw [decide_eq_true ⟨h0,h1⟩];unfold lvl;rw [if_neg o_,if_pos h1];rfl
   ·have h2:=good_lvl hg hi;rw [decide_eq_false o_];rw [h2.1];simp;omega
  ·have h2:lvl s (levs s ns) id<0:=by
    have h3:=(kn_lvl hg id).1;exact Int.not_le.1 fun h4=>hk (h3 h4)
   rw [decide_eq_false (by unfold Kn at hk;omega)];simp;omega
 rw [← he];clear h he;obtain⟨l,hl⟩:∃ l,lvl s (levs s ns) id=l:=⟨_,rfl⟩;rw [hl] at HL ⊢;clear hl;go_enter Tryz.func128,Tryz.ntmps128;go_wp2_with fail;refine (HL.out _ (Fr.t)).mono ?_;rintro e w1 ⟨rfl,h,hf⟩;have H:=q_ (And.intro h hf);clear h hf;go_wp2;go_ret;exact⟨rfl,H.out.1,H.out.2⟩
end
end Go.Proofs.YtebolidfbflkmaaGreat
end
