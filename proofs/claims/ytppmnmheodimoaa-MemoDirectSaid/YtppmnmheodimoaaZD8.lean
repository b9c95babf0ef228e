/- Own texts of this claim, part 9: no condition. -/
import Derived.Test.YtppmnmheodimoaaZD7
import Derived.Test.YtppmnmheodimoaaZD4
import Derived.Test.YtppmnmheodimoaaZD3
import Derived.Test.YtppmnmheodimoaaZD2
set_option linter.unusedVariables false
set_option linter.unusedSimpArgs false
section
namespace Go.Proofs.Ytppmnmheodimoaa
open Go Go.RowKit Rg Mp Hp Qs Ev
def sTR (b:Nat) (s:Int) (ns:List K4):Res where
 holds w F:=StoreAt w b s ns F
 keep:=fun h hk=>h.keep hk
 lt:=fun h=>h.lt
def mapR (rb:Nat) (mm:List ((Int×Int)×Int)):Res where
 holds w F:=MapIs w rb (pairV .i64) (Value.int .i64) mm∧F=[rb]
 keep:=fun ⟨h1,h2⟩ hk=>⟨h1.of_block (hk _ (by simp [h2])),h2⟩
 lt:=fun ⟨h1,h2⟩ x hx=>by rw [h2] at hx;simp at hx;subst hx;exact h1.lt
section
variable {W w:World} {b:Nat} {s:Int} {ns:List K4} {Ps:List Res}
theorem has_good (h:Has W w (sTR b s ns::Ps)):GoodQ s ns:=by obtain⟨F,hS⟩:=h.head;exact hS.1
theorem Join_has (h:Has W w (sTR b s ns::Ps)) (x y z u:Int) :
  Calls Try.prog 40 #[.pointer (some ⟨b,0,none⟩),.int .i64 x,.int .i64 y,.int .i64 z,.int .i64 u] w fun e w' =>
   e=.returned (.tuple #[.int .i64 (join s ns ⟨x,y,z,u⟩).1.1,.int .i64 (join s ns ⟨x,y,z,u⟩).1.2])∧Has W w' (sTR b s (join s ns ⟨x,y,z,u⟩).2::Ps) :=
 h.upd (P':=sTR b s (join s ns ⟨x,y,z,u⟩).2) (R:=fun e=>e=.returned (.tuple #[.int .i64 (join s ns ⟨x,y,z,u⟩).1.1,.int .i64 (join s ns ⟨x,y,z,u⟩).1.2])) fun F hS=>(Join_calls hS ⟨x,y,z,u⟩).mono fun e w' h=>h
theorem JoinRoom_has (h:Has W w (sTR b s ns::Ps)) {L:List Tr} (hr:room s ns L) {n:Nat} (hn:n<256) {x y z u:Int} {ta tb tc td:Tr} (ha:Is s ns n x ta) (hb:Is s ns n y tb) (hc:Is s ns n z tc) (hd:Is s ns n u td) (hL:Tr.node ta tb tc td∈L) :
  Calls Try.prog 40 #[.pointer (some ⟨b,0,none⟩),.int .i64 x,.int .i64 y,.int .i64 z,.int .i64 u] w fun e w' =>
   ∃ id ms,e=.returned (.tuple #[.int .i64 id,.int .i64 0])∧Has W w' (sTR b s ms::Ps)∧ns <+: ms∧room s ms L∧Is s ms (n+1) id (.node ta tb tc td):=by
 obtain⟨id,ms,hj,hg,hp,hr',hi⟩:=join_room (has_good h) hr hn ha hb hc hd hL
 refine (Join_has h x y z u).mono ?_
 rintro e w' ⟨rfl,h'⟩
 rw [hj] at h' ⊢
 exact⟨id,ms,rfl,h',hp,hr',hi⟩
theorem Level_has (h:Has W w (sTR b s ns::Ps)) (id:Int) :
  Calls Try.prog 25 #[.pointer (some ⟨b,0,none⟩),.int .i64 id] w fun e w'=>e=.returned (.int .i64 (lvl s (levs s ns) id))∧Has W w' (sTR b s ns::Ps)∧Fr [] w w':=by
 obtain⟨F,hS⟩:=h.head
 refine (Level_calls hS id).mono ?_
 rintro e w' ⟨rfl,hd⟩
 exact⟨rfl,h.step (hd.fr _),hd.fr _⟩
theorem LevelIs_has (h:Has W w (sTR b s ns::Ps)) {n:Nat} {id:Int} {t:Tr} (hi:Is s ns n id t) :
  Calls Try.prog 25 #[.pointer (some ⟨b,0,none⟩),.int .i64 id] w fun e w'=>e=.returned (.int .i64 n)∧Has W w' (sTR b s ns::Ps)∧Fr [] w w':=by
 have:=Level_has h id
 rwa [hi.lvl (has_good h)] at this
theorem Kids_has (h:Has W w (sTR b s ns::Ps)) {n:Nat} {id:Int} {t:Tr} (hi:Is s ns (n+1) id t) :
  Calls Try.prog 83 #[.pointer (some ⟨b,0,none⟩),.int .i64 id] w fun e w'=>e=.returned (.tuple #[.agg #[.int .i64 (nodeOf s ns id).a,.int .i64 (nodeOf s ns id).b,.int .i64 (nodeOf s ns id).c,.int .i64 (nodeOf s ns id).d],.bool true])∧Has W w' (sTR b s ns::Ps)∧Fr [] w w':=by
 obtain⟨F,hS⟩:=h.head
 obtain⟨h1,h2,_⟩:=hi.node (has_good h)
 have e:kidsOf s ns id=(nodeOf s ns id,true):=by
  unfold kidsOf
  rw [if_neg (by omega),h2]
 refine (Kids_calls hS id).mono ?_
 rintro e' w' ⟨he,hf⟩
 rw [e] at he
 exact⟨he,h.step hf,hf⟩
end
theorem hCE {W w:World} {b:Nat} {cs:Array Value} {t:TypeId} {Ps:List Res} (h:Has W w (Hp.blk b (.cells cs t (0,0))::Ps)):(∀ j,w.cell? ⟨b,j,none⟩=cs[j]?)∧(∀ j,w.frozen? ⟨b,j,none⟩=false)∧b<w.heap.size :=
 ⟨fun j=>hEC h.blk j,fun j=>hEF h.blk j,lBk h.blk⟩
theorem hST {W w:World} {b:Nat} {cs:Array Value} {t:TypeId} {Ps:List Res} (h:Has W w (Hp.blk b (.cells cs t (0,0))::Ps)) (j:Nat) (v:Value):Has W (w.setCell ⟨b,j,none⟩ v) (Hp.blk b (.cells (cs.setIfInBounds j v) t (0,0))::Ps) :=
 h.turn fun F ⟨h1,h2⟩=>⟨F,⟨heap_setCell_here h1 j v,h2⟩,(Fr.refl F w).setCell (.inl (by simp [h2])) v,fun x hx=>.inl hx⟩
theorem hAL {W w:World} {Ps:List Res} (h:Has W w Ps) (cs:Array Value) (t:TypeId):Has W (w.alloc (.cells cs t (0,0))) (Hp.blk w.heap.size (.cells cs t (0,0))::Ps):=h.newBlk _
end Go.Proofs.Ytppmnmheodimoaa
end
section
namespace Go.Proofs.Ev
open Qs
def filled (n:Nat) (G:Nat→Int) (k:Nat):List Int:=(List.range n).map fun i=>if i<k then G i else 0
theorem filled_get {n:Nat} {G:Nat→Int} {k i:Nat} (hi:i<n):(filled n G k)[i]?=some (if i<k then G i else 0):=by simp [filled,hi]
theorem filled_set {n:Nat} {G:Nat→Int} {k:Nat} (hk:k<n):(filled n G k).set k (G k)=filled n G (k+1):=by
 apply List.ext_getElem?
 intro i
 rw [List.getElem?_set]
 by_cases h:k=i
 ·subst h
  rw [if_pos rfl,if_pos (by simp [filled];exact hk),filled_get hk,if_pos (by omega)]
 ·rw [if_neg h]
  by_cases hi:i<n
  ·rw [filled_get hi,filled_get hi]
   by_cases h2:i<k
   ·rw [if_pos h2,if_pos (by omega)]
   ·rw [if_neg h2,if_neg (by omega)]
  ·rw [List.getElem?_eq_none (by simp [filled];omega),List.getElem?_eq_none (by simp [filled];omega)]
end Go.Proofs.Ev
namespace Go.Proofs.Ytppmnmheodimoaa
open Go Go.RowKit Rg Mp Hp Qs Ev
theorem filled_cell {W w:World} {b n k:Nat} {G:Nat→Int} {T:TypeId} {Ps:List Res} (h:Has W w (Hp.blk b (.cells (iv (filled n G k)).toArray T (0,0))::Ps)) {i:Nat} (hi:i<n):w.cell? ⟨b,i,none⟩=some (.int .i64 (if i<k then G i else 0)):=by
 rw [(hCE h).1 i]
 have:=iv_get (filled_get (n:=n) (G:=G) (k:=k) hi)
 simpa using this
theorem filled_set_has {W w:World} {b n k:Nat} {G:Nat→Int} {T:TypeId} {Ps:List Res} (h:Has W w (Hp.blk b (.cells (iv (filled n G k)).toArray T (0,0))::Ps)) (hk:k<n) {v:Int} (hv:v=G k):Has W (w.setCell ⟨b,k,none⟩ (.int .i64 v)) (Hp.blk b (.cells (iv (filled n G (k+1))).toArray T (0,0))::Ps):=by
 subst hv
 have:=hST h k (.int .i64 (G k))
 rwa [show (iv (filled n G k)).toArray.setIfInBounds k (.int .i64 (G k))=(iv (filled n G (k+1))).toArray by rw [← filled_set hk,← iv_set];simp] at this
def At5 (P:Nat→Prop) (z:Int):Prop:=z=0∧P 0∨z=1∧P 1∨z=2∧P 2∨z=3∧P 3∨z=4∧P 4
section
variable {W w:World} {b:Nat} {s:Int} {ns:List K4} {Ps:List Res}
theorem known_has (h:Has W w (sTR b s ns::Ps)) {n:Nat} {id:Int} {t:Tr} (hi:Is s ns n id t) :
  Calls Try.prog 99 #[.pointer (some ⟨b,0,none⟩),.int .i64 id] w fun e w'=>e=.returned (.int .i64 0)∧Has W w' (sTR b s ns::Ps)∧Fr [] w w':=by
 have HL:=Lib.hid (fun w1 (hf:Fr [] w w1)=>LevelIs_has (h.step hf) hi)
 clear h hi
 go_enter Try.func99,Try.ntmps99
 go_wp2_with fail
 refine (HL.out _ (by (repeat first|exact Fr.refl _ _|assumption|apply Fr.n|apply Fr.d|apply Fr.a|refine Fr.s ?_ (.inr (by simp;try omega)) _))).mono ?_
 rintro e w1 ⟨rfl,h,hf⟩
 have H:=Lib.hid (And.intro h hf)
 clear h hf
 go_wp2
 go_ret
 exact⟨rfl,H.out.1,H.out.2⟩
end
set_option maxHeartbeats 4000000 in
theorem Centre_has {W w:World} {b:Nat} {s:Int} {ns:List K4} {Ps:List Res} (h:Has W w (sTR b s ns::Ps)) {L:List Tr} (hr:room s ns L) {n:Nat} (hn:n+2≤256) {id:Int} {t:Tr} (hi:Is s ns (n+2) id t) (hL:ctr t∈L) :
  Calls Try.prog 84 #[.pointer (some ⟨b,0,none⟩),.int .i64 id] w fun e w' =>
   ∃ id' ms,e=.returned (.tuple #[.int .i64 id',.int .i64 0])∧Has W w' (sTR b s ms::Ps)∧ns <+: ms∧room s ms L∧Is s ms (n+1) id' (ctr t):=by
 obtain⟨_,_,hk⟩:=hi.node (has_good h)
 have hkk:∀ q,q<4→Is s ns n ((nodeOf s ns ((nodeOf s ns id).get q)).get (3 - q)) (Tr.q (Tr.q t q) (3 - q)):=fun q hq=>((hk q hq).node (has_good h)).2.2 (3 - q) (by omega)
 have HJ:=Lib.hid (fun w1 Qs (h1:Has W w1 (sTR b s ns::Qs))=>JoinRoom_has h1 hr (by omega) (hkk 0 (by omega)) (hkk 1 (by omega)) (hkk 2 (by omega)) (hkk 3 (by omega)) hL)
 have HN:=Lib.hid (fun w1 Qs (h1:Has W w1 (sTR b s ns::Qs))=>known_has h1 hi)
 have HL:=Lib.hid (fun w1 Qs (h1:Has W w1 (sTR b s ns::Qs))=>LevelIs_has h1 hi)
 have HK:=Lib.hid (fun w1 Qs (h1:Has W w1 (sTR b s ns::Qs))=>Kids_has h1 hi)
 have HK1:=Lib.hid (fun w1 Qs q (hq:q<4) (h1:Has W w1 (sTR b s ns::Qs))=>Kids_has h1 (hk q hq))
 have H:=Lib.hid h
 clear hkk hk h hr hi hL
 go_enter Try.func84,Try.ntmps84
 go_wp2_with fail
 refine (HN.out _ _ H.out).mono ?_
 rintro e w1 ⟨rfl,h,hf⟩
 have H:=Lib.hid h
 clear h hf
 go_wp2_with fail
 refine (HL.out _ _ H.out).mono ?_
 rintro e w2 ⟨rfl,h,hf⟩
 have H:=Lib.hid h
 clear h hf
 have hn2:decide ((n:Int)+2<2)=false:=by simp;omega
 go_wp2_with fail
 have h:=(hAL H.out #[.int .i64 0,.int .i64 0,.int .i64 0,.int .i64 0] 75).swap
 refine (HK.out _ _ h).mono ?_
 rintro e w3 ⟨rfl,h,hf⟩
 obtain⟨ib,hib⟩:∃ ib,w2.heap.size=ib:=⟨_,rfl⟩
 rw [hib] at h ⊢
 have H3:=Lib.hid h
 clear h hf hib H
 go_wp2
 go_loopw [31] (fun x wr=>∃ z:Int,x=.int .i64 z∧At5 (fun k=>Has W wr (sTR b s ns::Hp.blk ib (.cells (iv (filled 4 (fun q=>(nodeOf s ns ((nodeOf s ns id).get q)).get (3 - q)) k)).toArray 75 (0,0))::Ps)) z) (fun x _=>4 - (intOf x).toNat)
 case atStart =>
  refine⟨0,rfl,.inl ⟨rfl,?_⟩⟩
  have h0:=H3.out.step (by (repeat first|exact Fr.refl _ _|assumption|apply Fr.n|apply Fr.d|apply Fr.a|refine Fr.s ?_ (.inr (by simp;try omega)) _):Fr [] w3 (w3.alloc (.cells #[.int .i64 (nodeOf s ns id).a,.int .i64 (nodeOf s ns id).b,.int .i64 (nodeOf s ns id).c,.int .i64 (nodeOf s ns id).d] 75)))
  exact h0
 case round =>
  obtain⟨z,rfl,hz⟩:=hrel
  clear H3
  rcases hz with ⟨rfl,h⟩|⟨rfl,h⟩|⟨rfl,h⟩|⟨rfl,h⟩|⟨rfl,h⟩
  ·
   have H:=Lib.hid h
   clear h
   go_wp2_with fail
   refine (HK1.out _ _ 0 (by omega) H.out).mono ?_
   rintro e w5 ⟨rfl,h,hf⟩
   have c0:=filled_cell h.swap (i:=0) (by omega)
   simp only [Nat.lt_irrefl,if_false] at c0
   have cz:=(hCE h.swap).2.1 0
   have cl:=(hCE h.swap).2.2
   have H5:=Lib.hid h
   clear h hf
   go_wp2
   go_roundw
   case rel=>exact⟨1,rfl,(.inr (.inl ⟨rfl,(filled_set_has H5.out.swap (by omega) rfl).swap.step ((Fr.refl [] _).alloc _)⟩))⟩
   case measure=>simp [intOf]
  ·
   have H:=Lib.hid h
   clear h
   go_wp2_with fail
   refine (HK1.out _ _ 1 (by omega) H.out).mono ?_
   rintro e w5 ⟨rfl,h,hf⟩
   have c0:=filled_cell h.swap (i:=1) (by omega)
   simp only [Nat.lt_irrefl,if_false] at c0
   have cz:=(hCE h.swap).2.1 1
   have cl:=(hCE h.swap).2.2
   have H5:=Lib.hid h
   clear h hf
   go_wp2
   go_roundw
   case rel=>exact⟨2,rfl,(.inr (.inr (.inl ⟨rfl,(filled_set_has H5.out.swap (by omega) rfl).swap.step ((Fr.refl [] _).alloc _)⟩)))⟩
   case measure=>simp [intOf]
  ·
   have H:=Lib.hid h
   clear h
   go_wp2_with fail
   refine (HK1.out _ _ 2 (by omega) H.out).mono ?_
   rintro e w5 ⟨rfl,h,hf⟩
   have c0:=filled_cell h.swap (i:=2) (by omega)
   simp only [Nat.lt_irrefl,if_false] at c0
   have cz:=(hCE h.swap).2.1 2
   have cl:=(hCE h.swap).2.2
   have H5:=Lib.hid h
   clear h hf
   go_wp2
   go_roundw
   case rel=>exact⟨3,rfl,(.inr (.inr (.inr (.inl ⟨rfl,(filled_set_has H5.out.swap (by omega) rfl).swap.step ((Fr.refl [] _).alloc _)⟩))))⟩
   case measure=>simp [intOf]
  ·
   have H:=Lib.hid h
   clear h
   go_wp2_with fail
   refine (HK1.out _ _ 3 (by omega) H.out).mono ?_
   rintro e w5 ⟨rfl,h,hf⟩
   have c0:=filled_cell h.swap (i:=3) (by omega)
   simp only [Nat.lt_irrefl,if_false] at c0
   have cz:=(hCE h.swap).2.1 3
   have cl:=(hCE h.swap).2.2
   have H5:=Lib.hid h
   clear h hf
   go_wp2
   go_roundw
   case rel=>exact⟨4,rfl,(.inr (.inr (.inr (.inr ⟨rfl,(filled_set_has H5.out.swap (by omega) rfl).swap.step ((Fr.refl [] _).alloc _)⟩))))⟩
   case measure=>simp [intOf]
  ·have H:=Lib.hid h
   have c0:=filled_cell h.swap (i:=0) (by omega)
   have c1:=filled_cell h.swap (i:=1) (by omega)
   have c2:=filled_cell h.swap (i:=2) (by omega)
   have c3:=filled_cell h.swap (i:=3) (by omega)
   simp only [show (0:Nat)<4 by omega,show (1:Nat)<4 by omega,show (2:Nat)<4 by omega,show (3:Nat)<4 by omega,if_true] at c0 c1 c2 c3
   clear h
   go_wp2_with fail
   refine (HJ.out _ _ H.out).mono ?_
   rintro e w9 ⟨id',ms,rfl,h1,h2,h3,h4⟩
   have HF:=Lib.hid (And.intro h1 (And.intro h2 (And.intro h3 h4)))
   clear h1 h2 h3 h4
   go_wp2
   go_ret2
   exact⟨id',ms,rfl,HF.out.1.swap.drop,HF.out.2.1,HF.out.2.2.1,HF.out.2.2.2⟩
end Go.Proofs.Ytppmnmheodimoaa
end
section
namespace Go.Proofs.Ev
open Qs
def pos16 (j:Nat):Nat:=4*(j / 8*2+j % 4 / 2)+(j / 4 % 2*2+j % 2)
def idx16 (m:Nat):Nat:=(m / 4 / 2*2+m % 4 / 2)*4+(m / 4 % 2*2+m % 4 % 2)
theorem idx16_lt:∀ m,m<16→idx16 m<16:=by decide
theorem pos16_step:∀ m,m<16→∀ j,j<16→(pos16 j<m+1↔pos16 j<m∨j=idx16 m):=by decide
theorem pos16_lt:∀ j,j<16→pos16 j<16:=by decide
def tab16 (G:Nat→Int) (m:Nat):List Int:=(List.range 16).map fun j=>if pos16 j<m then G j else 0
theorem tab16_get {G:Nat→Int} {m j:Nat} (h:j<16):(tab16 G m)[j]?=some (if pos16 j<m then G j else 0):=by simp [tab16,h]
theorem tab16_set {G:Nat→Int} {m:Nat} (hm:m<16):(tab16 G m).set (idx16 m) (G (idx16 m))=tab16 G (m+1):=by
 apply List.ext_getElem?
 intro i
 rw [List.getElem?_set]
 have hx:=idx16_lt m hm
 by_cases hi:i<16
 ·have hp:=pos16_step m hm i hi
  rw [tab16_get hi,tab16_get hi]
  by_cases h:idx16 m=i
  ·subst h
   rw [if_pos rfl,if_pos (by simp [tab16];exact hx),if_pos (hp.2 (.inr rfl))]
  ·rw [if_neg h]
   by_cases h2:pos16 i<m
   ·rw [if_pos h2,if_pos (hp.2 (.inl h2))]
   ·rw [if_neg h2,if_neg fun h3=>by rcases hp.1 h3 with h4|h4;exact h2 h4;exact h h4.symm]
 ·rw [if_neg (by omega),List.getElem?_eq_none (by simp [tab16];omega),List.getElem?_eq_none (by simp [tab16];omega)]
end Go.Proofs.Ev
namespace Go.Proofs.Hp
open Go Go.RowKit
theorem Has.back4 {W w:World} {A B C D:Res} {Ps:List Res} (h:Has W w (D::A::B::C::Ps)):Has W w (A::B::C::D::Ps) :=
 h.perm (((List.Perm.swap A D (B::C::Ps))).trans (((List.Perm.swap B D (C::Ps)).trans ((List.Perm.swap C D Ps).cons B)).cons A))
theorem Has.fifth {W w:World} {A B C D E:Res} {Ps:List Res} (h:Has W w (A::B::C::D::E::Ps)):Has W w (A::B::C::E::D::Ps) :=
 h.perm ((((List.Perm.swap E D Ps).cons C).cons B).cons A)
end Go.Proofs.Hp
namespace Go.Proofs.Ytppmnmheodimoaa
open Go Go.RowKit Rg Mp Hp Qs Ev
def mcells (r:Rule) (hv nv:Value) (sb rb:Nat):Array Value:=#[.int .i64 r.S,hv,nv,.pointer (some ⟨sb,0,none⟩),.map (some rb),.int .i64 (lostOf (radius r.hood):Nat)]
def memoL (r:Rule) (hv nv:Value) (mb sb rb:Nat) (ns:List K4) (mm:List ((Int×Int)×Int)) (Ps:List Res):List Res :=
 sTR sb r.S ns::mapR rb mm::Hp.blk mb (.cells (mcells r hv nv sb rb) 81 (0,0))::Ps
def Kept (r:Rule) (ns:List K4) (mm:List ((Int×Int)×Int)):Prop :=
 ∀ id k v,get? mm (id,k)=some v→∃ n t,Is r.S ns n id t∧2≤n∧0≤k∧Is r.S ns (n - 1) v (stp (gen r) n k.toNat t)
def Keeps (mm mm':List ((Int×Int)×Int)):Prop:=∀ key v,get? mm key=some v→get? mm' key=some v
theorem Keeps.refl (mm:List ((Int×Int)×Int)):Keeps mm mm:=fun _ _ h=>h
theorem Keeps.trans {a b c:List ((Int×Int)×Int)} (h:Keeps a b) (k:Keeps b c):Keeps a c:=fun key v hv=>k key v (h key v hv)
theorem Kept.grow {r:Rule} {ns ms:List K4} {mm:List ((Int×Int)×Int)} (h:Kept r ns mm) (hp:ns <+: ms):Kept r ms mm:=fun id k v hv=>by
 obtain⟨n,t,h1,h2,h3,h4⟩:=h id k v hv
 exact⟨n,t,h1.grow hp,h2,h3,h4.grow hp⟩
def PartPost (W:World) (r:Rule) (hv nv:Value) (mb sb rb:Nat) (L:List Tr) (ns:List K4) (mm:List ((Int×Int)×Int)) (n:Nat) (T:Tr) (Ps:List Res) (e:Ending) (w':World):Prop :=
 ∃ res ns' mm',e=.returned (.tuple #[.int .i64 res,.int .i64 0])∧Has W w' (memoL r hv nv mb sb rb ns' mm' Ps)∧ns <+: ns'∧room r.S ns' L∧Kept r ns' mm'∧Is r.S ns' (n - 1) res T∧Keeps mm mm'
def StepPost (W:World) (r:Rule) (hv nv:Value) (mb sb rb:Nat) (L:List Tr) (ns:List K4) (mm:List ((Int×Int)×Int)) (n k:Nat) (id:Int) (T:Tr) (Ps:List Res) (e:Ending) (w':World):Prop :=
 ∃ res ns' mm',e=.returned (.tuple #[.int .i64 res,.int .i64 0])∧Has W w' (memoL r hv nv mb sb rb ns' mm' Ps)∧ns <+: ns'∧room r.S ns' L∧Kept r ns' mm'∧Is r.S ns' (n - 1) res T∧Keeps mm mm'∧get? mm' (id,k)=some res∧∀ v,get? mm (id,k)=some v→res=v∧ns'=ns
def RuleSrc (W:World) (hv nv:Value) (r:Rule) (Ps:List Res):Prop:=∀ (w:World) (Qs:List Res),Has W w Qs→(∀ P∈Ps,P∈Qs)→RuleAt w hv nv r
theorem RuleSrc.more {W:World} {hv nv:Value} {r:Rule} {Ps Qs:List Res} (h:RuleSrc W hv nv r Ps) (hs:∀ P∈Ps,P∈Qs):RuleSrc W hv nv r Qs:=fun w Rs hw hm=>h w Rs hw fun P hP=>hm P (hs P hP)
theorem RuleSrc.base {W:World} {hv nv:Value} {r:Rule} {Ps:List Res} (h:RuleAt W hv nv r):RuleSrc W hv nv r Ps:=fun w Qs hw _=>h.fr hw.fr
def StepAt (W:World) (r:Rule) (hv nv:Value) (mb sb rb:Nat) (L:List Tr) (n:Nat):Prop :=
 ∀ (w:World) (Ps:List Res) (ns:List K4) (mm:List ((Int×Int)×Int)) (id:Int) (k:Nat) (t:Tr),Has W w (memoL r hv nv mb sb rb ns mm Ps)→room r.S ns L→Kept r ns mm→Is r.S ns n id t→lostOf (radius r.hood)≤n→k≤n - lostOf (radius r.hood) →
  (∀ u∈need (gen r) (lostOf (radius r.hood)) n k t,u∈L)→RuleSrc W hv nv r Ps→Calls Try.prog 36 #[.pointer (some ⟨mb,0,none⟩),.int .i64 id,.int .i64 n,.int .i64 k] w (StepPost W r hv nv mb sb rb L ns mm n k id (stp (gen r) n k t) Ps)
theorem StepAt.run {W:World} {r:Rule} {hv nv:Value} {mb sb rb:Nat} {L:List Tr} {n:Nat} (hst:StepAt W r hv nv mb sb rb L n) {w:World} {Ps:List Res} {ns:List K4} {mm:List ((Int×Int)×Int)} {id:Int} {k:Nat} {t:Tr} {z1 z2:Int} (e1:z1=n) (e2:z2=k)
  (h:Has W w (memoL r hv nv mb sb rb ns mm Ps)) (h1:room r.S ns L) (h2:Kept r ns mm) (h3:Is r.S ns n id t) (h4:lostOf (radius r.hood)≤n) (h5:k≤n - lostOf (radius r.hood)) (h6:∀ u∈need (gen r) (lostOf (radius r.hood)) n k t,u∈L) (h7:RuleSrc W hv nv r Ps) :
  Calls Try.prog 36 #[.pointer (some ⟨mb,0,none⟩),.int .i64 id,.int .i64 z1,.int .i64 z2] w (StepPost W r hv nv mb sb rb L ns mm n k id (stp (gen r) n k t) Ps):=by
 subst e1
 subst e2
 exact hst w Ps ns mm id k t h h1 h2 h3 h4 h5 h6 h7
theorem memo_cells {W w:World} {r:Rule} {hv nv:Value} {mb sb rb:Nat} {ns:List K4} {mm:List ((Int×Int)×Int)} {Ps:List Res} (h:Has W w (memoL r hv nv mb sb rb ns mm Ps)) :
  w.cell? ⟨mb,0,none⟩=some (.int .i64 r.S)∧w.cell? ⟨mb,1,none⟩=some hv∧w.cell? ⟨mb,2,none⟩=some nv∧w.cell? ⟨mb,3,none⟩=some (.pointer (some ⟨sb,0,none⟩))∧w.cell? ⟨mb,4,none⟩=some (.map (some rb))∧w.cell? ⟨mb,5,none⟩=some (.int .i64 (lostOf (radius r.hood):Nat))∧mb<w.heap.size:=by
 obtain⟨h1,_,h3⟩:=hCE (h.drop.drop)
 exact⟨h1 0,h1 1,h1 2,h1 3,h1 4,h1 5,h3⟩
theorem tab_set_has {W w:World} {b m:Nat} {G:Nat→Int} {T:TypeId} {Ps:List Res} (h:Has W w (Hp.blk b (.cells (iv (tab16 G m)).toArray T (0,0))::Ps)) (hm:m<16) {v:Int} {j:Nat} (hj:j=idx16 m) (hv:v=G j):Has W (w.setCell ⟨b,j,none⟩ (.int .i64 v)) (Hp.blk b (.cells (iv (tab16 G (m+1))).toArray T (0,0))::Ps):=by
 subst hv
 subst hj
 have:=hST h (idx16 m) (.int .i64 (G (idx16 m)))
 rwa [show (iv (tab16 G m)).toArray.setIfInBounds (idx16 m) (.int .i64 (G (idx16 m)))=(iv (tab16 G (m+1))).toArray by rw [← tab16_set hm,← iv_set];simp] at this
theorem tab_cell {W w:World} {b m:Nat} {G:Nat→Int} {T:TypeId} {Ps:List Res} (h:Has W w (Hp.blk b (.cells (iv (tab16 G m)).toArray T (0,0))::Ps)) {j:Nat} (hj:j<16):w.cell? ⟨b,j,none⟩=some (.int .i64 (if pos16 j<m then G j else 0)):=by
 rw [(hCE h).1 j]
 have:=iv_get (tab16_get (G:=G) (m:=m) hj)
 simpa using this
def gtab (s:Int) (ns:List K4) (id:Int) (j:Nat):Int:=gid s ns id (j / 4) (j % 4)
structure InnerSt (W wr:World) (r:Rule) (hv nv:Value) (mb sb rb:Nat) (L:List Tr) (ns0:List K4) (mm0:List ((Int×Int)×Int)) (Ps:List Res) (n:Nat) (f:Nat→Nat→Tr) (ib cb:Nat) (id:Int) (ns:List K4) (mm:List ((Int×Int)×Int)) (I:List Int) (m:Nat):Prop where
 has:Has W wr (memoL r hv nv mb sb rb ns mm (Hp.blk ib (.cells (iv I).toArray 147 (0,0))::Hp.blk cb (.cells (iv (tab16 (gtab r.S ns0 id) 16)).toArray 145 (0,0))::Ps))
 len:I.length=9
 pre:ns0 <+: ns
 room:room r.S ns L
 kept:Kept r ns mm
 keeps:Keeps mm0 mm
 done:∀ j,j<m→Is r.S ns (n+1) (I.getD j 0) (f (j / 3) (j % 3))
theorem getD_set_same {I:List Int} {m:Nat} {v:Int} (h:m<I.length):(I.set m v).getD m 0=v:=by simp [List.getD_eq_getElem?_getD,h]
theorem getD_set_else {I:List Int} {m j:Nat} {v:Int} (h:j≠m):(I.set m v).getD j 0=I.getD j 0:=by simp [List.getD_eq_getElem?_getD,List.getElem?_set,Ne.symm h]
theorem iv_setIf (I:List Int) (m:Nat) (v:Int):(iv I).toArray.setIfInBounds m (.int .i64 v)=(iv (I.set m v)).toArray:=by rw [← iv_set];simp
theorem blk_cell {W w:World} {b:Nat} {I:List Int} {T:TypeId} {Ps:List Res} (h:Has W w (Hp.blk b (.cells (iv I).toArray T (0,0))::Ps)) {j:Nat} (hj:j<I.length):w.cell? ⟨b,j,none⟩=some (.int .i64 (I.getD j 0)):=by
 rw [(hCE h).1 j]
 have:=iv_get (List.getElem?_eq_getElem hj)
 rw [List.getD_eq_getElem?_getD,List.getElem?_eq_getElem hj]
 simpa using this
section
variable {W wr:World} {r:Rule} {hv nv:Value} {mb sb rb:Nat} {L:List Tr} {ns0:List K4} {mm0:List ((Int×Int)×Int)} {Ps:List Res} {n:Nat} {f:Nat→Nat→Tr} {ib cb:Nat} {id:Int} {ns:List K4} {mm:List ((Int×Int)×Int)} {I:List Int} {m:Nat}
theorem InnerSt.cb_cell (h:InnerSt W wr r hv nv mb sb rb L ns0 mm0 Ps n f ib cb id ns mm I m) {y x:Nat} (hy:y<4) (hx:x<4):wr.cell? ⟨cb,y*4+x,none⟩=some (.int .i64 (gid r.S ns0 id y x)):=by
 have:=tab_cell (h.has.fourth.drop.fourth) (j:=y*4+x) (by omega)
 rw [if_pos (pos16_lt _ (by omega))] at this
 rw [this]
 unfold gtab
 rw [show (y*4+x) / 4=y by omega,show (y*4+x) % 4=x by omega]
theorem InnerSt.put {wr':World} {ns':List K4} {mm':List ((Int×Int)×Int)} (h:InnerSt W wr r hv nv mb sb rb L ns0 mm0 Ps n f ib cb id ns mm I m) (hm:m<9) {v:Int}
  (hh:Has W wr' (memoL r hv nv mb sb rb ns' mm' (Hp.blk ib (.cells (iv I).toArray 147 (0,0))::Hp.blk cb (.cells (iv (tab16 (gtab r.S ns0 id) 16)).toArray 145 (0,0))::Ps)))
  (hp:ns <+: ns') (hr:Qs.room r.S ns' L) (hk:Kept r ns' mm') (hks:Keeps mm mm') (hv':Is r.S ns' (n+1) v (f (m / 3) (m % 3))) :
  InnerSt W (wr'.setCell ⟨ib,m,none⟩ (.int .i64 v)) r hv nv mb sb rb L ns0 mm0 Ps n f ib cb id ns' mm' (I.set m v) (m+1) where
 has:=by
  have:=(hST hh.fourth m (.int .i64 v)).back4
  rwa [iv_setIf] at this
 len:=by rw [List.length_set];exact h.len
 pre:=h.pre.trans hp
 room:=hr
 kept:=hk
 keeps:=h.keeps.trans hks
 done:=fun j hj=>by
  by_cases e:j=m
  ·subst e
   rw [getD_set_same (by rw [h.len];exact hm)]
   exact hv'
  ·rw [getD_set_else e]
   exact (h.done j (by omega)).grow hp
end
structure OutSt (W wr:World) (r:Rule) (hv nv:Value) (mb sb rb:Nat) (L:List Tr) (ns0:List K4) (mm0:List ((Int×Int)×Int)) (Ps:List Res) (n:Nat) (f:Nat→Nat→Tr) (ob ib cb:Nat) (id:Int) (ns1:List K4) (I:List Int) (ns:List K4) (mm:List ((Int×Int)×Int)) (O:List Int) (m:Nat):Prop where
 has:Has W wr (memoL r hv nv mb sb rb ns mm (Hp.blk ob (.cells (iv O).toArray 75 (0,0))::Hp.blk ib (.cells (iv I).toArray 147 (0,0))::Hp.blk cb (.cells (iv (tab16 (gtab r.S ns0 id) 16)).toArray 145 (0,0))::Ps))
 len:O.length=4
 pre:ns0 <+: ns
 room:Qs.room r.S ns L
 kept:Kept r ns mm
 keeps:Keeps mm0 mm
 pre1:ns1 <+: ns
 done:∀ j,j<m→Is r.S ns (n+1) (O.getD j 0) (f (j / 2) (j % 2))
section
variable {W wr:World} {r:Rule} {hv nv:Value} {mb sb rb:Nat} {L:List Tr} {ns0:List K4} {mm0:List ((Int×Int)×Int)} {Ps:List Res} {n:Nat} {f:Nat→Nat→Tr} {ob ib cb:Nat} {id:Int} {ns1:List K4} {I:List Int} {ns:List K4} {mm:List ((Int×Int)×Int)} {O:List Int} {m:Nat}
theorem OutSt.ib_has (h:OutSt W wr r hv nv mb sb rb L ns0 mm0 Ps n f ob ib cb id ns1 I ns mm O m):Has W wr (Hp.blk ib (.cells (iv I).toArray 147 (0,0))::sTR sb r.S ns::mapR rb mm::Hp.blk mb (.cells (mcells r hv nv sb rb) 81 (0,0))::Hp.blk cb (.cells (iv (tab16 (gtab r.S ns0 id) 16)).toArray 145 (0,0))::Ps):=h.has.fourth.drop.fourth
theorem OutSt.put {wr':World} {ns':List K4} {mm':List ((Int×Int)×Int)} (h:OutSt W wr r hv nv mb sb rb L ns0 mm0 Ps n f ob ib cb id ns1 I ns mm O m) (hm:m<4) {v:Int}
  (hh:Has W wr' (memoL r hv nv mb sb rb ns' mm' (Hp.blk ob (.cells (iv O).toArray 75 (0,0))::Hp.blk ib (.cells (iv I).toArray 147 (0,0))::Hp.blk cb (.cells (iv (tab16 (gtab r.S ns0 id) 16)).toArray 145 (0,0))::Ps)))
  (hp:ns <+: ns') (hr:Qs.room r.S ns' L) (hk:Kept r ns' mm') (hks:Keeps mm mm') (hv':Is r.S ns' (n+1) v (f (m / 2) (m % 2))) :
  OutSt W (wr'.setCell ⟨ob,m,none⟩ (.int .i64 v)) r hv nv mb sb rb L ns0 mm0 Ps n f ob ib cb id ns1 I ns' mm' (O.set m v) (m+1) where
 has:=by
  have:=(hST hh.fourth m (.int .i64 v)).back4
  rwa [iv_setIf] at this
 len:=by rw [List.length_set];exact h.len
 pre:=h.pre.trans hp
 room:=hr
 kept:=hk
 keeps:=h.keeps.trans hks
 pre1:=h.pre1.trans hp
 done:=fun j hj=>by
  by_cases e:j=m
  ·subst e
   rw [getD_set_same (by rw [h.len];exact hm)]
   exact hv'
  ·rw [getD_set_else e]
   exact (h.done j (by omega)).grow hp
end
end Go.Proofs.Ytppmnmheodimoaa
end
section
namespace Go.Proofs.Ev
open Qs
def paste (F:Fld) (n:Nat) (t:Tr) (x y:Int):Fld:=fun i j=>if x≤i∧i<x+p2 n∧y≤j∧j<y+p2 n then cell n t (i - x) (j - y) else F i j
theorem paste_node (F:Fld) (n:Nat) (a b c d:Tr) (x y:Int):paste (paste (paste (paste F n a x y) n b (x+p2 n) y) n c x (y+p2 n)) n d (x+p2 n) (y+p2 n)=paste F (n+1) (.node a b c d) x y:=by
 funext i j
 have hs:=p2_succ n
 have hp:=p2_pos n
 unfold paste
 by_cases h:x≤i∧i<x+p2 (n+1)∧y≤j∧j<y+p2 (n+1)
 ·rw [if_pos h]
  show _=(if j - y<p2 n then (if i - x<p2 n then cell n a (i - x) (j - y) else cell n b (i - x - p2 n) (j - y)) else (if i - x<p2 n then cell n c (i - x) (j - y - p2 n) else cell n d (i - x - p2 n) (j - y - p2 n)))
  by_cases hj:j - y<p2 n
  ·by_cases hi:i - x<p2 n
   ·rw [if_neg (by omega),if_neg (by omega),if_neg (by omega),if_pos (by omega),if_pos hj,if_pos hi]
   ·rw [if_neg (by omega),if_neg (by omega),if_pos (by omega),if_pos hj,if_neg hi]
    congr 1;omega
  ·by_cases hi:i - x<p2 n
   ·rw [if_neg (by omega),if_pos (by omega),if_neg hj,if_pos hi]
    congr 1;omega
   ·rw [if_pos (by omega),if_neg hj,if_neg hi]
    congr 1<;>omega
 ·rw [if_neg h,if_neg (by omega),if_neg (by omega),if_neg (by omega),if_neg (by omega)]
theorem rowL_set {m:Nat} {F G:Fld} {y:Int} {k:Nat} {v:Int} (hk:k<m) (h:∀ i:Nat,i<m→G i y=if i=k then v else F i y):(rowL m F 0 y).set k v=rowL m G 0 y:=by
 apply List.ext_getElem?
 intro i
 rw [List.getElem?_set]
 by_cases hi:i<m
 ·rw [rowL_get hi,rowL_get hi,Int.zero_add,h i hi]
  by_cases e:k=i
  ·subst e
   rw [if_pos rfl,if_pos (by rw [rowL_length];exact hk),if_pos rfl]
  ·rw [if_neg e,if_neg (Ne.symm e)]
 ·rw [if_neg (by omega),List.getElem?_eq_none (by rw [rowL_length];omega),List.getElem?_eq_none (by rw [rowL_length];omega)]
end Go.Proofs.Ev
namespace Go.Proofs.Ytppmnmheodimoaa
open Go Go.RowKit Rg Mp Hp Qs Ev
def rowV (m:Nat) (b:Nat):Value:=.slice (some ⟨b,0,none⟩) m m
def MatAt (w:World) (ob m:Nat) (bs:List Nat) (F:Fld):Prop :=
 bs.length=m∧w.heap[ob]?=some (.cells (bs.map (rowV m)).toArray 71 (0,0))∧(∀ (i b:Nat),bs[i]?=some b→w.heap[b]?=some (Obj.cells (iv (rowL m F 0 i)).toArray 3 (0,0)))∧bs.Nodup∧ob∉bs
def matR (ob m:Nat) (bs:List Nat) (F:Fld):Res where
 holds w G:=MatAt w ob m bs F∧G=ob::bs
 keep:=fun ⟨⟨h1,h2,h3,h4,h5⟩,h6⟩ hk=>⟨⟨h1,by rw [hk ob (by simp [h6])];exact h2,fun i b hb=>by rw [hk b (by rw [h6];simp [List.mem_of_getElem? hb])];exact h3 i b hb,h4,h5⟩,h6⟩
 lt:=fun ⟨⟨h1,h2,h3,h4,h5⟩,h6⟩ x hx=>by
  rw [h6,List.mem_cons] at hx
  rcases hx with rfl|hx
  ·exact lBk h2
  ·obtain⟨i,hi,rfl⟩:=List.mem_iff_getElem.1 hx
   exact lBk (h3 i _ (List.getElem?_eq_getElem hi))
section
variable {W w:World} {ob m:Nat} {bs:List Nat} {F:Fld} {Ps:List Res}
theorem mat_row (h:Has W w (matR ob m bs F::Ps)) {y:Nat} (hy:y<m):∃ b,bs[y]?=some b∧w.cell? ⟨ob,y,none⟩=some (.slice (some ⟨b,0,none⟩) m m)∧(∀ x:Nat,x<m→w.cell? ⟨b,x,none⟩=some (.int .i64 (F x y)))∧(∀ x,w.frozen? ⟨b,x,none⟩=false)∧b<w.heap.size∧ob<w.heap.size:=by
 obtain⟨_,⟨⟨h1,h2,h3,h4,h5⟩,_⟩⟩:=h.head
 have hb:bs[y]?=some (bs[y]'(by omega)):=List.getElem?_eq_getElem (by omega)
 have hr:=h3 y _ hb
 refine⟨_,hb,?_,fun x hx=>?_,fun x=>hEF hr x,lBk hr,lBk h2⟩
 ·rw [hEC h2 y]
  simp [hb,rowV]
 ·rw [hEC hr x]
  have:=iv_get (rowL_get (m:=m) (F:=F) (ox:=0) (y:=y) hx)
  rw [Int.zero_add] at this
  simpa using this
theorem mat_set (h:Has W w (matR ob m bs F::Ps)) {y x b:Nat} (hx:x<m) (hb:bs[y]?=some b) {v:Int} {G:Fld} (hG:∀ i j:Nat,G i j=if i=x∧j=y then v else F i j):Has W (w.setCell ⟨b,x,none⟩ (.int .i64 v)) (matR ob m bs G::Ps) :=
 h.turn fun H ⟨⟨h1,h2,h3,h4,h5⟩,h6⟩=>by
  have hbm:b∈bs:=List.mem_of_getElem? hb
  refine⟨H,⟨⟨h1,?_,fun i c hc=>?_,h4,h5⟩,h6⟩,(Fr.refl H w).setCell (.inl (by rw [h6];simp [hbm])) _,fun z hz=>.inl hz⟩
  ·rw [heap_setCell_else _ _ _ _ (fun e:ob=b=>h5 (by rw [e];exact hbm))];exact h2
  ·by_cases e:c=b
   ·subst e
    obtain rfl:i=y:=by
     obtain⟨hi,hi'⟩:=List.getElem?_eq_some_iff.1 hc
     exact (List.getElem?_inj hi h4).1 (hc.trans hb.symm)
    have:=heap_setCell_here (h3 i c hc) x (.int .i64 v)
    rw [this,iv_setIf,rowL_set (G:=G) hx fun k hk=>?_]
    rw [hG k i]
    simp
   ·rw [heap_setCell_else _ _ _ _ e,h3 i c hc]
    congr 4
    refine List.map_congr_left fun k hk=>?_
    rw [Int.zero_add,hG k i,if_neg]
    rintro⟨rfl,rfl⟩
    exact e (Option.some.inj (hc.symm.trans hb))
end
def FillPost (W:World) (r:Rule) (hv nv:Value) (mb sb rb:Nat) (ns:List K4) (mm:List ((Int×Int)×Int)) (ob m:Nat) (bs:List Nat) (F:Fld) (Ps:List Res) (e:Ending) (w':World):Prop :=
 e=.returned (.tuple #[])∧Has W w' (memoL r hv nv mb sb rb ns mm (matR ob m bs F::Ps))
theorem fill_zero {W w:World} {r:Rule} {hv nv:Value} {mb sb rb:Nat} {ns:List K4} {mm:List ((Int×Int)×Int)} {ob m:Nat} {bs:List Nat} {F:Fld} {Ps:List Res} (h:Has W w (memoL r hv nv mb sb rb ns mm (matR ob m bs F::Ps))) {id:Int} {t:Tr} (hi:Is r.S ns 0 id t) {x y:Nat} (hx:x<m) (hy:y<m) (hm:m≤1000) :
  Calls Try.prog 81 #[.pointer (some ⟨mb,0,none⟩),.int .i64 id,.int .i64 0,.int .i64 x,.int .i64 y,.slice (some ⟨ob,0,none⟩) m m] w (FillPost W r hv nv mb sb rb ns mm ob m bs (paste F 0 t x y) Ps):=by
 obtain⟨_,_,rfl⟩:=hi.zero (has_good h)
 obtain⟨b,hb,c0,c1,cz,cl,ol⟩:=mat_row h.fourth hy
 have c1:=c1 x hx
 have cz:=cz x
 have HF:=Lib.hid (mat_set h.fourth hx hb (v:=id) (G:=paste F 0 (.leaf id) x y) fun i j=>by
  unfold paste
  rw [p2_zero]
  by_cases e:i=x∧j=y
  ·rw [if_pos e,if_pos (by omega)];rfl
  ·rw [if_neg e,if_neg (by omega)]).back4
 clear h hi hb
 go_enter Try.func81,Try.ntmps81
 go_wp2
 refine bodyPost_ret (v:=.tuple #[]) (by simp [results,Try.results81,go_sem]) rfl ?_
 exact⟨rfl,HF.out⟩
end Go.Proofs.Ytppmnmheodimoaa
end
section
namespace Go.Proofs.Ytppmnmheodimoaa
open Go Go.RowKit Rg Mp Hp Qs Ev
def FillAt (W:World) (r:Rule) (hv nv:Value) (mb sb rb:Nat) (ns:List K4) (mm:List ((Int×Int)×Int)) (ob m:Nat) (bs:List Nat) (Ps:List Res) (n:Nat):Prop :=
 ∀ (w:World) (F:Fld) (id:Int) (t:Tr) (x y:Nat) (z zx zy:Int),z=n→zx=x→zy=y→Has W w (memoL r hv nv mb sb rb ns mm (matR ob m bs F::Ps))→Is r.S ns n id t→x+2 ^ n≤m→y+2 ^ n≤m →
  Calls Try.prog 81 #[.pointer (some ⟨mb,0,none⟩),.int .i64 id,.int .i64 z,.int .i64 zx,.int .i64 zy,.slice (some ⟨ob,0,none⟩) m m] w (FillPost W r hv nv mb sb rb ns mm ob m bs (paste F n t x y) Ps)
section
variable {W:World} {r:Rule} {hv nv:Value} {mb sb rb:Nat} {ns:List K4} {mm:List ((Int×Int)×Int)} {ob m:Nat} {bs:List Nat} {Ps:List Res}
theorem fillAt_zero (hm:m≤1000):FillAt W r hv nv mb sb rb ns mm ob m bs Ps 0:=by
 intro w F id t x y z zx zy hz hx hy h hi h1 h2
 subst hz
 subst hx
 subst hy
 exact fill_zero h hi (by omega) (by omega) hm
def qpaste (F:Fld) (n:Nat) (t:Tr) (x y:Int):Nat→Fld
 | 0=>F
 | q+1=>paste (qpaste F n t x y q) n (Tr.q t q) (x+(q % 2:Nat)*p2 n) (y+(q / 2:Nat)*p2 n)
theorem qpaste_four {F:Fld} {n:Nat} {t:Tr} {x y:Int} (ht:Full (n+1) t):qpaste F n t x y 4=paste F (n+1) t x y:=by
 match t,ht with
 | .node a b c d,_ =>
  rw [← paste_node]
  show paste (paste (paste (paste F n a (x+0*p2 n) (y+0*p2 n)) n b (x+1*p2 n) (y+0*p2 n)) n c (x+0*p2 n) (y+1*p2 n)) n d (x+1*p2 n) (y+1*p2 n)=_
  simp only [Int.zero_mul,Int.one_mul,Int.add_zero]
theorem fill_next {w:World} {F:Fld} {n q:Nat} {t:Tr} {x y a b:Nat} (h:Has W w (memoL r hv nv mb sb rb ns mm (matR ob m bs (paste (qpaste F n t x y q) n (Tr.q t q) a b)::Ps))) (ha:a=x+q % 2*2 ^ n) (hb:b=y+q / 2*2 ^ n):Has W w (memoL r hv nv mb sb rb ns mm (matR ob m bs (qpaste F n t x y (q+1))::Ps)):=by
 subst ha
 subst hb
 have e:qpaste F n t x y (q+1)=paste (qpaste F n t x y q) n (Tr.q t q) ((x+q % 2*2 ^ n:Nat):Int) ((y+q / 2*2 ^ n:Nat):Int):=by
  show paste (qpaste F n t x y q) n (Tr.q t q) ((x:Int)+(q % 2:Nat)*p2 n) ((y:Int)+(q / 2:Nat)*p2 n)=_
  unfold p2
  rw [Int.natCast_add,Int.natCast_mul,Int.natCast_add,Int.natCast_mul]
 rw [e]
 exact h
set_option maxHeartbeats 8000000 in
set_option maxRecDepth 100000 in
theorem fillAt_one (hm:m≤1000) (ih:FillAt W r hv nv mb sb rb ns mm ob m bs Ps 0):FillAt W r hv nv mb sb rb ns mm ob m bs Ps (0+1):=by
 intro w F id t x y z zx zy hz hx hy h hi h1 h2
 obtain rfl:z=1:=by rw [hz];rfl
 subst hx
 subst hy
 simp only [show (2:Nat) ^ (0+1)=2 by decide] at h1 h2
 obtain⟨_,_,hk⟩:=hi.node (has_good h)
 have HK1:=Lib.hid (fun w1 (h1:Has W w1 (memoL r hv nv mb sb rb ns mm (matR ob m bs F::Ps)))=>Kids_has h1 hi)
 have HK:=Lib.hid hk
 have HQ:=Lib.hid (qpaste_four (F:=F) (x:=x) (y:=y) hi.2.2.1)
 obtain⟨_,_,_,m3,_,_,ml⟩:=memo_cells h
 have H:=Lib.hid h
 clear h hk hi hz
 go_enter Try.func81,Try.ntmps81
 go_wp2_with fail
 refine (HK1.out _ H.out).mono ?_
 rintro e w3 ⟨rfl,h,hf⟩
 have H3:=Lib.hid h
 clear h hf H m3 ml
 go_wp2
 go_loopw [39] (fun x' wr=>∃ z:Int,x'=.int .i64 z∧At5 (fun q=>Has W wr (memoL r hv nv mb sb rb ns mm (matR ob m bs (qpaste F 0 t x y q)::Ps))) z) (fun x _=>4 - (intOf x).toNat)
 case atStart=>exact⟨0,rfl,.inl ⟨rfl,H3.out.step ((Fr.refl [] w3).alloc _)⟩⟩
 case round =>
  obtain⟨z,rfl,hz⟩:=hrel
  clear H3
  rcases hz with ⟨rfl,h⟩|⟨rfl,h⟩|⟨rfl,h⟩|⟨rfl,h⟩|⟨rfl,h⟩
  ·
   have H:=Lib.hid h
   obtain⟨_,_,_,m3,_,_,ml⟩:=memo_cells h
   clear h
   have HC:=Lib.hid (fun (z zx zy:Int) (e1:z=((0:Nat):Int)) (e2:zx=((x+0 % 2*2 ^ 0:Nat):Int)) (e3:zy=((y+0 / 2*2 ^ 0:Nat):Int))=>ih _ _ _ _ _ _ z zx zy e1 e2 e3 H.out (HK.out 0 (by omega)) (by omega) (by omega))
   go_wp2_with fail
   refine (HC.out _ _ _ (by omega) (by simp;try omega) (by simp;try omega)).mono ?_
   rintro e w5 ⟨rfl,h⟩
   have H5:=Lib.hid h
   clear h HC m3 ml H
   go_wp2
   go_roundw
   case rel=>exact⟨1,rfl,(.inr (.inl ⟨rfl,fill_next H5.out rfl rfl⟩))⟩
   case measure=>simp [intOf]
  ·
   have H:=Lib.hid h
   obtain⟨_,_,_,m3,_,_,ml⟩:=memo_cells h
   clear h
   have HC:=Lib.hid (fun (z zx zy:Int) (e1:z=((0:Nat):Int)) (e2:zx=((x+1 % 2*2 ^ 0:Nat):Int)) (e3:zy=((y+1 / 2*2 ^ 0:Nat):Int))=>ih _ _ _ _ _ _ z zx zy e1 e2 e3 H.out (HK.out 1 (by omega)) (by omega) (by omega))
   go_wp2_with fail
   refine (HC.out _ _ _ (by omega) (by simp;try omega) (by simp;try omega)).mono ?_
   rintro e w5 ⟨rfl,h⟩
   have H5:=Lib.hid h
   clear h HC m3 ml H
   go_wp2
   go_roundw
   case rel=>exact⟨2,rfl,(.inr (.inr (.inl ⟨rfl,fill_next H5.out rfl rfl⟩)))⟩
   case measure=>simp [intOf]
  ·
   have H:=Lib.hid h
   obtain⟨_,_,_,m3,_,_,ml⟩:=memo_cells h
   clear h
   have HC:=Lib.hid (fun (z zx zy:Int) (e1:z=((0:Nat):Int)) (e2:zx=((x+2 % 2*2 ^ 0:Nat):Int)) (e3:zy=((y+2 / 2*2 ^ 0:Nat):Int))=>ih _ _ _ _ _ _ z zx zy e1 e2 e3 H.out (HK.out 2 (by omega)) (by omega) (by omega))
   go_wp2_with fail
   refine (HC.out _ _ _ (by omega) (by simp;try omega) (by simp;try omega)).mono ?_
   rintro e w5 ⟨rfl,h⟩
   have H5:=Lib.hid h
   clear h HC m3 ml H
   go_wp2
   go_roundw
   case rel=>exact⟨3,rfl,(.inr (.inr (.inr (.inl ⟨rfl,fill_next H5.out rfl rfl⟩))))⟩
   case measure=>simp [intOf]
  ·
   have H:=Lib.hid h
   obtain⟨_,_,_,m3,_,_,ml⟩:=memo_cells h
   clear h
   have HC:=Lib.hid (fun (z zx zy:Int) (e1:z=((0:Nat):Int)) (e2:zx=((x+3 % 2*2 ^ 0:Nat):Int)) (e3:zy=((y+3 / 2*2 ^ 0:Nat):Int))=>ih _ _ _ _ _ _ z zx zy e1 e2 e3 H.out (HK.out 3 (by omega)) (by omega) (by omega))
   go_wp2_with fail
   refine (HC.out _ _ _ (by omega) (by simp;try omega) (by simp;try omega)).mono ?_
   rintro e w5 ⟨rfl,h⟩
   have H5:=Lib.hid h
   clear h HC m3 ml H
   go_wp2
   go_roundw
   case rel=>exact⟨4,rfl,(.inr (.inr (.inr (.inr ⟨rfl,fill_next H5.out rfl rfl⟩))))⟩
   case measure=>simp [intOf]
  ·have H:=Lib.hid h
   clear h
   go_wp2
   refine bodyPost_ret (v:=.tuple #[]) (by simp [results,Try.results81,go_sem]) rfl ?_
   refine⟨rfl,?_⟩
   rw [← HQ.out]
   exact H.out
set_option maxHeartbeats 8000000 in
set_option maxRecDepth 100000 in
theorem fillAt_two (hm:m≤1000) (ih:FillAt W r hv nv mb sb rb ns mm ob m bs Ps 1):FillAt W r hv nv mb sb rb ns mm ob m bs Ps (1+1):=by
 intro w F id t x y z zx zy hz hx hy h hi h1 h2
 obtain rfl:z=2:=by rw [hz];rfl
 subst hx
 subst hy
 simp only [show (2:Nat) ^ (1+1)=4 by decide] at h1 h2
 obtain⟨_,_,hk⟩:=hi.node (has_good h)
 have HK1:=Lib.hid (fun w1 (h1:Has W w1 (memoL r hv nv mb sb rb ns mm (matR ob m bs F::Ps)))=>Kids_has h1 hi)
 have HK:=Lib.hid hk
 have HQ:=Lib.hid (qpaste_four (F:=F) (x:=x) (y:=y) hi.2.2.1)
 obtain⟨_,_,_,m3,_,_,ml⟩:=memo_cells h
 have H:=Lib.hid h
 clear h hk hi hz
 go_enter Try.func81,Try.ntmps81
 go_wp2_with fail
 refine (HK1.out _ H.out).mono ?_
 rintro e w3 ⟨rfl,h,hf⟩
 have H3:=Lib.hid h
 clear h hf H m3 ml
 go_wp2
 go_loopw [39] (fun x' wr=>∃ z:Int,x'=.int .i64 z∧At5 (fun q=>Has W wr (memoL r hv nv mb sb rb ns mm (matR ob m bs (qpaste F 1 t x y q)::Ps))) z) (fun x _=>4 - (intOf x).toNat)
 case atStart=>exact⟨0,rfl,.inl ⟨rfl,H3.out.step ((Fr.refl [] w3).alloc _)⟩⟩
 case round =>
  obtain⟨z,rfl,hz⟩:=hrel
  clear H3
  rcases hz with ⟨rfl,h⟩|⟨rfl,h⟩|⟨rfl,h⟩|⟨rfl,h⟩|⟨rfl,h⟩
  ·
   have H:=Lib.hid h
   obtain⟨_,_,_,m3,_,_,ml⟩:=memo_cells h
   clear h
   have HC:=Lib.hid (fun (z zx zy:Int) (e1:z=((1:Nat):Int)) (e2:zx=((x+0 % 2*2 ^ 1:Nat):Int)) (e3:zy=((y+0 / 2*2 ^ 1:Nat):Int))=>ih _ _ _ _ _ _ z zx zy e1 e2 e3 H.out (HK.out 0 (by omega)) (by omega) (by omega))
   go_wp2_with fail
   refine (HC.out _ _ _ (by omega) (by simp;try omega) (by simp;try omega)).mono ?_
   rintro e w5 ⟨rfl,h⟩
   have H5:=Lib.hid h
   clear h HC m3 ml H
   go_wp2
   go_roundw
   case rel=>exact⟨1,rfl,(.inr (.inl ⟨rfl,fill_next H5.out rfl rfl⟩))⟩
   case measure=>simp [intOf]
  ·
   have H:=Lib.hid h
   obtain⟨_,_,_,m3,_,_,ml⟩:=memo_cells h
   clear h
   have HC:=Lib.hid (fun (z zx zy:Int) (e1:z=((1:Nat):Int)) (e2:zx=((x+1 % 2*2 ^ 1:Nat):Int)) (e3:zy=((y+1 / 2*2 ^ 1:Nat):Int))=>ih _ _ _ _ _ _ z zx zy e1 e2 e3 H.out (HK.out 1 (by omega)) (by omega) (by omega))
   go_wp2_with fail
   refine (HC.out _ _ _ (by omega) (by simp;try omega) (by simp;try omega)).mono ?_
   rintro e w5 ⟨rfl,h⟩
   have H5:=Lib.hid h
   clear h HC m3 ml H
   go_wp2
   go_roundw
   case rel=>exact⟨2,rfl,(.inr (.inr (.inl ⟨rfl,fill_next H5.out rfl rfl⟩)))⟩
   case measure=>simp [intOf]
  ·
   have H:=Lib.hid h
   obtain⟨_,_,_,m3,_,_,ml⟩:=memo_cells h
   clear h
   have HC:=Lib.hid (fun (z zx zy:Int) (e1:z=((1:Nat):Int)) (e2:zx=((x+2 % 2*2 ^ 1:Nat):Int)) (e3:zy=((y+2 / 2*2 ^ 1:Nat):Int))=>ih _ _ _ _ _ _ z zx zy e1 e2 e3 H.out (HK.out 2 (by omega)) (by omega) (by omega))
   go_wp2_with fail
   refine (HC.out _ _ _ (by omega) (by simp;try omega) (by simp;try omega)).mono ?_
   rintro e w5 ⟨rfl,h⟩
   have H5:=Lib.hid h
   clear h HC m3 ml H
   go_wp2
   go_roundw
   case rel=>exact⟨3,rfl,(.inr (.inr (.inr (.inl ⟨rfl,fill_next H5.out rfl rfl⟩))))⟩
   case measure=>simp [intOf]
  ·
   have H:=Lib.hid h
   obtain⟨_,_,_,m3,_,_,ml⟩:=memo_cells h
   clear h
   have HC:=Lib.hid (fun (z zx zy:Int) (e1:z=((1:Nat):Int)) (e2:zx=((x+3 % 2*2 ^ 1:Nat):Int)) (e3:zy=((y+3 / 2*2 ^ 1:Nat):Int))=>ih _ _ _ _ _ _ z zx zy e1 e2 e3 H.out (HK.out 3 (by omega)) (by omega) (by omega))
   go_wp2_with fail
   refine (HC.out _ _ _ (by omega) (by simp;try omega) (by simp;try omega)).mono ?_
   rintro e w5 ⟨rfl,h⟩
   have H5:=Lib.hid h
   clear h HC m3 ml H
   go_wp2
   go_roundw
   case rel=>exact⟨4,rfl,(.inr (.inr (.inr (.inr ⟨rfl,fill_next H5.out rfl rfl⟩))))⟩
   case measure=>simp [intOf]
  ·have H:=Lib.hid h
   clear h
   go_wp2
   refine bodyPost_ret (v:=.tuple #[]) (by simp [results,Try.results81,go_sem]) rfl ?_
   refine⟨rfl,?_⟩
   rw [← HQ.out]
   exact H.out
set_option maxHeartbeats 8000000 in
set_option maxRecDepth 100000 in
theorem fillAt_three (hm:m≤1000) (ih:FillAt W r hv nv mb sb rb ns mm ob m bs Ps 2):FillAt W r hv nv mb sb rb ns mm ob m bs Ps (2+1):=by
 intro w F id t x y z zx zy hz hx hy h hi h1 h2
 obtain rfl:z=3:=by rw [hz];rfl
 subst hx
 subst hy
 simp only [show (2:Nat) ^ (2+1)=8 by decide] at h1 h2
 obtain⟨_,_,hk⟩:=hi.node (has_good h)
 have HK1:=Lib.hid (fun w1 (h1:Has W w1 (memoL r hv nv mb sb rb ns mm (matR ob m bs F::Ps)))=>Kids_has h1 hi)
 have HK:=Lib.hid hk
 have HQ:=Lib.hid (qpaste_four (F:=F) (x:=x) (y:=y) hi.2.2.1)
 obtain⟨_,_,_,m3,_,_,ml⟩:=memo_cells h
 have H:=Lib.hid h
 clear h hk hi hz
 go_enter Try.func81,Try.ntmps81
 go_wp2_with fail
 refine (HK1.out _ H.out).mono ?_
 rintro e w3 ⟨rfl,h,hf⟩
 have H3:=Lib.hid h
 clear h hf H m3 ml
 go_wp2
 go_loopw [39] (fun x' wr=>∃ z:Int,x'=.int .i64 z∧At5 (fun q=>Has W wr (memoL r hv nv mb sb rb ns mm (matR ob m bs (qpaste F 2 t x y q)::Ps))) z) (fun x _=>4 - (intOf x).toNat)
 case atStart=>exact⟨0,rfl,.inl ⟨rfl,H3.out.step ((Fr.refl [] w3).alloc _)⟩⟩
 case round =>
  obtain⟨z,rfl,hz⟩:=hrel
  clear H3
  rcases hz with ⟨rfl,h⟩|⟨rfl,h⟩|⟨rfl,h⟩|⟨rfl,h⟩|⟨rfl,h⟩
  ·
   have H:=Lib.hid h
   obtain⟨_,_,_,m3,_,_,ml⟩:=memo_cells h
   clear h
   have HC:=Lib.hid (fun (z zx zy:Int) (e1:z=((2:Nat):Int)) (e2:zx=((x+0 % 2*2 ^ 2:Nat):Int)) (e3:zy=((y+0 / 2*2 ^ 2:Nat):Int))=>ih _ _ _ _ _ _ z zx zy e1 e2 e3 H.out (HK.out 0 (by omega)) (by omega) (by omega))
   go_wp2_with fail
   refine (HC.out _ _ _ (by omega) (by simp;try omega) (by simp;try omega)).mono ?_
   rintro e w5 ⟨rfl,h⟩
   have H5:=Lib.hid h
   clear h HC m3 ml H
   go_wp2
   go_roundw
   case rel=>exact⟨1,rfl,(.inr (.inl ⟨rfl,fill_next H5.out rfl rfl⟩))⟩
   case measure=>simp [intOf]
  ·
   have H:=Lib.hid h
   obtain⟨_,_,_,m3,_,_,ml⟩:=memo_cells h
   clear h
   have HC:=Lib.hid (fun (z zx zy:Int) (e1:z=((2:Nat):Int)) (e2:zx=((x+1 % 2*2 ^ 2:Nat):Int)) (e3:zy=((y+1 / 2*2 ^ 2:Nat):Int))=>ih _ _ _ _ _ _ z zx zy e1 e2 e3 H.out (HK.out 1 (by omega)) (by omega) (by omega))
   go_wp2_with fail
   refine (HC.out _ _ _ (by omega) (by simp;try omega) (by simp;try omega)).mono ?_
   rintro e w5 ⟨rfl,h⟩
   have H5:=Lib.hid h
   clear h HC m3 ml H
   go_wp2
   go_roundw
   case rel=>exact⟨2,rfl,(.inr (.inr (.inl ⟨rfl,fill_next H5.out rfl rfl⟩)))⟩
   case measure=>simp [intOf]
  ·
   have H:=Lib.hid h
   obtain⟨_,_,_,m3,_,_,ml⟩:=memo_cells h
   clear h
   have HC:=Lib.hid (fun (z zx zy:Int) (e1:z=((2:Nat):Int)) (e2:zx=((x+2 % 2*2 ^ 2:Nat):Int)) (e3:zy=((y+2 / 2*2 ^ 2:Nat):Int))=>ih _ _ _ _ _ _ z zx zy e1 e2 e3 H.out (HK.out 2 (by omega)) (by omega) (by omega))
   go_wp2_with fail
   refine (HC.out _ _ _ (by omega) (by simp;try omega) (by simp;try omega)).mono ?_
   rintro e w5 ⟨rfl,h⟩
   have H5:=Lib.hid h
   clear h HC m3 ml H
   go_wp2
   go_roundw
   case rel=>exact⟨3,rfl,(.inr (.inr (.inr (.inl ⟨rfl,fill_next H5.out rfl rfl⟩))))⟩
   case measure=>simp [intOf]
  ·
   have H:=Lib.hid h
   obtain⟨_,_,_,m3,_,_,ml⟩:=memo_cells h
   clear h
   have HC:=Lib.hid (fun (z zx zy:Int) (e1:z=((2:Nat):Int)) (e2:zx=((x+3 % 2*2 ^ 2:Nat):Int)) (e3:zy=((y+3 / 2*2 ^ 2:Nat):Int))=>ih _ _ _ _ _ _ z zx zy e1 e2 e3 H.out (HK.out 3 (by omega)) (by omega) (by omega))
   go_wp2_with fail
   refine (HC.out _ _ _ (by omega) (by simp;try omega) (by simp;try omega)).mono ?_
   rintro e w5 ⟨rfl,h⟩
   have H5:=Lib.hid h
   clear h HC m3 ml H
   go_wp2
   go_roundw
   case rel=>exact⟨4,rfl,(.inr (.inr (.inr (.inr ⟨rfl,fill_next H5.out rfl rfl⟩))))⟩
   case measure=>simp [intOf]
  ·have H:=Lib.hid h
   clear h
   go_wp2
   refine bodyPost_ret (v:=.tuple #[]) (by simp [results,Try.results81,go_sem]) rfl ?_
   refine⟨rfl,?_⟩
   rw [← HQ.out]
   exact H.out
end
end Go.Proofs.Ytppmnmheodimoaa
end
