/- Own texts of this claim, part 25: no condition. -/
import Derived.Lib.MinMax
import Derived.Deep.LoopGhost
import Derived.Test.YtebolidfbflkmaaGreatZN15
import Derived.Test.YtebolidfbflkmaaGreatZN17
import Derived.Test.YtebolidfbflkmaaGreatZN18
import Derived.Test.YtebolidfbflkmaaGreatZN23
import Derived.Test.YtebolidfbflkmaaGreatZN13
set_option linter.unusedVariables false
set_option linter.unusedSimpArgs false
set_option maxHeartbeats 16000000
set_option maxRecDepth 100000
section
namespace Go.Proofs.Mp
open Go Go.RowKit
theorem mem_put {κ:Type} [DecidableEq κ] {ν:Type} {l:List (κ×ν)} {k:κ} {v:ν} {x:κ×ν} (h:x∈put l k v):x∈l∨x=(k,v):=by
 unfold put at h;split at h;·
  rw [List.mem_iff_getElem?] at h;obtain⟨i,hi⟩:=h;rw [List.getElem?_set] at hi;split at hi;·
   split at hi;·exact .inr (Option.some.inj hi).symm
   ·cases hi
  ·exact .inl (List.mem_iff_getElem?.2 ⟨i,hi⟩)
 ·rw [List.mem_append,List.mem_singleton] at h;exact h
theorem mem_put_self {κ:Type} [DecidableEq κ] {ν:Type} (l:List (κ×ν)) (k:κ) (v:ν):(k,v)∈put l k v:=by
 unfold put;split;·
  rename_i i hi;rw [List.idxOf?_eq_some_iff] at hi;have h1:=hi.1;rw [List.length_map] at h1;exact List.mem_iff_getElem?.2 ⟨i,by rw [List.getElem?_set_self h1]⟩
 ·simp
theorem get_mem' {κ:Type} [DecidableEq κ] {ν:Type} {l:List (κ×ν)} {k:κ} {v:ν} (h:get? l k=some v):(k,v)∈l:=by
 unfold get? at h;rw [Option.bind_eq_some_iff] at h;obtain⟨i,hi,h⟩:=h;rw [Option.map_eq_some_iff] at h;obtain⟨p,hp,rfl⟩:=h;rw [List.idxOf?_eq_some_iff] at hi;obtain⟨h1,h2,_⟩:=hi;have:(l.map (·.1))[i]?=some k:=by rw [List.getElem?_eq_getElem h1];simpa using h2
 rw [List.getElem?_map,hp] at this;simp only [Option.map_some,Option.some.injEq] at this;rw [← this];exact List.mem_iff_getElem?.2 ⟨i,hp⟩
end Go.Proofs.Mp
namespace Go.Proofs.Hp
open Go Go.RowKit
theorem Has.merge {W w w':World} {P Q R:Res} {Ps:List Res} (h:Has W w (P::Q::Ps)) (hc:∀ F G,P.holds w F→Q.holds w G→(∀ x∈F,x∉G)→∃ H,R.holds w' H∧Fr F w w'∧∀ x∈H,x∈F∨x∈G):Has W w' (R::Ps):=by
 obtain⟨F,⟨F1,F2,h1,⟨G1,G2,g1,g2,g3,rfl⟩,h3,rfl⟩,hf,hge⟩:=h;obtain⟨H,r1,r2,r3⟩:=hc F1 G1 h1 g1 fun x hx hx'=>h3 x hx (by simp [hx']);refine⟨H++G2,⟨H,G2,r1,g2.keep fun x hx=>r2.block x (g2.lt x hx) fun hx'=>h3 x hx' (by simp [hx]),fun x hx hx'=>?_,rfl⟩,hf.trans r2 fun x hx=>.inr (hge x (by simp [hx])),fun x hx=>?_⟩;·
  rcases r3 x hx with h|h
  ·exact h3 x h (by simp [hx'])
  ·exact g3 x h hx'
 ·rw [List.mem_append] at hx;rcases hx with hx|hx
  ·rcases r3 x hx with h|h
   ·exact hge x (by simp [h])
   ·exact hge x (by simp [h])
  ·exact hge x (by simp [hx])
end Go.Proofs.Hp
namespace Go.Proofs.YtebolidfbflkmaaGreat
open Go Go.RowKit Rg Mp Hp Qs Ev Bn
abbrev BV:=Nat×Option Addr×Nat
def bvV (p:BV):Value:=.agg #[.bool false,.slice p.2.1 (zd (p.1:Int)).length p.2.2]
def bvF (p:BV):List Nat:=if (zd (p.1:Int)).length=0 then [] else (Value.slice p.2.1 (zd (p.1:Int)).length p.2.2).ownBlock.toList
theorem big_lt {w:World} {neg:Bool} {ds:List Nat} {a:Option Addr} {c:Nat} (h:BigIn w neg ds a c):∀ x∈(if ds.length=0 then [] else (Value.slice a ds.length c).ownBlock.toList),x<w.heap.size :=
 fun x hx=>(bigR neg ds a c).lt (w:=w) ⟨h,rfl⟩ x hx
theorem big_keep {w w':World} {neg:Bool} {ds:List Nat} {a:Option Addr} {c:Nat} (h:BigIn w neg ds a c) (hk:∀ x∈(if ds.length=0 then [] else (Value.slice a ds.length c).ownBlock.toList),w'.heap[x]?=w.heap[x]?):BigIn w' neg ds a c :=
 ((bigR neg ds a c).keep (w:=w) ⟨h,rfl⟩ hk).1
def popR (rb:Nat) (s:Int) (ns:List K4) (mm:List (Int×BV)):Res where
 holds w F:=MapIs w rb (Value.int .i64) bvV mm∧(∀ e∈mm,(e.2.1=popT (tr s ns e.1)∧rb∉bvF e.2)∧BigIn w false (zd (e.2.1:Int)) e.2.2.1 e.2.2.2)∧F=rb::mm.flatMap fun e=>bvF e.2
 keep:=fun ⟨h1,h2,h3⟩ hk=>⟨h1.of_block (hk _ (by simp [h3])),fun e he=>⟨(h2 e he).1,big_keep (h2 e he).2 fun x hx=>hk x (by rw [h3];simp only [List.mem_cons,List.mem_flatMap];exact .inr ⟨e,he,hx⟩)⟩,h3⟩
 lt:=fun ⟨h1,h2,h3⟩ x hx=>by
  rw [h3] at hx;simp only [List.mem_cons,List.mem_flatMap] at hx;rcases hx with rfl|⟨e,he,hx⟩
  ·exact h1.lt
  ·exact big_lt (h2 e he).2 x hx
theorem pop_put {W w:World} {rb:Nat} {s:Int} {ns:List K4} {mm:List (Int×BV)} {id:Int} {V:Nat} {a:Option Addr} {c:Nat} {Ps:List Res} {q:Obj} (h:Has W w (popR rb s ns mm::bigR false (zd (V:Int)) a c::Ps)) (hV:popT (tr s ns id)=V)
  (hq:MapIs { w with heap:=w.heap.setIfInBounds rb q } rb (Value.int .i64) bvV (put mm id (V,a,c))):Has W { w with heap:=w.heap.setIfInBounds rb q } (popR rb s ns (put mm id (V,a,c))::Ps):=by
 subst hV;refine h.merge fun F G hF hG hd=>?_;obtain⟨h1,h2,h3⟩:=hF;obtain⟨g1,g2⟩:=hG;have hrb:rb∈F:=by rw [h3];simp
 have hfr:Fr [rb] w { w with heap:=w.heap.setIfInBounds rb q }:=(Fr.refl [rb] w).setBlock (.inl i_) q;have hne:∀ x,x≠rb→({ w with heap:=w.heap.setIfInBounds rb q }:World).heap[x]?=w.heap[x]?:=fun x hx=>by show (w.heap.setIfInBounds rb q)[x]?=_;rw [Array.getElem?_setIfInBounds_ne (fun e=>hx e.symm)]
 refine⟨rb::(put mm id (popT (tr s ns id),a,c)).flatMap fun e=>bvF e.2,⟨hq,fun e he=>?_,rfl⟩,hfr.mono (by simpa using hrb),fun x hx=>?_⟩;·
  rcases mem_put he with h|rfl
  ·obtain⟨⟨e1,e2⟩,e3⟩:=h2 e h;exact⟨⟨e1,e2⟩,big_keep e3 fun x hx=>hne x fun e=>e2 (e▸hx)⟩
  ·have hrg:rb∉G:=hd rb hrb;rw [g2] at hrg;exact⟨⟨rfl,hrg⟩,big_keep g1 fun x hx=>hne x fun e=>hrg (e▸hx)⟩
 ·simp only [List.mem_cons,List.mem_flatMap] at hx;rcases hx with rfl|⟨e,he,hx⟩
  ·exact .inl hrb
  ·rcases mem_put he with h|rfl
   ·left;rw [h3];simp only [List.mem_cons,List.mem_flatMap];exact .inr ⟨e,h,hx⟩
   ·right;rw [g2];exact hx
theorem keysI:KeysBy Tryz.prog 3 (Value.int .i64):=KeysBy.int Tryz.underlying3
def CntO (b rb:Nat) (ob:Obj):Prop:=∃ cs ty,ob=.cells cs ty (0,0)∧cs[0]?=some (.pointer (some ⟨b,0,none⟩))∧cs[1]?=some (.map (some rb))
theorem cnt0 {b cb rb:Nat} {ob:Obj} (ho:CntO b rb ob) {w:World} (h:w.heap[cb]?=some ob):w.cell? ⟨cb,0,none⟩=some (.pointer (some ⟨b,0,none⟩)):=by obtain⟨cs,ty,rfl,h0,h1⟩:=ho;rw [hEC h];exact h0
theorem cnt1 {b cb rb:Nat} {ob:Obj} (ho:CntO b rb ob) {w:World} (h:w.heap[cb]?=some ob):w.cell? ⟨cb,1,none⟩=some (.map (some rb)):=by obtain⟨cs,ty,rfl,h0,h1⟩:=ho;rw [hEC h];exact h1
def cntL (ob:Obj) (b cb rb:Nat) (s:Int) (ns:List K4) (mm:List (Int×BV)) (Ps:List Res):List Res :=
 popR rb s ns mm::Hp.blk cb ob::sTR b s ns::Ps
def CountPost (ob:Obj) (W:World) (b cb rb:Nat) (s:Int) (ns:List K4) (id:Int) (V:Nat) (Ps:List Res) (e:Ending) (w':World):Prop :=
 ∃ a c mm',e=.returned (bvV (V,a,c))∧Has W w' (cntL ob b cb rb s ns mm' Ps)∧(id,(V,a,c))∈mm'
theorem cnt_in {W w:World} {ob:Obj} {b cb rb:Nat} {s:Int} {ns:List K4} {mm:List (Int×BV)} {Ps:List Res} {id:Int} {V:Nat} {a:Option Addr} {c:Nat} (h:Has W w (cntL ob b cb rb s ns mm Ps)) (hm:(id,(V,a,c))∈mm):BigIn w false (zd (V:Int)) a c:=by obtain⟨F,_,h2,_⟩:=h.head;exact (h2 _ hm).2
theorem cnt_take {W w:World} {rb:Nat} {s:Int} {ns:List K4} {mm:List (Int×BV)} {Ps:List Res} {id:Int} {V:Nat} {a:Option Addr} {c:Nat} (h:Has W w (popR rb s ns mm::Ps)) (hm:(id,(V,a,c))∈mm):Has W w (bigR false (zd (V:Int)) a c::Ps) :=
 h.turn fun F ⟨_,h2,h3⟩=>⟨_,⟨(h2 _ hm).2,rfl⟩,Fr.refl _ _,fun x hx=>.inl (by rw [h3];simp only [List.mem_cons,List.mem_flatMap];exact .inr ⟨_,hm,hx⟩)⟩
def CountAt (ob:Obj) (W:World) (b cb rb:Nat) (s:Int) (ns:List K4) (n:Nat):Prop :=
 ∀ (w:World) (Ps:List Res) (mm:List (Int×BV)) (id:Int) (t:Tr),Has W w (cntL ob b cb rb s ns mm Ps)→Is s ns n id t →
  Calls Tryz.prog 111 #[.pointer (some ⟨cb,0,none⟩),.int .i64 id] w (CountPost ob W b cb rb s ns id (popT t) Ps)
theorem cnt_cells {W w:World} {ob:Obj} {b cb rb:Nat} (ho:CntO b rb ob) {s:Int} {ns:List K4} {mm:List (Int×BV)} {Ps:List Res} (h:Has W w (cntL ob b cb rb s ns mm Ps)) :
  w.cell? ⟨cb,0,none⟩=some (.pointer (some ⟨b,0,none⟩))∧w.cell? ⟨cb,1,none⟩=some (.map (some rb))∧cb<w.heap.size :=
 ⟨cnt0 ho h.swap.blk,cnt1 ho h.swap.blk,lBk h.swap.blk⟩
theorem cnt_map {W w:World} {ob:Obj} {b cb rb:Nat} {s:Int} {ns:List K4} {mm:List (Int×BV)} {Ps:List Res} (h:Has W w (cntL ob b cb rb s ns mm Ps)):MapIs w rb (Value.int .i64) bvV mm∧rb<w.heap.size∧∀ e∈mm,e.2.1=popT (tr s ns e.1)∧BigIn w false (zd (e.2.1:Int)) e.2.2.1 e.2.2.2:=by obtain⟨F,h1,h2,_⟩:=h.head;exact⟨h1,h1.lt,fun e he=>⟨(h2 e he).1.1,(h2 e he).2⟩⟩
theorem pop_zok {n:Nat} (hn:n≤256) {t:Tr} (h:Full n t):Zok (popT t:Int):=by unfold Zok;rw [Int.natAbs_natCast];refine Nat.lt_of_le_of_lt (popT_le h) ?_;rw [show (4:Nat)=2 ^ 2 from rfl,← Nat.pow_mul];exact two_pow_lt (a:=32) (k:=64) o_
def sumq (t:Tr):Nat→Nat
 | 0=>0
 | q+1=>sumq t q+popT (Tr.q t q)
theorem count_hit {W:World} {ob:Obj} {b cb rb:Nat} (ho:CntO b rb ob) {s:Int} {ns:List K4} {n:Nat} {w:World} {Ps:List Res} {mm:List (Int×BV)} {id:Int} {t:Tr} (h:Has W w (cntL ob b cb rb s ns mm Ps)) (hi:Is s ns n id t) {p:BV} (hg:get? mm id=some p) :
  Calls Tryz.prog 111 #[.pointer (some ⟨cb,0,none⟩),.int .i64 id] w (CountPost ob W b cb rb s ns id (popT t) Ps):=by
 obtain⟨V,a,c⟩:=p;obtain⟨hm,hml,hmv⟩:=cnt_map h;obtain⟨c0,c1,cl⟩:=cnt_cells ho h;have hv:=hmv _ (get_mem' hg);simp only at hv;have hV:V=popT t:=by rw [hv.1,hi.2.1]
 have HV:=q_ (And.intro hV hv.2);have HM:=q_ hm;have HG:=q_ hg;have H:=q_ h;clear h hi hg hm hmv hv hV;go_enter Tryz.func111,Tryz.ntmps111;go_wp2_with (at_lookup;refine wpList_lookup_hit (f:=Value.int .i64) (g:=bvV) (k:=id) (z:=.agg #[.bool false,.slice none 0 0]) rfl rfl rfl rfl (HM.out.of_block (hAE _ _ _ hml)) Tryz.underlying162 keysI k_ HG.out ?_;simp only [bvV]);refine bodyPost_ret (big_result1 rfl (b:=w.heap.size) (x:=.bool false) (y:=.slice a (zd (V:Int)).length c) rfl ?_) rfl ⟨a,c,mm,?_,?_,?_⟩;·exact hpT
 ·rw [← HV.out.1];rfl
 ·exact H.out.step (Fr.t)
 ·rw [← HV.out.1];exact get_mem' HG.out
theorem _root_.Go.Proofs.Hp.Has.front {W w:World} {P:Res} {Xs Ys:List Res} (h:Has W w (Xs++P::Ys)):Has W w (P::(Xs++Ys)):=h.perm List.perm_middle
theorem _root_.Go.Proofs.Hp.Has.f2 {W w:World} {A B P:Res} {Ys:List Res} (h:Has W w (A::B::P::Ys)):Has W w (P::A::B::Ys):=h.front (Xs:=[A,B])
theorem _root_.Go.Proofs.Hp.Has.f3 {W w:World} {A B C P:Res} {Ys:List Res} (h:Has W w (A::B::C::P::Ys)):Has W w (P::A::B::C::Ys):=h.front (Xs:=[A,B,C])
theorem _root_.Go.Proofs.Hp.Has.f4 {W w:World} {A B C D P:Res} {Ys:List Res} (h:Has W w (A::B::C::D::P::Ys)):Has W w (P::A::B::C::D::Ys):=h.front (Xs:=[A,B,C,D])
theorem _root_.Go.Proofs.Hp.Has.f5 {W w:World} {A B C D E P:Res} {Ys:List Res} (h:Has W w (A::B::C::D::E::P::Ys)):Has W w (P::A::B::C::D::E::Ys):=h.front (Xs:=[A,B,C,D,E])
theorem _root_.Go.Proofs.Hp.Has.f6 {W w:World} {A B C D E F P:Res} {Ys:List Res} (h:Has W w (A::B::C::D::E::F::P::Ys)):Has W w (P::A::B::C::D::E::F::Ys):=h.front (Xs:=[A,B,C,D,E,F])
theorem upd_pop {ops:Array Oper} {rest:List Oper} {o:Oper} {act:Act} {Q:Exit→Act→World→Prop} {W w:World} {rb:Nat} {s:Int} {ns:List K4} {mm:List (Int×BV)} {id:Int} {V:Nat} {a:Option Addr} {c:Nat} {Ps:List Res} {m x u:Operand}
  (hg:o.guard=none) (ho:o.op=.mapUpdate 162 m x u) (hm:act.eval m=.map (some rb)) (hx:act.eval x=.int .i64 id) (hu:act.eval u=bvV (V,a,c)) (h:Has W w (popR rb s ns mm::bigR false (zd (V:Int)) a c::Ps)) (hV:popT (tr s ns id)=V)
  (hnext:∀ w',Has W w' (popR rb s ns (put mm id (V,a,c))::Ps)→wpList Tryz.prog ops Q rest (act.put o.dst undef) w'):wpList Tryz.prog ops Q (o::rest) act w:=by
 obtain⟨F8,hM,_⟩:=h.head;exact wpList_update_is (f:=Value.int .i64) (g:=bvV) (k:=id) (v:=(V,a,c)) hg ho hm hx hu hM Tryz.underlying162 keysI fun q hq=>hnext _ (pop_put h hV hq)
theorem sumq_le {n:Nat} {t:Tr} (h:∀ q,q<4→Full n (Tr.q t q)):∀ {q:Nat},q≤4→sumq t q≤q*4 ^ n
 | 0,_=>by simp [sumq]
 | q+1,hq=>by have:=sumq_le h (q:=q) o_;have:=popT_le (h q o_);rw [sumq,Nat.succ_mul];omega
theorem sumq_zok {n:Nat} (hn:n+1≤256) {t:Tr} (h:∀ q,q<4→Full n (Tr.q t q)) {q:Nat} (hq:q≤4):Zok ((sumq t q:Nat):Int):=by
 unfold Zok;rw [Int.natAbs_natCast];have h1:=sumq_le h hq;have h2:q*4 ^ n≤4 ^ (n+1):=by rw [Nat.pow_succ,Nat.mul_comm];exact Nat.mul_le_mul_left _ hq
 refine Nat.lt_of_le_of_lt (Nat.le_trans h1 h2) ?_;rw [show (4:Nat)=2 ^ 2 from rfl,← Nat.pow_mul];exact two_pow_lt (a:=32) (k:=64) o_
theorem in_z {w:World} {V:Nat} {a:Option Addr} {c:Nat} (h:BigIn w false (zd (V:Int)) a c):BigZ w (fun _=>True) (.agg #[.bool false,.slice a (zd (V:Int)).length c]) (V:Int) :=
 ⟨a,c,by rw [show decide ((V:Int)<0)=false by simp],h.len,fun _ _=>trivial,h.rd⟩
theorem count_leaf {W:World} {ob:Obj} {b cb rb:Nat} (ho:CntO b rb ob) {s:Int} {ns:List K4} {w:World} {Ps:List Res} {mm:List (Int×BV)} {id:Int} {t:Tr} (h:Has W w (cntL ob b cb rb s ns mm Ps)) (hi:Is s ns 0 id t) (hg:get? mm id=none) :
  Calls Tryz.prog 111 #[.pointer (some ⟨cb,0,none⟩),.int .i64 id] w (CountPost ob W b cb rb s ns id (popT t) Ps):=by
 obtain⟨h0,h1,ht⟩:=hi.zero (has_good h.third);have hp:(popT t:Int)=min id 1:=by rw [ht];unfold popT;split<;>omega
 have HK:=q_ (fun w1 Qs (h1:Has W w1 (sTR b s ns::Qs))=>KidsLeaf_has h1 hi);have HT:=q_ (congrArg popT hi.2.1);obtain⟨V,hV⟩:∃ V,popT t=V:=⟨_,rfl⟩;rw [hV] at hp HT ⊢;have HP:=q_ hp;clear ht hi hV hp;obtain⟨hm,hml,_⟩:=cnt_map h;obtain⟨c0,c1,cl⟩:=cnt_cells ho h;have HM:=q_ hm;have HG:=q_ hg;have H:=q_ h;clear hm h hg;obtain⟨z1,hz1⟩:∃ z1,min id 1=z1:=⟨_,rfl⟩;obtain⟨r4,hr4⟩:∃ r4,w.heap.size=r4:=⟨_,rfl⟩;rw [hr4] at cl hml;go_enter Tryz.func111,Tryz.ntmps111;go_wp2_with (at_lookup;refine wpList_lookup_miss (f:=Value.int .i64) (g:=bvV) (k:=id) (z:=.agg #[.bool false,.slice none 0 0]) rfl rfl rfl rfl (HM.out.of_block (hAE _ _ _ o_)) Tryz.underlying162 keysI k_ HG.out ?_);have h1:=(hAL H.out #[.bool false,.slice none 0 0] 30);rw [hr4] at h1;refine (From_z (x:=z1) o_ o_).mono ?_;rintro e w1 ⟨v1,rfl,hb1,hf⟩;obtain⟨a1,k1,rfl,h2⟩:=has_big (h1.step (Fr.t)) hf hb1 (zok_int o_ o_);clear h1 hf hb1 H HM HG c0 c1 cl hml;have hzV:z1=(V:Nat):=by rw [HP.out,hz1]
 subst hzV;have hdf:decide (((V:Nat):Int)<0)=false:=by simp
 rw [hdf] at h2 ⊢;clear hz1;obtain⟨s7,hs7⟩:∃ s7,w1.heap.size=s7:=⟨_,rfl⟩;have h3:=hAL h2 #[.bool false,.slice a1 (zd (V:Int)).length k1] 30;rw [hs7] at h3;have hcb:=h3.f4.blk;have c0:=cnt0 ho hcb;have c1:=cnt1 ho hcb;have cl:=lBk hcb;have H3:=q_ h3;clear h2 h3 hcb;go_wp2_with fail;refine (HK.out _ _ H3.out.f5).mono ?_;rintro e w2 ⟨rfl,h,hf⟩;clear hf c0 c1 cl H3 hs7;have h:=h.f2.f4;have hcb:=h.f5.blk;have c0:=cnt0 ho hcb;have c1:=cnt1 ho hcb;have cl:=lBk hcb;have hsb:=h.f3.blk;obtain⟨s0,s1,sl⟩:=l2_ hsb;have H4:=q_ h;clear h hcb hsb;go_wp2;(refine wT ?_);go_wp2_with (at_mapUpdate;refine upd_pop (id:=id) (V:=V) (a:=a1) (c:=k1) rfl rfl rfl rfl rfl (H4.out.step (Fr.t)) HT.out ?_);clear c0 c1 cl s0 s1 sl;intro w8 h5;have hsb:=h5.f2.blk;have hr4:=h5.f3.blk;obtain⟨s0,s1,sl⟩:=l2_ hsb;obtain⟨r0,r1⟩:=e2_ hr4;have rz0:=hEF hr4 0;have rz1:=hEF hr4 1;have rl:=lBk hr4;have H5:=q_ h5;clear h5 hsb hr4 H4;go_wp2;refine sT_ rfl ?_;go_wp2;refine bodyPost_ret (big_result1 rfl (b:=r4) (x:=.bool false) (y:=.slice a1 (zd (V:Int)).length k1) rfl ?_) rfl ⟨a1,k1,put mm id (V,a1,k1),rfl,?_,?_⟩;·exact (hST (hST H5.out.f3 0 (.bool false)) 1 (.slice a1 (zd (V:Int)).length k1)).blk
 ·exact ((hST (hST H5.out.f3 0 (.bool false)) 1 (.slice a1 (zd (V:Int)).length k1)).drop.f2.drop.f2).swap
 ·exact mem_put_self _ _ _
theorem count_node {W:World} {ob:Obj} {b cb rb:Nat} (ho:CntO b rb ob) {s:Int} {ns:List K4} {n:Nat} (hn:n+1≤256) (ih:CountAt ob W b cb rb s ns n) {w:World} {Ps:List Res} {mm:List (Int×BV)} {id:Int} {t:Tr} (h:Has W w (cntL ob b cb rb s ns mm Ps)) (hi:Is s ns (n+1) id t) (hg:get? mm id=none) :
  Calls Tryz.prog 111 #[.pointer (some ⟨cb,0,none⟩),.int .i64 id] w (CountPost ob W b cb rb s ns id (popT t) Ps):=by
 have hgd:=has_good h.third;obtain⟨hs,_,hq⟩:=hi.node hgd;have h2s:=hgd.1;obtain⟨kk,hkk⟩:∃ kk,nodeOf s ns id=kk:=⟨_,rfl⟩;have HQ:=q_ (hkk▸hq);have HK:=q_ (fun w1 Qs (h1:Has W w1 (sTR b s ns::Qs))=>hkk▸Kids_has h1 hi);have HT:=q_ (congrArg popT hi.2.1);have HMIN:=q_ (show min id 1=1 by omega);have hid0:0≤id:=o_
 have HI:=q_ ih;have HFu:=q_ (fun q (hq:q<4)=>show Full n (Tr.q t q) from (hi.node hgd).2.2 q hq |>.2.2.1);have hpop:popT t=sumq t 4:=by obtain⟨i,k,_,_,_,_,_,_,ht⟩:=hi.kids hgd;rw [ht];simp only [sumq,popT,Tr.q];omega
 have HPOP:=q_ hpop;obtain⟨V,hV⟩:∃ V,popT t=V:=⟨_,rfl⟩;rw [hV] at HT HPOP ⊢;clear hi hs hq hgd h2s hkk ih hV hpop;obtain⟨hm,hml,_⟩:=cnt_map h;obtain⟨c0,c1,cl⟩:=cnt_cells ho h;have HM:=q_ hm;have HG:=q_ hg;have H:=q_ h;clear hm h hg;obtain⟨z1,hz1⟩:∃ z1,min id 1=z1:=⟨_,rfl⟩;obtain⟨r4,hr4⟩:∃ r4,w.heap.size=r4:=⟨_,rfl⟩;rw [hr4] at cl hml;go_enter Tryz.func111,Tryz.ntmps111;go_wp2_with (at_lookup;refine wpList_lookup_miss (f:=Value.int .i64) (g:=bvV) (k:=id) (z:=.agg #[.bool false,.slice none 0 0]) rfl rfl rfl rfl (HM.out.of_block (hAE _ _ _ o_)) Tryz.underlying162 keysI k_ HG.out ?_);have h1:=(hAL H.out #[.bool false,.slice none 0 0] 30);rw [hr4] at h1;refine (From_z (x:=z1) o_ o_).mono ?_;rintro e w1 ⟨v1,rfl,hb1,hf⟩;obtain⟨a1,k1,rfl,h2⟩:=has_big (h1.step (Fr.t)) hf hb1 (zok_int o_ o_);clear h1 hf hb1 H HM HG c0 c1 cl hml;obtain rfl:z1=1:=by have:=HMIN.out;omega
 have hdf:decide ((1:Int)<0)=false:=by simp
 rw [hdf] at h2 ⊢;clear hz1;obtain⟨s7,hs7⟩:∃ s7,w1.heap.size=s7:=⟨_,rfl⟩;have h3:=hAL h2.drop #[.bool false,.slice a1 (zd 1).length k1] 30;rw [hs7] at h3;have hcb:=h3.f3.blk;have c0:=cnt0 ho hcb;have c1:=cnt1 ho hcb;have cl:=lBk hcb;have H3:=q_ h3;clear h2 h3 hcb;go_wp2_with fail;refine (HK.out _ _ H3.out.f4).mono ?_;rintro e w2 ⟨rfl,h,hf⟩;clear hf c0 c1 cl H3 hs7;have H4:=q_ h;have hsb:=h.swap.blk;obtain⟨s0,s1,sl⟩:=l2_ hsb;have sz0:=hEF hsb 0;have sz1:=hEF hsb 1;clear h hsb;go_wp2_with fail;refine (From_z (x:=0) o_ o_).mono ?_;rintro e w3 ⟨v1,rfl,hb1,hf⟩;obtain⟨a2,k2,rfl,h2⟩:=has_big (H4.out.step (Fr.t)) hf hb1 (zok_int o_ o_);have hd0:decide ((0:Int)<0)=false:=by simp
 rw [hd0] at h2 ⊢;have hsb:=h2.f2.blk;have hs72:s7<w2.heap.size:=sl;clear s0 s1 sl sz0 sz1;obtain⟨s0,s1,sl⟩:=l2_ hsb;have sz0:=hEF hsb 0;have sz1:=hEF hsb 1;have hj_:=(hf.block (w2.heap.size) (by first|(simp;done)|(simp;omega)) i_).trans (show _=some (.cells #[.int .i64 kk.a,.int .i64 kk.b,.int .i64 kk.c,.int .i64 kk.d] 132 (0,0)) from hpT);obtain⟨j0,j1,j2,j3,jl⟩:=l4_ hj_;have Hj:=q_ hj_;clear hj_;have H5:=q_ (show Has W w3 (cntL ob b cb rb s ns mm (bigR false (zd ((sumq t 0:Nat):Int)) a2 k2::Hp.blk s7 (.cells #[.bool false,.slice a1 (zd 1).length k1] 30 (0,0))::Hp.blk r4 (.cells #[.bool false,.slice none 0 0] 30 (0,0))::Ps)) from h2.swap.f5.f5);clear hsb h2 hf hb1 H4;go_wp2;go_loopw [38] (fun x wr=>∃ z:Int,x=.int .i64 z∧At5 (fun q=>∃ a c mm',Has W wr (cntL ob b cb rb s ns mm' (bigR false (zd ((sumq t q:Nat):Int)) a c::Hp.blk s7 (.cells #[.bool false,.slice a (zd ((sumq t q:Nat):Int)).length c] 30 (0,0))::Hp.blk r4 (.cells #[.bool false,.slice none 0 0] 30 (0,0))::Ps))) z) (fun x _=>4 - (intOf x).toNat);case atStart =>refine⟨0,rfl,.inl ⟨rfl,a2,k2,mm,?_⟩⟩;exact (hST (hST H5.out.f4 0 (.bool false)) 1 (.slice a2 (zd (0:Int)).length k2)).f4.f4.f4.f4
 case round =>
  clear H5 s0 s1 sl sz0 sz1 j0 j1 j2 j3 jl Hj;obtain⟨z,rfl,hz⟩:=hrel;rcases hz with ⟨rfl,a5,c5,mm5,h⟩|⟨rfl,a5,c5,mm5,h⟩|⟨rfl,a5,c5,mm5,h⟩|⟨rfl,a5,c5,mm5,h⟩|⟨rfl,a5,c5,mm5,h⟩
  ·have hcb:=h.swap.blk;have c0:=cnt0 ho hcb;have c1:=cnt1 ho hcb;have cl:=lBk hcb;have hsb:=h.f4.blk;obtain⟨s0,s1,sl⟩:=l2_ hsb;have H:=q_ h;clear h hcb hsb;go_wp2;refine wS [([0,1,2,3],[0]),([4,5,6,7,8],[])] ?_;(simp only [wpSegs,pick,aq_,bq_,cq_,dq_,eq_]);go_wp2_with fail;refine (HI.out _ _ _ _ _ (H.out.step (Fr.t)) (HQ.out 0 o_)).mono ?_;rintro e w5 ⟨a6,c6,mm6,rfl,h5,hm5⟩;have hb5:=cnt_in h5 hm5;clear c0 c1 cl s0 s1 sl;have hsb:=h5.f4.blk;obtain⟨s0,s1,sl⟩:=l2_ hsb;have sz0:=hEF hsb 0;have sz1:=hEF hsb 1;have Hsb:=q_ hsb;obtain⟨F5,hsum,_⟩:=h5.f3.head;have HSU:=q_ (in_z hsum);have HB5:=q_ (in_z hb5);have H5:=q_ h5;clear h5 hsb hsum hb5 hm5;simp only [bvV];go_wp2;refine mD_ ⟨⟨aGR (T:=30) (cs:=[.bool false,.slice a5 (zd ((sumq t 0:Nat):Int)).length c5]) rfl rfl rfl Tryz.underlying30 rfl k_ (fun j v hj=>?rng0) rfl,trivial⟩,?_⟩;case rng0 =>rw [Nat.zero_add,hEC Hsb.out,← hj];exact (Array.getElem?_toList (xs:=#[Value.bool false,.slice a5 (zd ((sumq t 0:Nat):Int)).length c5])).symm
   go_wp2_with fail;refine (Add_z HSU.out HB5.out (sumq_zok hn HFu.out o_) (pop_zok o_ (HFu.out 0 o_)) (by rw [← Int.natCast_add];exact sumq_zok (q:=0+1) hn HFu.out o_)).mono ?_;rintro e w6 ⟨v7,rfl,hb7,hf⟩;rw [← Int.natCast_add] at hb7;obtain⟨a7,c7,rfl,h7⟩:=has_big (z:=((sumq t (0+1):Nat):Int)) H5.out.f3.drop hf hb7 (sumq_zok (q:=0+1) hn HFu.out o_);rw [show decide (((sumq t (0+1):Nat):Int)<0)=false by simp] at h7 ⊢;obtain⟨S,hS⟩:∃ S,sumq t (0+1)=S:=⟨_,rfl⟩;have HE:=q_ (show Has W _ (cntL ob b cb rb s ns mm6 (bigR false (zd ((sumq t (0+1):Nat):Int)) a7 c7::Hp.blk s7 (.cells #[.bool false,.slice a7 (zd ((sumq t (0+1):Nat):Int)).length c7] 30 (0,0))::Hp.blk r4 (.cells #[.bool false,.slice none 0 0] 30 (0,0))::Ps)) from
    (hST (hST h7.f4 0 (.bool false)) 1 (.slice a7 (zd ((sumq t (0+1):Nat):Int)).length c7)).swap.f4.f4.f4)
   rw [hS] at HE h7 ⊢;have HSS:=q_ hS;have hsb:=h7.f4.blk;clear s0 s1 sl sz0 sz1 hS;obtain⟨s0,s1,sl⟩:=l2_ hsb;have sz0:=hEF hsb 0;have sz1:=hEF hsb 1;clear h7 hf hb7 hsb;go_wp2;refine mD_ ⟨trivial,sT_ rfl ?_⟩;go_wp2;go_roundw;case rel=>exact⟨1,rfl,(.inr (.inl ⟨rfl,_,_,_,(by rw [HSS.out];exact HE.out)⟩))⟩
   case measure=>simp [intOf]
  ·have hcb:=h.swap.blk;have c0:=cnt0 ho hcb;have c1:=cnt1 ho hcb;have cl:=lBk hcb;have hsb:=h.f4.blk;obtain⟨s0,s1,sl⟩:=l2_ hsb;have H:=q_ h;clear h hcb hsb;go_wp2;refine wS [([0,1,2,3],[0]),([4,5,6,7,8],[])] ?_;(simp only [wpSegs,pick,aq_,bq_,cq_,dq_,eq_]);go_wp2_with fail;refine (HI.out _ _ _ _ _ (H.out.step (Fr.t)) (HQ.out 1 o_)).mono ?_;rintro e w5 ⟨a6,c6,mm6,rfl,h5,hm5⟩;have hb5:=cnt_in h5 hm5;clear c0 c1 cl s0 s1 sl;have hsb:=h5.f4.blk;obtain⟨s0,s1,sl⟩:=l2_ hsb;have sz0:=hEF hsb 0;have sz1:=hEF hsb 1;have Hsb:=q_ hsb;obtain⟨F5,hsum,_⟩:=h5.f3.head;have HSU:=q_ (in_z hsum);have HB5:=q_ (in_z hb5);have H5:=q_ h5;clear h5 hsb hsum hb5 hm5;simp only [bvV];go_wp2;refine mD_ ⟨⟨aGR (T:=30) (cs:=[.bool false,.slice a5 (zd ((sumq t 1:Nat):Int)).length c5]) rfl rfl rfl Tryz.underlying30 rfl k_ (fun j v hj=>?rng1) rfl,trivial⟩,?_⟩;case rng1 =>rw [Nat.zero_add,hEC Hsb.out,← hj];exact (Array.getElem?_toList (xs:=#[Value.bool false,.slice a5 (zd ((sumq t 1:Nat):Int)).length c5])).symm
   go_wp2_with fail;refine (Add_z HSU.out HB5.out (sumq_zok hn HFu.out o_) (pop_zok o_ (HFu.out 1 o_)) (by rw [← Int.natCast_add];exact sumq_zok (q:=1+1) hn HFu.out o_)).mono ?_;rintro e w6 ⟨v7,rfl,hb7,hf⟩;rw [← Int.natCast_add] at hb7;obtain⟨a7,c7,rfl,h7⟩:=has_big (z:=((sumq t (1+1):Nat):Int)) H5.out.f3.drop hf hb7 (sumq_zok (q:=1+1) hn HFu.out o_);rw [show decide (((sumq t (1+1):Nat):Int)<0)=false by simp] at h7 ⊢;obtain⟨S,hS⟩:∃ S,sumq t (1+1)=S:=⟨_,rfl⟩;have HE:=q_ (show Has W _ (cntL ob b cb rb s ns mm6 (bigR false (zd ((sumq t (1+1):Nat):Int)) a7 c7::Hp.blk s7 (.cells #[.bool false,.slice a7 (zd ((sumq t (1+1):Nat):Int)).length c7] 30 (0,0))::Hp.blk r4 (.cells #[.bool false,.slice none 0 0] 30 (0,0))::Ps)) from
    (hST (hST h7.f4 0 (.bool false)) 1 (.slice a7 (zd ((sumq t (1+1):Nat):Int)).length c7)).swap.f4.f4.f4)
   rw [hS] at HE h7 ⊢;have HSS:=q_ hS;have hsb:=h7.f4.blk;clear s0 s1 sl sz0 sz1 hS;obtain⟨s0,s1,sl⟩:=l2_ hsb;have sz0:=hEF hsb 0;have sz1:=hEF hsb 1;clear h7 hf hb7 hsb;go_wp2;refine mD_ ⟨trivial,sT_ rfl ?_⟩;go_wp2;go_roundw;case rel=>exact⟨2,rfl,(.inr (.inr (.inl ⟨rfl,_,_,_,(by rw [HSS.out];exact HE.out)⟩)))⟩
   case measure=>simp [intOf]
  ·have hcb:=h.swap.blk;have c0:=cnt0 ho hcb;have c1:=cnt1 ho hcb;have cl:=lBk hcb;have hsb:=h.f4.blk;obtain⟨s0,s1,sl⟩:=l2_ hsb;have H:=q_ h;clear h hcb hsb;go_wp2;refine wS [([0,1,2,3],[0]),([4,5,6,7,8],[])] ?_;(simp only [wpSegs,pick,aq_,bq_,cq_,dq_,eq_]);go_wp2_with fail;refine (HI.out _ _ _ _ _ (H.out.step (Fr.t)) (HQ.out 2 o_)).mono ?_;rintro e w5 ⟨a6,c6,mm6,rfl,h5,hm5⟩;have hb5:=cnt_in h5 hm5;clear c0 c1 cl s0 s1 sl;have hsb:=h5.f4.blk;obtain⟨s0,s1,sl⟩:=l2_ hsb;have sz0:=hEF hsb 0;have sz1:=hEF hsb 1;have Hsb:=q_ hsb;obtain⟨F5,hsum,_⟩:=h5.f3.head;have HSU:=q_ (in_z hsum);have HB5:=q_ (in_z hb5);have H5:=q_ h5;clear h5 hsb hsum hb5 hm5;simp only [bvV];go_wp2;refine mD_ ⟨⟨aGR (T:=30) (cs:=[.bool false,.slice a5 (zd ((sumq t 2:Nat):Int)).length c5]) rfl rfl rfl Tryz.underlying30 rfl k_ (fun j v hj=>?rng2) rfl,trivial⟩,?_⟩;case rng2 =>rw [Nat.zero_add,hEC Hsb.out,← hj];exact (Array.getElem?_toList (xs:=#[Value.bool false,.slice a5 (zd ((sumq t 2:Nat):Int)).length c5])).symm
   go_wp2_with fail;refine (Add_z HSU.out HB5.out (sumq_zok hn HFu.out o_) (pop_zok o_ (HFu.out 2 o_)) (by rw [← Int.natCast_add];exact sumq_zok (q:=2+1) hn HFu.out o_)).mono ?_;rintro e w6 ⟨v7,rfl,hb7,hf⟩;rw [← Int.natCast_add] at hb7;obtain⟨a7,c7,rfl,h7⟩:=has_big (z:=((sumq t (2+1):Nat):Int)) H5.out.f3.drop hf hb7 (sumq_zok (q:=2+1) hn HFu.out o_);rw [show decide (((sumq t (2+1):Nat):Int)<0)=false by simp] at h7 ⊢;obtain⟨S,hS⟩:∃ S,sumq t (2+1)=S:=⟨_,rfl⟩;have HE:=q_ (show Has W _ (cntL ob b cb rb s ns mm6 (bigR false (zd ((sumq t (2+1):Nat):Int)) a7 c7::Hp.blk s7 (.cells #[.bool false,.slice a7 (zd ((sumq t (2+1):Nat):Int)).length c7] 30 (0,0))::Hp.blk r4 (.cells #[.bool false,.slice none 0 0] 30 (0,0))::Ps)) from
    (hST (hST h7.f4 0 (.bool false)) 1 (.slice a7 (zd ((sumq t (2+1):Nat):Int)).length c7)).swap.f4.f4.f4)
   rw [hS] at HE h7 ⊢;have HSS:=q_ hS;have hsb:=h7.f4.blk;clear s0 s1 sl sz0 sz1 hS;obtain⟨s0,s1,sl⟩:=l2_ hsb;have sz0:=hEF hsb 0;have sz1:=hEF hsb 1;clear h7 hf hb7 hsb;go_wp2;refine mD_ ⟨trivial,sT_ rfl ?_⟩;go_wp2;go_roundw;case rel=>exact⟨3,rfl,(.inr (.inr (.inr (.inl ⟨rfl,_,_,_,(by rw [HSS.out];exact HE.out)⟩))))⟩
   case measure=>simp [intOf]
  ·have hcb:=h.swap.blk;have c0:=cnt0 ho hcb;have c1:=cnt1 ho hcb;have cl:=lBk hcb;have hsb:=h.f4.blk;obtain⟨s0,s1,sl⟩:=l2_ hsb;have H:=q_ h;clear h hcb hsb;go_wp2;refine wS [([0,1,2,3],[0]),([4,5,6,7,8],[])] ?_;(simp only [wpSegs,pick,aq_,bq_,cq_,dq_,eq_]);go_wp2_with fail;refine (HI.out _ _ _ _ _ (H.out.step (Fr.t)) (HQ.out 3 o_)).mono ?_;rintro e w5 ⟨a6,c6,mm6,rfl,h5,hm5⟩;have hb5:=cnt_in h5 hm5;clear c0 c1 cl s0 s1 sl;have hsb:=h5.f4.blk;obtain⟨s0,s1,sl⟩:=l2_ hsb;have sz0:=hEF hsb 0;have sz1:=hEF hsb 1;have Hsb:=q_ hsb;obtain⟨F5,hsum,_⟩:=h5.f3.head;have HSU:=q_ (in_z hsum);have HB5:=q_ (in_z hb5);have H5:=q_ h5;clear h5 hsb hsum hb5 hm5;simp only [bvV];go_wp2;refine mD_ ⟨⟨aGR (T:=30) (cs:=[.bool false,.slice a5 (zd ((sumq t 3:Nat):Int)).length c5]) rfl rfl rfl Tryz.underlying30 rfl k_ (fun j v hj=>?rng3) rfl,trivial⟩,?_⟩;case rng3 =>rw [Nat.zero_add,hEC Hsb.out,← hj];exact (Array.getElem?_toList (xs:=#[Value.bool false,.slice a5 (zd ((sumq t 3:Nat):Int)).length c5])).symm
   go_wp2_with fail;refine (Add_z HSU.out HB5.out (sumq_zok hn HFu.out o_) (pop_zok o_ (HFu.out 3 o_)) (by rw [← Int.natCast_add];exact sumq_zok (q:=3+1) hn HFu.out o_)).mono ?_;rintro e w6 ⟨v7,rfl,hb7,hf⟩;rw [← Int.natCast_add] at hb7;obtain⟨a7,c7,rfl,h7⟩:=has_big (z:=((sumq t (3+1):Nat):Int)) H5.out.f3.drop hf hb7 (sumq_zok (q:=3+1) hn HFu.out o_);rw [show decide (((sumq t (3+1):Nat):Int)<0)=false by simp] at h7 ⊢;obtain⟨S,hS⟩:∃ S,sumq t (3+1)=S:=⟨_,rfl⟩;have HE:=q_ (show Has W _ (cntL ob b cb rb s ns mm6 (bigR false (zd ((sumq t (3+1):Nat):Int)) a7 c7::Hp.blk s7 (.cells #[.bool false,.slice a7 (zd ((sumq t (3+1):Nat):Int)).length c7] 30 (0,0))::Hp.blk r4 (.cells #[.bool false,.slice none 0 0] 30 (0,0))::Ps)) from
    (hST (hST h7.f4 0 (.bool false)) 1 (.slice a7 (zd ((sumq t (3+1):Nat):Int)).length c7)).swap.f4.f4.f4)
   rw [hS] at HE h7 ⊢;have HSS:=q_ hS;have hsb:=h7.f4.blk;clear s0 s1 sl sz0 sz1 hS;obtain⟨s0,s1,sl⟩:=l2_ hsb;have sz0:=hEF hsb 0;have sz1:=hEF hsb 1;clear h7 hf hb7 hsb;go_wp2;refine mD_ ⟨trivial,sT_ rfl ?_⟩;go_wp2;go_roundw;case rel=>exact⟨4,rfl,(.inr (.inr (.inr (.inr ⟨rfl,_,_,_,(by rw [HSS.out];exact HE.out)⟩))))⟩
   case measure=>simp [intOf]
  ·rw [show sumq t 4=V from HPOP.out.symm] at h;have h:=h.f5.f5.f4.f5.f4;have hcb:=h.f5.blk;have c0:=cnt0 ho hcb;have c1:=cnt1 ho hcb;have cl:=lBk hcb;have hsb:=h.f3.blk;obtain⟨s0,s1,sl⟩:=l2_ hsb;have H4:=q_ h;clear h hcb hsb;go_wp2;(refine wT ?_);go_wp2_with (at_mapUpdate;refine upd_pop (id:=id) (V:=V) (a:=a5) (c:=c5) rfl rfl rfl rfl rfl (H4.out.step (Fr.t)) HT.out ?_);clear c0 c1 cl s0 s1 sl;intro w8 h5;have hsb:=h5.f2.blk;have hr4:=h5.f3.blk;obtain⟨s0,s1,sl⟩:=l2_ hsb;obtain⟨r0,r1⟩:=e2_ hr4;have rz0:=hEF hr4 0;have rz1:=hEF hr4 1;have rl:=lBk hr4;have H5:=q_ h5;clear h5 hsb hr4 H4;go_wp2;refine sT_ rfl ?_;go_wp2;refine bodyPost_ret (big_result1 rfl (b:=r4) (x:=.bool false) (y:=.slice a5 (zd (V:Int)).length c5) rfl ?_) rfl ⟨a5,c5,put mm5 id (V,a5,c5),rfl,?_,?_⟩;·exact (hST (hST H5.out.f3 0 (.bool false)) 1 (.slice a5 (zd (V:Int)).length c5)).blk
   ·exact ((hST (hST H5.out.f3 0 (.bool false)) 1 (.slice a5 (zd (V:Int)).length c5)).drop.f2.drop.f2).swap
   ·exact mem_put_self _ _ _
theorem count_q {W:World} {ob:Obj} {b cb rb:Nat} (ho:CntO b rb ob) {s:Int} {ns:List K4}:∀ n:Nat,n≤256→CountAt ob W b cb rb s ns n:=by
 intro n
 induction n with
 | zero =>
  intro _ w Ps mm id t h hi;cases hg:get? mm id with
  | some p=>exact count_hit ho h hi hg
  | none=>exact count_leaf ho h hi hg
 | succ n ih =>
  intro hn w Ps mm id t h hi;cases hg:get? mm id with
  | some p=>exact count_hit ho h hi hg
  | none=>exact count_node ho hn (ih o_) h hi hg
theorem zd0:zd ((0:Nat):Int)=[]:=by simp [zd,dg_zero]
theorem zero_in (w:World):BigIn w false (zd ((0:Nat):Int)) none 0:=by rw [zd0];exact⟨⟨rfl,none,0,rfl,fun h=>by simp at h⟩,Dig.nil,i_,i_⟩
theorem has_zero {W w:World} {Ps:List Res} (h:Has W w Ps):Has W w (bigR false (zd ((0:Nat):Int)) none 0::Ps) :=
 h.new (Fr.refl [] w) (F:=[]) ⟨zero_in w,by rw [zd0];rfl⟩ i_
theorem has_popmap {W w:World} {s:Int} {ns:List K4} {Ps:List Res} (h:Has W w Ps):Has W (w.alloc (.map #[] 0)) (popR w.heap.size s ns []::Ps) :=
 h.new (F:=[w.heap.size]) ((Fr.refl [] w).alloc _) ⟨MapIs.made w,i_,i_⟩ i_
theorem has_counter {W w:World} {b:Nat} {s:Int} {ns:List K4} {Ps:List Res} (h:Has W w (sTR b s ns::Ps)):Has W ((w.alloc (.map #[] 0)).alloc (.cells #[.pointer (some ⟨b,0,none⟩),.map (some w.heap.size)] 164 (0,0))) (cntL (.cells #[.pointer (some ⟨b,0,none⟩),.map (some w.heap.size)] 164 (0,0)) b (w.heap.size+1) w.heap.size s ns [] Ps):=by have h2:=(hAL (has_popmap (s:=s) (ns:=ns) h) #[.pointer (some ⟨b,0,none⟩),.map (some w.heap.size)] 164).swap;rw [show (w.alloc (.map #[] 0)).heap.size=w.heap.size+1 by simp] at h2;exact h2
def popQ (s:Int) (ns:List K4) (id:Int):Nat:=if lvl s (levs s ns) id<0 then 0 else popT (tr s ns id)
theorem Population_q {W w:World} {b:Nat} {s:Int} {ns:List K4} {Ps:List Res} (h:Has W w (sTR b s ns::Ps)) (id:Int) :
  Calls Tryz.prog 68 #[.pointer (some ⟨b,0,none⟩),.int .i64 id] w fun e w' =>
   ∃ a c,e=.returned (.tuple #[bvV (popQ s ns id,a,c),.int .i64 (kQ_ s ns id)])∧Has W w' (sTR b s ns::bigR false (zd ((popQ s ns id:Nat):Int)) a c::Ps):=by
 have hg:=has_good h;have HN:=q_ (fun w1 Qs (h1:Has W w1 (sTR b s ns::Qs))=>known_q h1 id);have H:=q_ h;unfold kQ_ at HN;unfold kQ_ popQ;by_cases h0:lvl s (levs s ns) id<0;·
  simp only [if_pos h0] at HN ⊢;clear h hg;go_enter Tryz.func68,Tryz.ntmps68;go_wp2_with fail;have h1:=(hAL H.out #[.bool false,.slice none 0 0] 30).swap;refine (HN.out _ _ h1).mono ?_;rintro e w1 ⟨rfl,hs,hf⟩;obtain⟨r4,hr4⟩:∃ r4,w.heap.size=r4:=⟨_,rfl⟩;rw [hr4] at hs ⊢;have hr:=hs.swap.blk;obtain⟨r0,r1⟩:=e2_ hr;have rz0:=hEF hr 0;have rz1:=hEF hr 1;have rl:=lBk hr;have H1:=q_ hs;clear hs hf hr h1 hr4;go_wp2;refine bodyPost_ret (bRS rfl (b:=r4) (x:=.bool false) (y:=.slice none 0 0) rfl ?_ rfl) rfl ⟨none,0,?_,?_⟩;·exact (hST (hST H1.out.swap 0 (.bool false)) 1 (.slice none 0 0)).blk
  ·simp only [bvV,zd0];rfl
  ·exact (has_zero (hST (hST H1.out.swap 0 (.bool false)) 1 (.slice none 0 0)).drop).swap
 ·simp only [if_neg h0] at HN ⊢;obtain⟨n,hn,hn256,hi⟩:=level_nat hg (id:=id) o_;obtain⟨V,hV⟩:∃ V,popT (tr s ns id)=V:=⟨_,rfl⟩;rw [hV];have HC:=q_ (fun cb rb w1 Qs mm (h1:Has W w1 (cntL (.cells #[.pointer (some ⟨b,0,none⟩),.map (some rb)] 164 (0,0)) b cb rb s ns mm Qs))=>hV▸count_q (W:=W) (ob:=.cells #[.pointer (some ⟨b,0,none⟩),.map (some rb)] 164 (0,0)) ⟨_,_,rfl,rfl,rfl⟩ n hn256 w1 Qs mm id _ h1 hi);clear h hg h0 hn hn256 hi hV;have hmm:=@run_makeMap Tryz.prog;go_enter Tryz.func68,Tryz.ntmps68;go_wp2_with fail;have h1:=(hAL H.out #[.bool false,.slice none 0 0] 30).swap;refine (HN.out _ _ h1).mono ?_;rintro e w1 ⟨rfl,hs,hf⟩;obtain⟨r4,hr4⟩:∃ r4,w.heap.size=r4:=⟨_,rfl⟩;rw [hr4] at hs ⊢;have hr:=hs.swap.blk;obtain⟨r0,r1⟩:=e2_ hr;have rz0:=hEF hr 0;have rz1:=hEF hr 1;have rl:=lBk hr;have H1:=q_ hs;clear hs hf hr h1 hr4;go_wp2_with fail;have h2:=has_counter H1.out;refine (HC.out _ _ _ _ _ h2).mono ?_;rintro e w2 ⟨a5,c5,mm5,rfl,h5,hm5⟩;have h5:=(cnt_take h5 hm5).swap.drop.f2;have hr:=h5.blk;clear r0 r1 rz0 rz1 rl h2;obtain⟨r0,r1⟩:=e2_ hr;have rz0:=hEF hr 0;have rz1:=hEF hr 1;have rl:=lBk hr;have H5:=q_ h5;clear h5 hm5 hr;simp only [bvV];go_wp2;refine bodyPost_ret (bRS rfl (b:=r4) (x:=.bool false) (y:=.slice a5 (zd (V:Int)).length c5) rfl ?_ rfl) rfl ⟨a5,c5,rfl,?_⟩;·exact (hST (hST H5.out 0 (.bool false)) 1 (.slice a5 (zd (V:Int)).length c5)).blk
  ·exact (hST (hST H5.out 0 (.bool false)) 1 (.slice a5 (zd (V:Int)).length c5)).drop.swap
open Uni
structure UP where
 r:Rule
 hv:Value
 nv:Value
 ub:Nat
 mb:Nat
 sb:Nat
 rb:Nat
 root:Int
 G:Nat
 ga:Option Addr
 gc:Nat
def ucells (U:UP):Array Value:=#[.int .i64 U.r.S,U.hv,U.nv,.pointer (some ⟨U.sb,0,none⟩),.pointer (some ⟨U.mb,0,none⟩),.int .i64 U.root,.bool false,.slice U.ga (zd (U.G:Int)).length U.gc]
def ublk (U:UP):Res:=Hp.blk U.ub (.cells (ucells U) 85 (0,0))
def uniL (U:UP) (ns:List K4) (mm:List ((Int×Int)×Int)) (Ps:List Res):List Res :=
 memoL U.r U.hv U.nv U.mb U.sb U.rb ns mm (ublk U::bigR false (zd (U.G:Int)) U.ga U.gc::Ps)
theorem uS_ {W w:World} {U:UP} {ns:List K4} {mm:List ((Int×Int)×Int)} {Ps:List Res} (h:Has W w (uniL U ns mm Ps)):Has W w (sTR U.sb U.r.S ns::mapR U.rb mm::Hp.blk U.mb (.cells (mcells U.r U.hv U.nv U.sb U.rb) 140 (0,0))::ublk U::bigR false (zd (U.G:Int)) U.ga U.gc::Ps):=h
theorem uni_blk {W w:World} {U:UP} {ns:List K4} {mm:List ((Int×Int)×Int)} {Ps:List Res} (h:Has W w (uniL U ns mm Ps)):Has W w (ublk U::sTR U.sb U.r.S ns::mapR U.rb mm::Hp.blk U.mb (.cells (mcells U.r U.hv U.nv U.sb U.rb) 140 (0,0))::bigR false (zd (U.G:Int)) U.ga U.gc::Ps):=(uS_ h).f3
theorem uC_ {W w:World} {U:UP} {ns:List K4} {mm:List ((Int×Int)×Int)} {Ps:List Res} (h:Has W w (uniL U ns mm Ps)) :
  (w.cell? ⟨U.ub,0,none⟩=some (.int .i64 U.r.S)∧w.cell? ⟨U.ub,1,none⟩=some U.hv∧w.cell? ⟨U.ub,2,none⟩=some U.nv)∧w.cell? ⟨U.ub,3,none⟩=some (.pointer (some ⟨U.sb,0,none⟩))∧w.cell? ⟨U.ub,4,none⟩=some (.pointer (some ⟨U.mb,0,none⟩))∧w.cell? ⟨U.ub,5,none⟩=some (.int .i64 U.root) ∧
   (w.cell? ⟨U.ub,6,none⟩=some (.bool false)∧w.cell? ⟨U.ub,7,none⟩=some (.slice U.ga (zd (U.G:Int)).length U.gc))∧U.ub<w.heap.size:=by
 obtain⟨h1,_,h3⟩:=hCE (uni_blk h);exact⟨⟨h1 0,h1 1,h1 2⟩,h1 3,h1 4,h1 5,⟨h1 6,h1 7⟩,h3⟩
theorem expand_u {W w:World} {U:UP} {ns:List K4} {mm:List ((Int×Int)×Int)} {Ps:List Res} (h:Has W w (uniL U ns mm Ps)) {id:Int} {m n:Nat} {F:Fld} (hi:Is U.r.S ns (n+1) id (mid n F)) (hF:Inside n F) (hn:n+m+1≤250) (hl:ns.length+300*m≤88000) :
  Calls Tryz.prog 52 #[.pointer (some ⟨U.ub,0,none⟩),.int .i64 id,.int .i64 m] w fun e w' =>
   ∃ x ns',e=.returned (.tuple #[.int .i64 x,.int .i64 0])∧Has W w' (uniL U ns' mm Ps)∧ns <+: ns'∧ns'.length≤ns.length+300*m∧Is U.r.S ns' (n+m+1) x (mid (n+m) F):=by
 have H0:=q_ h;have HI:=q_ hi;have HFF:=q_ hF;have HN:=q_ (And.intro hn hl);have hm6:m≤250:=o_
 clear hi hF hn hl h;go_enter Tryz.func52,Tryz.ntmps52;go_wp2;go_loopg [1,11] m (fun gg y z wr=>∃ (k:Nat) (x:Int) (ns':List K4),k≤m∧m - k≤gg∧y=.int .i64 x∧z=.int .i64 (k:Int)∧Hid (Has W wr (uniL U ns' mm Ps))∧Hid (ns <+: ns'∧ns'.length≤ns.length+300*k∧Is U.r.S ns' (n+k+1) x (mid (n+k) F)));case atStart=>exact⟨0,id,ns,o_,o_,rfl,rfl,H0,q_ ⟨List.prefix_refl _,o_,HI.out⟩⟩
 case round =>
  obtain⟨k,x,ns',hk,hgg,rfl,rfl,H,HS⟩:=hrel;clear H0;obtain⟨_,u3,_,_,_,ul⟩:=uC_ H.out;by_cases hkm:k<m;·
   obtain⟨x',ms,hq,hg',hp',hl',hi'⟩:=expand_mid (has_good (uS_ H.out)) (by have:=HN.out;have:=HS.out.2.1;omega) HS.out.2.2 (HFF.out.more o_) (by have:=HN.out;omega);have HE:=q_ (Expand_q (uS_ H.out) x);rw [hq] at HE;have HG:=q_ (And.intro hp' (And.intro hl' hi'));have hlt:k<m:=hkm;clear hq hg' hp' hl' hi' hkm;go_wp2_with fail;refine (HE.out).mono ?_;rintro e w5 ⟨rfl,h5⟩;have H5:=q_ h5;clear h5 HE u3 ul;go_wp2;go_roundg (m - (k+1));case measure=>omega
   case rel=>exact⟨k+1,x',ms,o_,Nat.le_refl _,rfl,i_,q_ H5.out,q_ ⟨HS.out.1.trans HG.out.1,by have:=HG.out.2.1;have:=HS.out.2.1;omega,by have:=HG.out.2.2;exact this⟩⟩
  ·obtain rfl:k=m:=o_;go_wp2;go_ret2;first|exact⟨x,ns',rfl,H.out,HS.out⟩|exact⟨x,rfl,ns',H.out,HS.out⟩
theorem centre_u {W w:World} {U:UP} {ns:List K4} {mm:List ((Int×Int)×Int)} {Ps:List Res} (h:Has W w (uniL U ns mm Ps)) {id:Int} {F:Fld} (hi:Is U.r.S ns 206 id (mid 205 F)) (hl:ns.length≤89000) :
  Calls Tryz.prog 57 #[.pointer (some ⟨U.ub,0,none⟩),.int .i64 id] w fun e w' =>
   ∃ x ns',e=.returned (.tuple #[.int .i64 x,.int .i64 0])∧Has W w' (uniL U ns' mm Ps)∧ns <+: ns'∧ns'.length≤ns.length+5∧Is U.r.S ns' 201 x (mid 200 F):=by
 have H0:=q_ h;have HI:=q_ hi;have HN:=q_ hl;clear hi hl h;go_enter Tryz.func57,Tryz.ntmps57;go_wp2;go_loopg [1,8] 5 (fun gg y z wr=>∃ (k j:Nat) (x:Int) (ns':List K4),k+j=5∧j≤gg∧y=.int .i64 x∧z=.int .i64 (k:Int)∧Hid (Has W wr (uniL U ns' mm Ps))∧Hid (ns <+: ns'∧ns'.length≤ns.length+k∧Is U.r.S ns' (201+j) x (mid (200+j) F)));case atStart=>exact⟨0,5,id,ns,o_,o_,rfl,rfl,H0,q_ ⟨List.prefix_refl _,o_,HI.out⟩⟩
 case round =>
  obtain⟨k,j,x,ns',hk,hgg,rfl,rfl,H,HS⟩:=hrel;clear H0;obtain⟨_,u3,_,_,_,ul⟩:=uC_ H.out;rcases j with _|j
  ·obtain rfl:k=5:=o_;go_wp2;go_ret2;first|exact⟨x,ns',rfl,H.out,HS.out⟩|exact⟨x,rfl,ns',H.out,HS.out⟩
  ·obtain⟨x',ms,hq,hg',hp',hl',hi'⟩:=centre_mid (n:=200+j) (has_good (uS_ H.out)) (by have:=HN.out;have:=HS.out.2.1;omega) (by have:=HS.out.2.2;rwa [show 201+(j+1)=200+j+2 by omega] at this) o_;have HE:=q_ (Centre_q (uS_ H.out) x);rw [hq] at HE;have HG:=q_ (And.intro hp' (And.intro hl' hi'));have hlt:k<5:=o_;clear hq hg' hp' hl' hi';go_wp2_with fail;refine (HE.out).mono ?_;rintro e w5 ⟨rfl,h5⟩;have H5:=q_ h5;clear h5 HE u3 ul;go_wp2;go_roundg j;case measure=>omega
   case rel=>exact⟨k+1,j,x',ms,o_,Nat.le_refl _,rfl,i_,q_ H5.out,q_ ⟨HS.out.1.trans HG.out.1,by have:=HG.out.2.1;have:=HS.out.2.1;omega,by have:=HG.out.2.2;rwa [show 200+j+1=201+j by omega] at this⟩⟩
theorem try_set {w:World} {u:Value} {id:Int} {p q s t:Value} {Q:Int→World→Prop}
  (hc:Calls Tryz.prog 93 #[.int .i64 id,p,q,s,t] w fun e w'=>∃ r,e=.returned (.tuple #[.int .i64 r,.int .i64 0])∧Q r w') :
  Calls Tryz.prog 50 #[u,.int .i64 id,.func (.func 93) #[] #[p,q,s,t]] w fun e w'=>∃ r,e=.returned (.tuple #[.int .i64 r,.int .i64 0])∧Q r w':=by
 have HC:=q_ hc;clear hc;go_enter Tryz.func50,Tryz.ntmps50;go_wp2_with fail;refine HC.out.mono ?_;rintro e w1 ⟨r,rfl,hQ⟩;have HQ:=q_ hQ;clear hQ HC;go_wp2;go_ret2;first|exact⟨r,rfl,HQ.out⟩|exact HQ.out
theorem try_run1 {w:World} {u:Value} {id:Int} {p:Value} {Q:Int→World→Prop}
  (hc:Calls Tryz.prog 51 #[.int .i64 id,p] w fun e w'=>∃ r,e=.returned (.tuple #[.int .i64 r,.int .i64 0])∧Q r w') :
  Calls Tryz.prog 50 #[u,.int .i64 id,.func (.func 51) #[] #[p]] w fun e w'=>∃ r,e=.returned (.tuple #[.int .i64 r,.int .i64 0])∧Q r w':=by
 have HC:=q_ hc;clear hc;go_enter Tryz.func50,Tryz.ntmps50;go_wp2_with fail;refine HC.out.mono ?_;rintro e w1 ⟨r,rfl,hQ⟩;have HQ:=q_ hQ;clear hQ HC;go_wp2;go_ret2;first|exact⟨r,rfl,HQ.out⟩|exact HQ.out
theorem try_run2 {w:World} {u:Value} {id:Int} {p q:Value} {Q:Int→World→Prop}
  (hc:Calls Tryz.prog 54 #[.int .i64 id,p,q] w fun e w'=>∃ r,e=.returned (.tuple #[.int .i64 r,.int .i64 0])∧Q r w') :
  Calls Tryz.prog 50 #[u,.int .i64 id,.func (.func 54) #[] #[p,q]] w fun e w'=>∃ r,e=.returned (.tuple #[.int .i64 r,.int .i64 0])∧Q r w':=by
 have HC:=q_ hc;clear hc;go_enter Tryz.func50,Tryz.ntmps50;go_wp2_with fail;refine HC.out.mono ?_;rintro e w1 ⟨r,rfl,hQ⟩;have HQ:=q_ hQ;clear hQ HC;go_wp2;go_ret2;first|exact⟨r,rfl,HQ.out⟩|exact HQ.out
theorem try_centre {w:World} {u:Value} {id:Int} {p:Value} {Q:Int→World→Prop}
  (hc:Calls Tryz.prog 57 #[p,.int .i64 id] w fun e w'=>∃ r,e=.returned (.tuple #[.int .i64 r,.int .i64 0])∧Q r w') :
  Calls Tryz.prog 50 #[u,.int .i64 id,.func (.func 57) #[p] #[]] w fun e w'=>∃ r,e=.returned (.tuple #[.int .i64 r,.int .i64 0])∧Q r w':=by
 have HC:=q_ hc;clear hc;go_enter Tryz.func50,Tryz.ntmps50;go_wp2_with fail;refine HC.out.mono ?_;rintro e w1 ⟨r,rfl,hQ⟩;have HQ:=q_ hQ;clear hQ HC;go_wp2;go_ret2;first|exact⟨r,rfl,HQ.out⟩|exact HQ.out
end Go.Proofs.YtebolidfbflkmaaGreat
end
