/- Own texts of this claim, part 20: no condition. -/
import Derived.Test.YtebolidfbflkmaaGreatZN12
import Derived.Test.YtebolidfbflkmaaGreatZN18
set_option linter.unusedVariables false
set_option linter.unusedSimpArgs false
section
namespace Go.Proofs.Ev
open Qs
def pos16 (j:Nat):Nat:=4*(j / 8*2+j % 4 / 2)+(j / 4 % 2*2+j % 2)
def idx16 (m:Nat):Nat:=(m / 4 / 2*2+m % 4 / 2)*4+(m / 4 % 2*2+m % 4 % 2)
theorem idx16_lt:∀ m,m<16→idx16 m<16:=by decide
theorem pos16_step:∀ m,m<16→∀ j,j<16→(pos16 j<m+1↔pos16 j<m∨j=idx16 m):=by decide
theorem pos16_lt:∀ j,j<16→pos16 j<16:=by decide
def tab16 (G:Nat→Int) (m:Nat):List Int:=(List.range 16).map fun j=>if pos16 j<m then G j else 0
theorem tab16_get {G:Nat→Int} {m j:Nat} (h:j<16):(tab16 G m)[j]?=some (if pos16 j<m then G j else 0):=by simp [tab16,h]
theorem tab16_set {G:Nat→Int} {m:Nat} (hm:m<16):(tab16 G m).set (idx16 m) (G (idx16 m))=tab16 G (m+1):=by
 apply List.ext_getElem?;intro i;rw [List.getElem?_set];have hx:=idx16_lt m hm;by_cases hi:i<16;·
  have hp:=pos16_step m hm i hi;rw [tab16_get hi,tab16_get hi];by_cases h:idx16 m=i;·
   subst h;rw [if_pos rfl,if_pos (by simp [tab16];exact hx),if_pos (hp.2 (.inr rfl))]
  ·rw [if_neg h];by_cases h2:pos16 i<m;·rw [if_pos h2,if_pos (hp.2 (.inl h2))]
   ·rw [if_neg h2,if_neg fun h3=>by rcases hp.1 h3 with h4|h4;exact h2 h4;exact h h4.symm]
 ·rw [if_neg o_,List.getElem?_eq_none (by simp [tab16];omega),List.getElem?_eq_none (by simp [tab16];omega)]
end Go.Proofs.Ev
namespace Go.Proofs.Hp
open Go Go.RowKit
theorem Has.back4 {W w:World} {A B C D:Res} {Ps:List Res} (h:Has W w (D::A::B::C::Ps)):Has W w (A::B::C::D::Ps) :=
 h.perm (((List.Perm.swap A D (B::C::Ps))).trans (((List.Perm.swap B D (C::Ps)).trans ((List.Perm.swap C D Ps).cons B)).cons A))
theorem Has.fifth {W w:World} {A B C D E:Res} {Ps:List Res} (h:Has W w (A::B::C::D::E::Ps)):Has W w (A::B::C::E::D::Ps) :=
 h.perm ((((List.Perm.swap E D Ps).cons C).cons B).cons A)
end Go.Proofs.Hp
namespace Go.Proofs.YtebolidfbflkmaaGreat
open Go Go.RowKit Rg Mp Hp Qs Ev
def mcells (r:Rule) (hv nv:Value) (sb rb:Nat):Array Value:=#[.int .i64 r.S,hv,nv,.pointer (some ⟨sb,0,none⟩),.map (some rb),.int .i64 (lostOf (radius r.hood):Nat)]
def memoL (r:Rule) (hv nv:Value) (mb sb rb:Nat) (ns:List K4) (mm:List ((Int×Int)×Int)) (Ps:List Res):List Res :=
 sTR sb r.S ns::mapR rb mm::Hp.blk mb (.cells (mcells r hv nv sb rb) 140 (0,0))::Ps
def Kept (r:Rule) (ns:List K4) (mm:List ((Int×Int)×Int)):Prop :=
 ∀ id k v,get? mm (id,k)=some v→∃ n t,Is r.S ns n id t∧2≤n∧0≤k∧Is r.S ns (n - 1) v (stp (gen r) n k.toNat t)
def Keeps (mm mm':List ((Int×Int)×Int)):Prop:=∀ key v,get? mm key=some v→get? mm' key=some v
theorem Keeps.refl (mm:List ((Int×Int)×Int)):Keeps mm mm:=fun _ _ h=>h
theorem Keeps.trans {a b c:List ((Int×Int)×Int)} (h:Keeps a b) (k:Keeps b c):Keeps a c:=fun key v hv=>k key v (h key v hv)
theorem Kept.grow {r:Rule} {ns ms:List K4} {mm:List ((Int×Int)×Int)} (h:Kept r ns mm) (hp:ns <+: ms):Kept r ms mm:=fun id k v hv=>by obtain⟨n,t,h1,h2,h3,h4⟩:=h id k v hv;exact⟨n,t,h1.grow hp,h2,h3,h4.grow hp⟩
def PartPost (W:World) (r:Rule) (hv nv:Value) (mb sb rb:Nat) (L:List Tr) (ns:List K4) (mm:List ((Int×Int)×Int)) (n:Nat) (T:Tr) (Ps:List Res) (e:Ending) (w':World):Prop :=
 ∃ res ns' mm',e=.returned (.tuple #[.int .i64 res,.int .i64 0])∧Has W w' (memoL r hv nv mb sb rb ns' mm' Ps)∧ns <+: ns'∧room r.S ns' L∧Kept r ns' mm'∧Is r.S ns' (n - 1) res T∧Keeps mm mm'
def StepPost (W:World) (r:Rule) (hv nv:Value) (mb sb rb:Nat) (L:List Tr) (ns:List K4) (mm:List ((Int×Int)×Int)) (n k:Nat) (id:Int) (T:Tr) (Ps:List Res) (e:Ending) (w':World):Prop :=
 ∃ res ns' mm',e=.returned (.tuple #[.int .i64 res,.int .i64 0])∧Has W w' (memoL r hv nv mb sb rb ns' mm' Ps)∧ns <+: ns'∧room r.S ns' L∧Kept r ns' mm'∧Is r.S ns' (n - 1) res T∧Keeps mm mm'∧get? mm' (id,k)=some res∧∀ v,get? mm (id,k)=some v→res=v∧ns'=ns
def RuleSrc (W:World) (hv nv:Value) (r:Rule) (Ps:List Res):Prop:=∀ (w:World) (Qs:List Res),Has W w Qs→(∀ P∈Ps,P∈Qs)→RuleAt w hv nv r
theorem RuleSrc.more {W:World} {hv nv:Value} {r:Rule} {Ps Qs:List Res} (h:RuleSrc W hv nv r Ps) (hs:∀ P∈Ps,P∈Qs):RuleSrc W hv nv r Qs:=fun w Rs hw hm=>h w Rs hw fun P hP=>hm P (hs P hP)
theorem RuleSrc.base {W:World} {hv nv:Value} {r:Rule} {Ps:List Res} (h:RuleAt W hv nv r):RuleSrc W hv nv r Ps:=fun w Qs hw _=>h.fr hw.fr
def StepAt (W:World) (r:Rule) (hv nv:Value) (mb sb rb:Nat) (L:List Tr) (n:Nat):Prop :=
 ∀ (w:World) (Ps:List Res) (ns:List K4) (mm:List ((Int×Int)×Int)) (id:Int) (k:Nat) (t:Tr),Has W w (memoL r hv nv mb sb rb ns mm Ps)→room r.S ns L→Kept r ns mm→Is r.S ns n id t→lostOf (radius r.hood)≤n→k≤n - lostOf (radius r.hood) →
  (∀ u∈need (gen r) (lostOf (radius r.hood)) n k t,u∈L)→RuleSrc W hv nv r Ps→Calls Tryz.prog 100 #[.pointer (some ⟨mb,0,none⟩),.int .i64 id,.int .i64 n,.int .i64 k] w (StepPost W r hv nv mb sb rb L ns mm n k id (stp (gen r) n k t) Ps)
theorem StepAt.run {W:World} {r:Rule} {hv nv:Value} {mb sb rb:Nat} {L:List Tr} {n:Nat} (hst:StepAt W r hv nv mb sb rb L n) {w:World} {Ps:List Res} {ns:List K4} {mm:List ((Int×Int)×Int)} {id:Int} {k:Nat} {t:Tr} {z1 z2:Int} (e1:z1=n) (e2:z2=k)
  (h:Has W w (memoL r hv nv mb sb rb ns mm Ps)) (h1:room r.S ns L) (h2:Kept r ns mm) (h3:Is r.S ns n id t) (h4:lostOf (radius r.hood)≤n) (h5:k≤n - lostOf (radius r.hood)) (h6:∀ u∈need (gen r) (lostOf (radius r.hood)) n k t,u∈L) (h7:RuleSrc W hv nv r Ps) :
  Calls Tryz.prog 100 #[.pointer (some ⟨mb,0,none⟩),.int .i64 id,.int .i64 z1,.int .i64 z2] w (StepPost W r hv nv mb sb rb L ns mm n k id (stp (gen r) n k t) Ps):=by
 subst e1;subst e2;exact hst w Ps ns mm id k t h h1 h2 h3 h4 h5 h6 h7
theorem mC_ {W w:World} {r:Rule} {hv nv:Value} {mb sb rb:Nat} {ns:List K4} {mm:List ((Int×Int)×Int)} {Ps:List Res} (h:Has W w (memoL r hv nv mb sb rb ns mm Ps)) :
  w.cell? ⟨mb,0,none⟩=some (.int .i64 r.S)∧w.cell? ⟨mb,1,none⟩=some hv∧w.cell? ⟨mb,2,none⟩=some nv∧w.cell? ⟨mb,3,none⟩=some (.pointer (some ⟨sb,0,none⟩))∧w.cell? ⟨mb,4,none⟩=some (.map (some rb))∧w.cell? ⟨mb,5,none⟩=some (.int .i64 (lostOf (radius r.hood):Nat))∧mb<w.heap.size:=by
 obtain⟨h1,_,h3⟩:=hCE (h.drop.drop);exact⟨h1 0,h1 1,h1 2,h1 3,h1 4,h1 5,h3⟩
theorem tab_set_has {W w:World} {b m:Nat} {G:Nat→Int} {T:TypeId} {Ps:List Res} (h:Has W w (Hp.blk b (.cells (iv (tab16 G m)).toArray T (0,0))::Ps)) (hm:m<16) {v:Int} {j:Nat} (hj:j=idx16 m) (hv:v=G j):Has W (w.setCell ⟨b,j,none⟩ (.int .i64 v)) (Hp.blk b (.cells (iv (tab16 G (m+1))).toArray T (0,0))::Ps):=by subst hv;subst hj;have:=hST h (idx16 m) (.int .i64 (G (idx16 m)));rwa [show (iv (tab16 G m)).toArray.setIfInBounds (idx16 m) (.int .i64 (G (idx16 m)))=(iv (tab16 G (m+1))).toArray by rw [← tab16_set hm,← iv_set];simp] at this
theorem tab_cell {W w:World} {b m:Nat} {G:Nat→Int} {T:TypeId} {Ps:List Res} (h:Has W w (Hp.blk b (.cells (iv (tab16 G m)).toArray T (0,0))::Ps)) {j:Nat} (hj:j<16):w.cell? ⟨b,j,none⟩=some (.int .i64 (if pos16 j<m then G j else 0)):=by rw [(hCE h).1 j];have:=iv_get (tab16_get (G:=G) (m:=m) hj);simpa using this
def gtab (s:Int) (ns:List K4) (id:Int) (j:Nat):Int:=gid s ns id (j / 4) (j % 4)
structure InnerSt (W wr:World) (r:Rule) (hv nv:Value) (mb sb rb:Nat) (L:List Tr) (ns0:List K4) (mm0:List ((Int×Int)×Int)) (Ps:List Res) (n:Nat) (f:Nat→Nat→Tr) (ib cb:Nat) (id:Int) (ns:List K4) (mm:List ((Int×Int)×Int)) (I:List Int) (m:Nat):Prop where
 has:Has W wr (memoL r hv nv mb sb rb ns mm (Hp.blk ib (.cells (iv I).toArray 222 (0,0))::Hp.blk cb (.cells (iv (tab16 (gtab r.S ns0 id) 16)).toArray 220 (0,0))::Ps))
 len:I.length=9
 pre:ns0 <+: ns
 room:room r.S ns L
 kept:Kept r ns mm
 keeps:Keeps mm0 mm
 done:∀ j,j<m→Is r.S ns (n+1) (I.getD j 0) (f (j / 3) (j % 3))
theorem getD_set_same {I:List Int} {m:Nat} {v:Int} (h:m<I.length):(I.set m v).getD m 0=v:=by simp [List.getD_eq_getElem?_getD,h]
theorem getD_set_else {I:List Int} {m j:Nat} {v:Int} (h:j≠m):(I.set m v).getD j 0=I.getD j 0:=by simp [List.getD_eq_getElem?_getD,List.getElem?_set,Ne.symm h]
theorem iv_setIf (I:List Int) (m:Nat) (v:Int):(iv I).toArray.setIfInBounds m (.int .i64 v)=(iv (I.set m v)).toArray:=by rw [← iv_set];simp
theorem bC_ {W w:World} {b:Nat} {I:List Int} {T:TypeId} {Ps:List Res} (h:Has W w (Hp.blk b (.cells (iv I).toArray T (0,0))::Ps)) {j:Nat} (hj:j<I.length):w.cell? ⟨b,j,none⟩=some (.int .i64 (I.getD j 0)):=by rw [(hCE h).1 j];have:=iv_get (List.getElem?_eq_getElem hj);rw [List.getD_eq_getElem?_getD,List.getElem?_eq_getElem hj];simpa using this
section
variable {W wr:World} {r:Rule} {hv nv:Value} {mb sb rb:Nat} {L:List Tr} {ns0:List K4} {mm0:List ((Int×Int)×Int)} {Ps:List Res} {n:Nat} {f:Nat→Nat→Tr} {ib cb:Nat} {id:Int} {ns:List K4} {mm:List ((Int×Int)×Int)} {I:List Int} {m:Nat}
theorem InnerSt.cb_cell (h:InnerSt W wr r hv nv mb sb rb L ns0 mm0 Ps n f ib cb id ns mm I m) {y x:Nat} (hy:y<4) (hx:x<4):wr.cell? ⟨cb,y*4+x,none⟩=some (.int .i64 (gid r.S ns0 id y x)):=by have:=tab_cell (h.has.fourth.drop.fourth) (j:=y*4+x) o_;rw [if_pos (pos16_lt _ o_)] at this;rw [this];unfold gtab;rw [show (y*4+x) / 4=y by omega,show (y*4+x) % 4=x by omega]
theorem InnerSt.put {wr':World} {ns':List K4} {mm':List ((Int×Int)×Int)} (h:InnerSt W wr r hv nv mb sb rb L ns0 mm0 Ps n f ib cb id ns mm I m) (hm:m<9) {v:Int}
  (hh:Has W wr' (memoL r hv nv mb sb rb ns' mm' (Hp.blk ib (.cells (iv I).toArray 222 (0,0))::Hp.blk cb (.cells (iv (tab16 (gtab r.S ns0 id) 16)).toArray 220 (0,0))::Ps)))
  (hp:ns <+: ns') (hr:Qs.room r.S ns' L) (hk:Kept r ns' mm') (hks:Keeps mm mm') (hv':Is r.S ns' (n+1) v (f (m / 3) (m % 3))) :
  InnerSt W (wr'.setCell ⟨ib,m,none⟩ (.int .i64 v)) r hv nv mb sb rb L ns0 mm0 Ps n f ib cb id ns' mm' (I.set m v) (m+1) where
 has:=by have:=(hST hh.fourth m (.int .i64 v)).back4;rwa [iv_setIf] at this
 len:=by rw [List.length_set];exact h.len
 pre:=h.pre.trans hp
 room:=hr
 kept:=hk
 keeps:=h.keeps.trans hks
 done:=fun j hj=>by
  by_cases e:j=m;·
   subst e;rw [getD_set_same (by rw [h.len];exact hm)];exact hv'
  ·rw [getD_set_else e];exact (h.done j o_).grow hp
end
structure OutSt (W wr:World) (r:Rule) (hv nv:Value) (mb sb rb:Nat) (L:List Tr) (ns0:List K4) (mm0:List ((Int×Int)×Int)) (Ps:List Res) (n:Nat) (f:Nat→Nat→Tr) (ob ib cb:Nat) (id:Int) (ns1:List K4) (I:List Int) (ns:List K4) (mm:List ((Int×Int)×Int)) (O:List Int) (m:Nat):Prop where
 has:Has W wr (memoL r hv nv mb sb rb ns mm (Hp.blk ob (.cells (iv O).toArray 132 (0,0))::Hp.blk ib (.cells (iv I).toArray 222 (0,0))::Hp.blk cb (.cells (iv (tab16 (gtab r.S ns0 id) 16)).toArray 220 (0,0))::Ps))
 len:O.length=4
 pre:ns0 <+: ns
 room:Qs.room r.S ns L
 kept:Kept r ns mm
 keeps:Keeps mm0 mm
 pre1:ns1 <+: ns
 done:∀ j,j<m→Is r.S ns (n+1) (O.getD j 0) (f (j / 2) (j % 2))
section
variable {W wr:World} {r:Rule} {hv nv:Value} {mb sb rb:Nat} {L:List Tr} {ns0:List K4} {mm0:List ((Int×Int)×Int)} {Ps:List Res} {n:Nat} {f:Nat→Nat→Tr} {ob ib cb:Nat} {id:Int} {ns1:List K4} {I:List Int} {ns:List K4} {mm:List ((Int×Int)×Int)} {O:List Int} {m:Nat}
theorem OutSt.ib_has (h:OutSt W wr r hv nv mb sb rb L ns0 mm0 Ps n f ob ib cb id ns1 I ns mm O m):Has W wr (Hp.blk ib (.cells (iv I).toArray 222 (0,0))::sTR sb r.S ns::mapR rb mm::Hp.blk mb (.cells (mcells r hv nv sb rb) 140 (0,0))::Hp.blk cb (.cells (iv (tab16 (gtab r.S ns0 id) 16)).toArray 220 (0,0))::Ps):=h.has.fourth.drop.fourth
theorem OutSt.put {wr':World} {ns':List K4} {mm':List ((Int×Int)×Int)} (h:OutSt W wr r hv nv mb sb rb L ns0 mm0 Ps n f ob ib cb id ns1 I ns mm O m) (hm:m<4) {v:Int}
  (hh:Has W wr' (memoL r hv nv mb sb rb ns' mm' (Hp.blk ob (.cells (iv O).toArray 132 (0,0))::Hp.blk ib (.cells (iv I).toArray 222 (0,0))::Hp.blk cb (.cells (iv (tab16 (gtab r.S ns0 id) 16)).toArray 220 (0,0))::Ps)))
  (hp:ns <+: ns') (hr:Qs.room r.S ns' L) (hk:Kept r ns' mm') (hks:Keeps mm mm') (hv':Is r.S ns' (n+1) v (f (m / 2) (m % 2))) :
  OutSt W (wr'.setCell ⟨ob,m,none⟩ (.int .i64 v)) r hv nv mb sb rb L ns0 mm0 Ps n f ob ib cb id ns1 I ns' mm' (O.set m v) (m+1) where
 has:=by have:=(hST hh.fourth m (.int .i64 v)).back4;rwa [iv_setIf] at this
 len:=by rw [List.length_set];exact h.len
 pre:=h.pre.trans hp
 room:=hr
 kept:=hk
 keeps:=h.keeps.trans hks
 pre1:=h.pre1.trans hp
 done:=fun j hj=>by
  by_cases e:j=m;·
   subst e;rw [getD_set_same (by rw [h.len];exact hm)];exact hv'
  ·rw [getD_set_else e];exact (h.done j o_).grow hp
end
end Go.Proofs.YtebolidfbflkmaaGreat
end
