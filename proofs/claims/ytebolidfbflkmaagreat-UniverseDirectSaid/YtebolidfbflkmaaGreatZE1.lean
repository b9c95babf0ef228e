/- Own texts of this claim, part 2: no condition. -/
import Derived.Deep.MidRow
import Derived.Maps.OwnOps
import Derived.WalkKit
import Derived.WalkSpells
import Derived.WalkLawsBesides
import Derived.Deep.AppendLies
import Derived.Deep.Draws
import Derived.Laws.OwnMore
import Derived.Test.YtebolidfbflkmaaGreatRows
import Derived.Lib.Hide
import Derived.LoopN
import Derived.Laws.Bits64b
import Derived.Laws.BitsAllLaws
import Derived.WalkSmall
import Derived.WalkMore
import Derived.Test.YtebolidfbflkmaaGreatZE0
set_option linter.unusedVariables false
set_option linter.unusedSimpArgs false
set_option maxHeartbeats 16000000
set_option maxRecDepth 100000
theorem Go.RowKit.Hid.o {p:Prop}(h:Go.RowKit.Hid p):p:=h
namespace Go.Proofs.Rg
open Go
def again (P:Program) (ops:Array Oper) (k:Nat) (a:Act) (w:World):Prop :=
 ∀ o,ops[k]?=some o→Region.wanted o (yielded ops a.tmps)=true→∃ u,(execOp a.eval o).run P w=.ok (.value u) w∧(a.put o.dst u).tmps=a.tmps
def wpG (P:Program) (ops:Array Oper) (Q:Exit→Act→World→Prop) (chk:Nat→List Nat):List Nat→Act→World→Prop
 | [],a,w=>Q .normal a w
 | i::rest,a,w=>wpOp P ops Q i (fun a' w'=>(∀ k∈chk i,again P ops k a' w')∧wpG P ops Q chk rest a' w') a w
section
variable {P:Program} {ops:Array Oper} {K0:Act→World→Prop}
theorem put_put (a:Act) (d:Option Tmp) (v u:Value):(a.put d v).put d u=a.put d u:=by
 cases d with
 | none=>rfl
 | some d=>simp [Act.put]
theorem Rl {k:Nat} {o:Oper} (hk:ops[k]?=some o) {dst:Option Tmp} {v:Value} {a a':Act} {w:World} (ht:a'.tmps=(a.put dst v).tmps) (h1:∀ d,dst=some d→d∉o.looksAt ops) (h2:∀ d,dst=some d→o.dst≠some d)
  (hs:∀ cs b,o.op≠.select cs b):again P ops k a' w↔again P ops k a w:=by
 have he:execOp a'.eval o=execOp a.eval o:=execOp_congr o hs fun x hx=>by rw [E5 ht,Ib h1 hx]
 have hw:Region.wanted o (yielded ops a'.tmps)=Region.wanted o (yielded ops a.tmps):=by rw [ht,wanted_put o a dst v h1]
 have hput:∀ u,(a'.put o.dst u).tmps=((a.put dst v).put o.dst u).tmps:=fun u=>by
  cases hd:o.dst with
  | none=>exact ht
  | some d=>simp only [Act.put,ht]
 have key:∀ u,(a'.put o.dst u).tmps=a'.tmps↔(a.put o.dst u).tmps=a.tmps:=fun u=>by
  rw [hput,ht,Act.put_comm a v u h2];cases dst with
  | none=>exact Iff.rfl
  | some d =>
   cases hd:o.dst with
   | none=>exact⟨fun _=>rfl,fun _=>rfl⟩
   | some e =>
    have hne:d≠e:=fun q=>h2 d rfl (by rw [hd,q]);simp only [Act.put];constructor;·
     intro h;apply Array.ext_getElem?;intro i;by_cases hi:i=d;·
      subst hi;rw [Array.getElem?_setIfInBounds_ne (fun q=>hne q.symm)]
     ·have:=congrArg (fun x:Array Value=>x[i]?) h;rwa [Array.getElem?_setIfInBounds_ne (fun q=>hi q.symm),Array.getElem?_setIfInBounds_ne (xs:=a.tmps) (fun q=>hi q.symm)] at this
    ·intro h;rw [h]
 unfold again;constructor;·
  intro h o' ho' hw';obtain rfl:o=o':=Option.some.inj (hk.symm.trans ho');obtain⟨u,hr,hp⟩:=h o hk (by rw [hw];exact hw');exact⟨u,by rw [← he];exact hr,(key u).1 hp⟩
 ·intro h o' ho' hw';obtain rfl:o=o':=Option.some.inj (hk.symm.trans ho');obtain⟨u,hr,hp⟩:=h o hk (by rw [← hw];exact hw');exact⟨u,by rw [he];exact hr,(key u).2 hp⟩
theorem put_eq_of_tmps {a:Act} {d:Option Tmp} {v u:Value} (h:((a.put d v).put d u).tmps=(a.put d v).tmps):a.put d u=a.put d v:=by
 rw [put_put] at h;cases d with
 | none=>rfl
 | some d=>simp only [Act.put] at h ⊢;rw [h]
theorem put_through {i:Nat} {ox oi:Oper} {v:Value} (hi:ops[i]?=some oi) (hap:ox.apart ops oi=true) (hsi:∀ cs b,oi.op≠.select cs b) {R:Act→World→Prop} {a:Act} {w:World}
  (h:wpOp P ops (Strict ops K0) i R (a.put ox.dst v) w):wpOp P ops (Strict ops K0) i (fun a1 w1=>R (a1.put ox.dst v) w1) a w:=by
 obtain⟨h1,h2,h3⟩:=Oper.apart_spec hap;have comm:∀ (a:Act) u,(a.put ox.dst v).put oi.dst u=(a.put oi.dst u).put ox.dst v:=fun a u=>Act.put_comm a v u h2;cases hw:Region.wanted oi (yielded ops a.tmps) with
 | false =>
  have hw':Region.wanted oi (yielded ops (a.put ox.dst v).tmps)=false:=by rw [wanted_put oi a ox.dst v h1];exact hw
  unfold wpOp at h ⊢;simp only [hi,hw,hw',Bool.false_eq_true,if_false] at h ⊢;rw [← comm];exact h
 | true =>
  have hw':Region.wanted oi (yielded ops (a.put ox.dst v).tmps)=true:=by rw [wanted_put oi a ox.dst v h1];exact hw
  obtain⟨h,_⟩:=ran hi hw' h;unfold wpOp;simp only [hi,hw,if_true];refine .inl ?_;unfold Oper.wp;rw [execOp_put oi hsi a ox.dst v h1] at h;generalize (execOp a.eval oi).run P w=r at h ⊢;cases r with
  | ok n w' =>
   cases n<;>simp only [Oper.upon] at h ⊢;case value u=>rw [← comm];exact h
   case skip=>rw [← comm];exact h
   case defer d =>rw [← Act.put_comm _ v undef h2,← Act.put_defers];exact h
   case enter f args =>
    refine Calls.mono h fun e w'' he=>?_;cases e with
    | returned u=>simp only at he ⊢;rw [← comm];exact he
    | panicked c=>exact he
    | outgrown=>exact he
   case row row args=>exact Rows.mono h fun u w'' he=>by rw [← comm];exact he
  | halt x w' =>cases x<;>simp only [Oper.upon] at h ⊢;case panic u=>exact h
theorem Sb {o:Oper} {chk:Nat→List Nat} {j:Nat} (hj:ops[j]?=some o):∀ (l:List Nat) (a:Act) (w:World),wpG P ops (Strict ops K0) chk l a w →
  (∀ k∈l,∀ ok,ops[k]?=some ok→writes ok (o.looksAt ops)=false)→Aj ops o a=true
 | [],a,w,h,_=>by have h1:Sd ops a=true:=h.1;exact List.all_eq_true.1 h1 o (by simpa using Array.mem_of_getElem? hj)
 | k::l,a,w,h,hl=>by
  unfold wpG at h;cases hk:ops[k]? with
  | none =>unfold wpOp at h;simp only [hk] at h;exact Sb hj l a w h.2 fun z hz=>hl z (List.mem_cons_of_mem _ hz)
  | some ok =>obtain⟨v,a',w',ht,h'⟩:=Qp hk h;have:=Sb hj l a' w' h'.2 fun z hz=>hl z (List.mem_cons_of_mem _ hz);rw [Bq ht (Bm (hl k i_ ok hk))] at this;exact this
theorem ext_of {i:Nat} {oi:Oper} (hi:ops[i]?=some oi) (hc:cl P oi.op=.load∨cl P oi.op=.alloc) {R:Act→World→Prop} {a:Act} {w:World} (hd:Aj ops oi a=true) (h:wpOp P ops (Strict ops K0) i R a w) :
  wpOp P ops (Strict ops K0) i (fun a1 w1=>R a1 w1∧Ext w w1) a w:=by
 cases hw:Region.wanted oi (yielded ops a.tmps) with
 | false =>unfold wpOp at h ⊢;simp only [hi,hw,Bool.false_eq_true,if_false] at h ⊢;exact⟨h,Ext.refl _⟩
 | true =>
  obtain⟨h,n,w1,hr⟩:=ran hi hw h;have hg:Ext w w1∧∃ v,n=.value v:=by
   rcases hc with hc|hc
   ·obtain⟨hs,hv⟩:=Kj (P:=P) (ρ:=a.eval) hc (by simpa [Aj,hw] using hd);obtain⟨rfl,_⟩:=hs _ _ _ hr;exact⟨Ext.refl _,hv _ ⟨_,_,hr⟩⟩
   ·obtain⟨hs,hv⟩:=Py (P:=P) (ρ:=a.eval) hc;exact⟨hs _ _ _ hr,hv _ ⟨_,_,hr⟩⟩
  obtain⟨he,v,rfl⟩:=hg;unfold wpOp;simp only [hi,hw,if_true];refine .inl ?_;unfold Oper.wp;rw [hr] at h ⊢;exact⟨h,he⟩
theorem swapG {x i:Nat} {ox oi:Oper} (hx:ops[x]?=some ox) (hi:ops[i]?=some oi) (hap:ox.apart ops oi=true) (hsx:∀ cs b,ox.op≠.select cs b) (hsi:∀ cs b,oi.op≠.select cs b)
  {A B B' K:Act→World→Prop} (hcl:cl P ox.op=.pure∨cl P oi.op=.pure∨(cl P ox.op=.load∧(cl P oi.op=.load∨cl P oi.op=.alloc))∨(cl P ox.op=.load∧∀ a w,B a w→again P ops x a w))
  (hwx:B1 ox.op=true∨writes ox (ox.looksAt ops)=false) (hwi:B1 oi.op=true∨writes oi (oi.looksAt ops)=false) (hlx:cl P ox.op=.load→writes ox (ox.looksAt ops)=false)
  (hB:∀ a1 v w1,B (a1.put ox.dst v) w1→B' a1 w1) (hB2:cl P oi.op=.pure→∀ a w,B' a w) (hA1:cl P ox.op=.pure∨cl P ox.op=.load→∀ a w,A a w) (hA2:∀ a1 u w1,A a1 w1→A (a1.put oi.dst u) w1)
  (hK:∀ a w,K a w→Aj ops ox a=true∧Aj ops oi a=true) {a:Act} {w:World}
  (h:wpOp P ops (Strict ops K0) x (fun a w=>A a w∧wpOp P ops (Strict ops K0) i (fun a' w'=>B a' w'∧K a' w') a w) a w) :
  wpOp P ops (Strict ops K0) i (fun a' w'=>B' a' w'∧wpOp P ops (Strict ops K0) x (fun a'' w''=>A a'' w''∧K a'' w'') a' w') a w:=by
 obtain⟨h1,h2,h3⟩:=Oper.apart_spec hap;obtain⟨u,a1,w1,ht1,hr1⟩:=Qp hx h;obtain⟨v,a2,w2,ht2,hr2⟩:=Qp hi hr1.2;have hdx:Aj ops ox a=true:=by
  rcases hwx with hwx|hwx
  ·unfold Aj;rw [Cd hwx];rfl
  ·have:=(hK _ _ hr2.2).1;rw [Bq ht2 h3,Bq ht1 (Bm hwx)] at this;exact this
 have hdi:Aj ops oi a1=true:=by
  rcases hwi with hwi|hwi
  ·unfold Aj;rw [Cd hwi];rfl
  ·have:=(hK _ _ hr2.2).2;rw [Bq ht2 (Bm hwi)] at this;exact this
 by_cases hci:cl P oi.op=.pure;·
  obtain⟨v,hy⟩:=Dh hi hci hdi hr1.2;have hy:Yields P ops oi v a:=by
   refine hy.of_same ?_ ?_;·
    refine execOp_congr oi hsi fun y hy=>?_;rw [E5 ht1,Ib h1 hy]
   ·rw [ht1,wanted_put oi a ox.dst u h1]
  refine Yields.wpOp hi hy ⟨hB2 hci _ _,?_⟩;exact V5 hx (Qa hap) hsx hsi hy (wpOp_mono (fun a1 w1 hh hy'=>⟨hA2 _ _ _ hh.1,(Yields.inv hi hy' hh.2).2⟩) h)
 ·-- x is calm or a load
  have hcx:cl P ox.op=.pure∨cl P ox.op=.load:=by
   rcases hcl with h|h|h|h
   ·exact .inl h
   ·exact absurd h hci
   ·exact .inr h.1
   ·exact .inr h.1
  have hA:=hA1 hcx;have viaYields:∀ v,Yields P ops ox v a→wpOp P ops (Strict ops K0) i (fun a' w'=>B' a' w'∧wpOp P ops (Strict ops K0) x (fun a'' w''=>A a'' w''∧K a'' w'') a' w') a w:=fun v hy=>by have h':=(Yields.inv hx hy h).2;refine wpOp_mono ?_ (wpOp_put hi hap hsx hsi (fun _ _ _ h=>h) hy h');rintro a' w' ⟨hy',hb,hk⟩;exact⟨hB _ _ _ hb,Yields.wpOp hx hy' ⟨hA _ _,hk⟩⟩
  by_cases hcp:cl P ox.op=.pure;·
   obtain⟨v,hy⟩:=Dh hx hcp hdx h;exact viaYields v hy
  ·have hcload:cl P ox.op=.load:=hcx.resolve_left hcp;cases hwa:Region.wanted ox (yielded ops a.tmps) with
   | false=>exact viaYields undef (.inr ⟨hwa,rfl⟩)
   | true =>
    obtain⟨hst,hval⟩:=Kj (P:=P) (ρ:=a.eval) hcload (by simpa [Aj,hwa] using hdx);obtain⟨hu,n,w1',hr⟩:=ran hx hwa h;obtain⟨y,rfl⟩:=hval n ⟨_,_,hr⟩;obtain⟨rfl,hlater⟩:=hst _ _ _ hr;rw [hr] at hu;have hu:=hu.2;have hlx:=Bm (hlx hcload)
    -- what i leaves of x
    have same:∀ (a1:Act) (w2:World),(∃ R,R)→True:=fun _ _ _=>trivial;have acts:∀ (o1:Act) (w2:World),execOp o1.eval ox=execOp a.eval ox→Region.wanted ox (yielded ops o1.tmps)=true→(execOp a.eval ox).run P w2=.ok (.value y) w2→K (o1.put ox.dst y) w2→wpOp P ops (Strict ops K0) x (fun a'' w''=>A a'' w''∧K a'' w'') o1 w2:=by intro o1 w2 he hw hrun hk;unfold wpOp;simp only [hx,hw,if_true];refine .inl ?_;unfold Oper.wp;rw [he,hrun];exact⟨hA _ _,hk⟩
    -- the acts that i leaves look alike to x
    have keep:wpOp P ops (Strict ops K0) i (fun a1 w1=>(execOp a1.eval ox=execOp a.eval ox∧Region.wanted ox (yielded ops a1.tmps)=true)∧(fun a' w'=>B a' w'∧K a' w') (a1.put ox.dst y) w1) a w1':=by
     have hh:=put_through hi hap hsi hu;have base:∀ (a1:Act) (u:Value),a1.tmps=(a.put oi.dst u).tmps→execOp a1.eval ox=execOp a.eval ox∧Region.wanted ox (yielded ops a1.tmps)=true:=fun a1 u ht=>by
      refine⟨execOp_congr ox hsx fun z hz=>?_,?_⟩;·rw [E5 ht,Ib h3 hz]
      ·rw [ht,wanted_put ox a oi.dst u h3];exact hwa
     cases hwi':Region.wanted oi (yielded ops a.tmps) with
     | false =>unfold wpOp at hh ⊢;simp only [hi,hwi',Bool.false_eq_true,if_false] at hh ⊢;exact⟨base _ _ rfl,hh⟩
     | true =>
      obtain⟨hh,_⟩:=ran hi hwi' hh;unfold wpOp;simp only [hi,hwi',if_true];refine .inl ?_;unfold Oper.wp;generalize (execOp a.eval oi).run P w1'=r at hh ⊢;cases r with
      | ok n w' =>
       cases n<;>simp only [Oper.upon] at hh ⊢;case value u=>exact⟨base _ _ rfl,hh⟩
       case skip=>exact⟨base _ _ rfl,hh⟩
       case defer d=>exact⟨base _ undef (by cases oi.dst<;>rfl),hh⟩
       case enter f args =>
        refine Calls.mono hh fun e w'' he=>?_;cases e with
        | returned u=>exact⟨base _ _ rfl,he⟩
        | panicked c=>exact he
        | outgrown=>exact he
       case row row args=>exact Rows.mono hh fun u w'' he=>⟨base _ _ rfl,he⟩
      | halt z w' =>cases z<;>simp only [Oper.upon] at hh ⊢;case panic u=>exact hh
    rcases hcl with h|h|h|h
    ·exact absurd h hcp
    ·exact absurd h hci
    ·refine wpOp_mono ?_ (ext_of hi h.2 (by have hdi2:=hdi;rw [Bq ht1 h1] at hdi2;exact hdi2) keep);rintro o1 w2 ⟨⟨⟨he,hw⟩,hb,hk⟩,hext⟩;exact⟨hB _ _ _ hb,acts o1 w2 he hw (hlater _ hext) hk⟩
    ·refine wpOp_mono ?_ keep;rintro o1 w2 ⟨⟨he,hw⟩,hb,hk⟩;refine⟨hB _ _ _ hb,?_⟩;obtain⟨u,hru,hpu⟩:=h.2 _ _ hb ox hx (by rw [wanted_put ox o1 ox.dst y hlx];exact hw);rw [execOp_put ox hsx o1 ox.dst y hlx,he] at hru;have heq:=put_eq_of_tmps hpu;have hy2:∀ u',K (o1.put ox.dst u') w2→(execOp a.eval ox).run P w2=.ok (.value u') w2→wpOp P ops (Strict ops K0) x (fun a'' w''=>A a'' w''∧K a'' w'') o1 w2:=by
      intro u' hk' hrun;unfold wpOp;simp only [hx,hw,if_true];refine .inl ?_;unfold Oper.wp;rw [he,hrun];exact⟨hA _ _,hk'⟩
     exact hy2 u (by rw [heq];exact hk) hru
end
def Ax (π:List Nat) (i:Nat):Nat:=π.idxOf i
def clG (c:List Nat) (x:Nat) (a b:Cl):Bool:=Xb a b || (a == .load && c.contains x)
def Cs (b:Array Nat) (j i:Nat):Bool:=decide (i<j) && (b.getD j 0).testBit i
def Sc (π:List Nat) (o:Oper) (j:Nat):Bool:=o.after.all fun e=>!Region.binds .any e || (decide (e.on<j) && decide (Ax π e.on<Ax π j))
def R3 (ops:Array Oper) (π:List Nat) (b:Array Nat) (o:Oper) (j:Nat):Bool :=
 B1 o.op || (List.range ops.size).all fun z=>match ops[z]? with
  | some oz=>!writes oz (o.looksAt ops) || (decide (Ax π z<Ax π j) && Cs b j z)
  | none=>true
def pairsG (P:Program) (ops:Array Oper) (π:List Nat) (b:Array Nat) (chk:Nat→List Nat) (o:Oper) (j:Nat):Bool :=
 π.all fun i=>!decide (Ax π i<Ax π j) || Cs b j i || match ops[i]? with
  | some oi=>oi.apart ops o && clG (chk j) i (cl P oi.op) (cl P o.op)
  | none=>true
def Nk (P:Program) (ops:Array Oper) (π:List Nat) (b:Array Nat) (j k:Nat):Bool :=
 match ops[k]? with
 | some ok=>cl P ok.op == .load && decide (Ax π k<Ax π j) && !writes ok (ok.looksAt ops) && (List.range ops.size).all fun z=>z == k || (match ops[z]? with
  | some oz=>!(writes oz (ok.looksAt ops) || writes oz ok.dst.toList) || (decide (Ax π z<Ax π k) && Cs b k z)
  | none=>true)
 | none=>false
def Qo (P:Program) (ops:Array Oper) (o:Oper):Bool:=!(cl P o.op == .load) || !writes o (o.looksAt ops)
def P9 (P:Program) (ops:Array Oper) (π:List Nat) (chk:Nat→List Nat) (b:Array Nat):Bool :=
 Region.noSelect ops && decide (π.length=ops.size) && (List.range ops.size).all (fun j=>π.contains j) && π.all (fun j=>decide (j<ops.size)) && decide π.Nodup &&
 (List.range ops.size).all fun j=>match ops[j]? with
  | some o=>Sc π o j && Jq b o j && R3 ops π b o j && pairsG P ops π b chk o j && Qo P ops o && (chk j).all (Nk P ops π b j) && ((chk j).isEmpty || cl P o.op == .any)
  | none=>true
def orderOK (P:Program) (ops:Array Oper) (π:List Nat) (chk:Nat→List Nat):Bool:=P9 P ops π chk (Region.before ops)
section
variable {P:Program} {ops:Array Oper} {K0:Act→World→Prop} {b:Array Nat} {π:List Nat} {chk:Nat→List Nat}
structure Ordered (P:Program) (ops:Array Oper) (π:List Nat) (chk:Nat→List Nat) (b:Array Nat):Prop where
 select:Region.noSelect ops=true
 len:π.length=ops.size
 all:∀ j:Nat,j<ops.size↔j∈π
 nodup:π.Nodup
 edges:∀ (j:Nat) (o:Oper),ops[j]?=some o→∀ e∈o.after,Region.binds .any e=true→e.on<j∧Ax π e.on<Ax π j
 mask:∀ (j:Nat) (o:Oper),ops[j]?=some o→Jq b o j=true
 look:∀ (j:Nat) (o:Oper) (z:Nat) (oz:Oper),ops[j]?=some o→ops[z]?=some oz→¬ (Ax π z<Ax π j∧Cs b j z=true)→B1 o.op=true∨writes oz (o.looksAt ops)=false
 pair:∀ (i j:Nat) (oi oj:Oper),ops[i]?=some oi→ops[j]?=some oj→Ax π i<Ax π j→Cs b j i=false→oi.apart ops oj=true∧clG (chk j) i (cl P oi.op) (cl P oj.op)=true
 self:∀ (j:Nat) (o:Oper),ops[j]?=some o→cl P o.op=.load→writes o (o.looksAt ops)=false
 chkAny:∀ (j:Nat) (o:Oper),ops[j]?=some o→cl P o.op≠.any→chk j=[]
 chkLook:∀ (j:Nat) (o:Oper) (k:Nat),ops[j]?=some o→k∈chk j→∃ ok,ops[k]?=some ok∧Ax π k<Ax π j∧∀ (z:Nat) (oz:Oper),ops[z]?=some oz→z≠k→¬ (Ax π z<Ax π k∧Cs b k z=true) →
  writes oz (ok.looksAt ops)=false∧writes oz ok.dst.toList=false
theorem Ordered.of (h:P9 P ops π chk b=true):Ordered P ops π chk b:=by
 unfold P9 at h;simp only [Bool.and_eq_true,decide_eq_true_eq] at h;obtain⟨⟨⟨⟨⟨h1,h2⟩,h3⟩,h4⟩,h5⟩,h6⟩:=h;have hall:∀ j o,ops[j]?=some o→Sc π o j=true∧Jq b o j=true∧R3 ops π b o j=true∧pairsG P ops π b chk o j=true∧Qo P ops o=true∧(chk j).all (Nk P ops π b j)=true∧((chk j).isEmpty || cl P o.op == .any)=true:=fun j o hj=>by have:=List.all_eq_true.1 h6 j (List.mem_range.2 (Array.getElem?_eq_some_iff.1 hj).1);simp only [hj,Bool.and_eq_true] at this;obtain⟨⟨⟨⟨⟨⟨a1,a2⟩,a3⟩,a4⟩,a5⟩,a6⟩,a7⟩:=this;exact⟨a1,a2,a3,a4,a5,a6,a7⟩
 have hmem:∀ j,j<ops.size↔j∈π:=fun j=>⟨fun hj=>by simpa using List.all_eq_true.1 h3 j (List.mem_range.2 hj),fun hj=>by simpa using List.all_eq_true.1 h4 j hj⟩;have hlt:∀ {j o},ops[j]?=some o→j<ops.size:=fun hj=>(Array.getElem?_eq_some_iff.1 hj).1;refine⟨h1,h2,hmem,h5,fun j o hj e he hb=>?_,fun j o hj=>(hall j o hj).2.1,fun j o z oz hj hz hn=>?_,fun i j oi oj hi hj hr hb=>?_,fun j o hj hc=>?_,fun j o hj hc=>?_,fun j o k hj hk=>?_⟩;·
  have:=Array.all_eq_true_iff_forall_mem.1 (hall j o hj).1 e he;simpa [hb] using this
 ·have h:=(hall j o hj).2.2.1;unfold R3 at h;rw [Bool.or_eq_true] at h;rcases h with h|h
  ·exact .inl h
  ·right;have:=List.all_eq_true.1 h z (List.mem_range.2 (hlt hz));simp only [hz,Bool.or_eq_true,Bool.not_eq_true',Bool.and_eq_true,decide_eq_true_eq] at this;exact this.resolve_right hn
 ·have:=List.all_eq_true.1 (hall j oj hj).2.2.2.1 i ((hmem i).1 (hlt hi));simp only [hi,hr,hb,decide_true,Bool.not_true,Bool.false_or,Bool.and_eq_true] at this;exact this
 ·have:=(hall j o hj).2.2.2.2.1;simpa [Qo,hc] using this
 ·have:=(hall j o hj).2.2.2.2.2.2;simp only [Bool.or_eq_true,beq_iff_eq] at this;simpa using this.resolve_right hc
 ·have:=List.all_eq_true.1 (hall j o hj).2.2.2.2.2.1 k hk;unfold Nk at this;split at this;·
   rename_i ok hok;simp only [Bool.and_eq_true,decide_eq_true_eq] at this;refine⟨ok,hok,this.1.1.2,fun z oz hz hne hn=>?_⟩;have h:=List.all_eq_true.1 this.2 z (List.mem_range.2 (hlt hz));simp only [hz,Bool.or_eq_true,beq_iff_eq,hne,false_or,Bool.not_eq_true',Bool.or_eq_false_iff,Bool.and_eq_true,decide_eq_true_eq] at h;exact h.resolve_right hn
  ·cases this
theorem Ot {oz ok:Oper} (h:writes oz ok.dst.toList=false):∀ d,oz.dst=some d→ok.dst≠some d:=fun d hd e=>by have:=Bm h d hd;rw [e] at this;simp at this
theorem Ordered.againPut (O:Ordered P ops π chk b) {j k z:Nat} {o oz:Oper} (hj:ops[j]?=some o) (hk:k∈chk j) (hz:ops[z]?=some oz) (hr:Ax π k<Ax π z) {a a':Act} {v:Value} {w:World} (ht:a'.tmps=(a.put oz.dst v).tmps) :
  again P ops k a' w↔again P ops k a w:=by
 obtain⟨ok,hok,_,hall⟩:=O.chkLook j o k hj hk;obtain⟨h1,h2⟩:=hall z oz hz (fun e=>by rw [e] at hr;omega) o_;exact Rl hok ht (Bm h1) (Ot h2) (Region.noSelect_spec O.select k ok · · hok)
theorem Vz (O:Ordered P ops π chk b) {i:Nat} {oi:Oper} (hi:ops[i]?=some oi) (l2:List Nat) (hl2:∀ z∈l2,Ax π i<Ax π z):∀ (l1:List Nat) (C:List Nat),(l1++i::l2).Pairwise (fun x y=>Ax π x<Ax π y) →
  (∀ z∈l1,z<ops.size)→(∀ z∈l1,Cs b i z=false)→(∀ k∈C,k∈chk i∧∀ z∈l1,Ax π k<Ax π z)→∀ (a:Act) (w:World),wpG P ops (Strict ops K0) chk (l1++i::l2) a w →
  wpOp P ops (Strict ops K0) i (fun a w=>(∀ k∈C,again P ops k a w)∧wpG P ops (Strict ops K0) chk (l1++l2) a w) a w
 | [],C,_,_,_,hC,a,w,h=>by have h:wpOp P ops (Strict ops K0) i (fun a' w'=>(∀ k∈chk i,again P ops k a' w')∧wpG P ops (Strict ops K0) chk l2 a' w') a w:=h;exact wpOp_mono (fun a w h=>⟨fun k hk=>h.1 k (hC k hk).1,h.2⟩) h
 | x::l1,C,hs,hlt,hn,hC,a,w,h=>by
  simp only [List.cons_append] at h ⊢ hs;have hs':=List.pairwise_cons.1 hs;have h:wpOp P ops (Strict ops K0) x (fun a' w'=>(∀ k∈chk x,again P ops k a' w')∧wpG P ops (Strict ops K0) chk (l1++i::l2) a' w') a w:=h;let C':=if x∈chk i then x::C else C
  have hC':∀ k∈C',k∈chk i∧∀ z∈l1,Ax π k<Ax π z:=by
   intro k hk;by_cases hx:x∈chk i;·
    simp only [C',hx,if_true,List.mem_cons] at hk;rcases hk with rfl|hk
    ·exact⟨hx,fun z hz=>hs'.1 z (by simp [hz])⟩
    ·exact⟨(hC k hk).1,fun z hz=>(hC k hk).2 z (by simp [hz])⟩
   ·simp only [C',hx,if_false] at hk;exact⟨(hC k hk).1,fun z hz=>(hC k hk).2 z (by simp [hz])⟩
  have h:=wpOp_mono (fun a w h=>And.imp id (fun h=>Vz O hi l2 hl2 l1 C' hs'.2 (fun z hz=>hlt z (by simp [hz])) (fun z hz=>hn z (by simp [hz])) hC' a w h) h) h;obtain⟨ox,hx⟩:∃ ox,ops[x]?=some ox:=⟨_,Array.getElem?_eq_getElem (hlt x i_)⟩;have hxi:Ax π x<Ax π i:=hs'.1 i i_;obtain⟨hap,hcl⟩:=O.pair x i ox oi hx hi hxi (hn x i_);have hself:∀ {j o},ops[j]?=some o→B1 o.op=true∨writes o (o.looksAt ops)=false:=fun {j o} hj=>O.look j o j o hj hj o_;have hsx:=(Region.noSelect_spec O.select x ox · · hx);have hsi:=(Region.noSelect_spec O.select i oi · · hi);have fin:∀ {j o} {a w},ops[j]?=some o→(∀ z∈l1++l2,¬ (Ax π z<Ax π j∧Cs b j z=true))→wpG P ops (Strict ops K0) chk (l1++l2) a w→Aj ops o a=true:=fun {j o a w} hj hz hK=>by
   cases htr:B1 o.op with
   | true=>unfold Aj;rw [Cd htr];rfl
   | false=>exact Sb hj _ a w hK fun z hzm oz hoz=>(O.look j o z oz hj hoz (hz z hzm)).resolve_left (by rw [htr];exact Bool.false_ne_true)
  refine swapG hx hi hap hsx hsi (B:=fun a w=>∀ k∈C',again P ops k a w) (A:=fun a w=>∀ k∈chk x,again P ops k a w) ?_ (hself hx) (hself hi) (O.self x ox hx) ?_ ?_ ?_ ?_ (fun a w hK=>⟨fin hx (fun z hz hh=>?_) hK,fin hi (fun z hz hh=>?_) hK⟩) h;·
   unfold clG Xb at hcl;simp only [Bool.or_eq_true,Bool.and_eq_true,beq_iff_eq] at hcl;rcases hcl with ((h|h)|h)|h
   ·exact .inl h
   ·exact .inr (.inl h)
   ·exact .inr (.inr (.inl h))
   ·refine .inr (.inr (.inr ⟨h.1,fun a w hB=>hB x ?_⟩));have:x∈chk i:=(by simpa using h.2);simp [C',this]
  ·intro a1 v w1 hB k hk;have hkC:k∈C':=by by_cases hx:x∈chk i<;>simp [C',hx,hk]
   exact (O.againPut hi (hC k hk).1 hx ((hC k hk).2 x i_) rfl).1 (hB k hkC)
  ·intro hc a w k hk;have:=O.chkAny i oi hi (by rw [hc];exact fun h=>by cases h);have hk':=(hC k hk).1;rw [this] at hk';cases hk'
  ·intro hc a w k hk;have:=O.chkAny x ox hx (by rcases hc with hc|hc<;>rw [hc]<;>exact fun h=>by cases h);rw [this] at hk;cases hk
  ·intro a1 u w1 hA k hk;obtain⟨ok,hok,hrk,_⟩:=O.chkLook x ox k hx hk;exact (O.againPut hx hk hi o_ rfl).2 (hA k hk)
  ·have:Ax π x<Ax π z:=hs'.1 z (by rcases List.mem_append.1 hz with h|h<;>simp [h]);omega
  ·rcases List.mem_append.1 hz with hz|hz
   ·rw [hn z (by simp [hz])] at hh;cases hh.2
   ·have:=hl2 z hz;omega
theorem mask_listedG (O:Ordered P ops π chk b) {listed:Array Bool} (hc:Closed ops listed) (hsz:listed.size=ops.size):∀ (d j:Nat) (o:Oper),j=d→ops[j]?=some o →
  (∀ e∈o.after,Region.binds .any e=true→listed.getD e.on false=true)→∀ i,i<j→Cs b j i=true→listed.getD i false=true:=by
 intro d
 induction d using Nat.strongRecOn with
 | _ d ih =>
  intro j o hd hj hall i hij hb;have hm:=O.mask j o hj;have:=List.all_eq_true.1 hm i (List.mem_range.2 hij);have hb:(b.getD j 0).testBit i=true:=by simp only [Cs,Bool.and_eq_true] at hb;exact hb.2
  rw [hb] at this;simp only [Bool.not_true,Bool.false_or] at this;obtain⟨e,hem,h2⟩:=Array.any_eq_true'.1 this;simp only [Bool.and_eq_true,Bool.or_eq_true,beq_iff_eq,decide_eq_true_eq] at h2;have hon:=hall e hem h2.1;rcases h2.2 with h3|h3
  ·rw [← h3];exact hon
  ·have hej:=(O.edges j o hj e hem h2.1).1;have hlt:e.on<ops.size:=by
    have:=(Array.getElem?_eq_some_iff.1 hj).1;omega
   have hoe:ops[e.on]?=some ops[e.on]:=Array.getElem?_eq_getElem hlt;refine ih e.on o_ e.on _ rfl hoe (hc _ _ hoe ?_) i h3.1 (by simp only [Cs,Bool.and_eq_true,decide_eq_true_eq];exact h3);have:e.on<listed.size:=o_;simp [this] at hon ⊢;exact hon
theorem Ug (O:Ordered P ops π chk b):∀ (fuel:Nat) (l:List Nat) (listed:Array Bool) (a:Act) (w:World),l.length=fuel→listed.size=ops.size→l.Pairwise (fun x y=>Ax π x<Ax π y) →
  (∀ k,k∈l↔k<ops.size∧listed.getD k true=false)→Closed ops listed→wpG P ops (Strict ops K0) chk l a w→wpAny P .any ops (Strict ops K0) fuel listed a w
 | 0,l,listed,a,w,hf,hsz,hs,hm,hc,h=>by obtain rfl:=List.eq_nil_of_length_eq_zero hf;refine⟨?_,h⟩;refine List.eq_nil_iff_forall_not_mem.2 fun j hj=>?_;obtain⟨h1,o,h2,_⟩:=mem_ready.1 hj;have:=(hm j).2 ⟨(Array.getElem?_eq_some_iff.1 h2).1,h1⟩;cases this
 | fuel+1,l,listed,a,w,hf,hsz,hs,hm,hc,h=>by
  refine⟨fun hr=>?_,fun i hi=>?_⟩;·
   exfalso;cases l with
   | nil=>cases hf
   | cons k l =>
    obtain⟨hk,hkl⟩:=(hm k).1 i_;have hok:ops[k]?=some ops[k]:=Array.getElem?_eq_getElem hk;have:k∈Region.ready .any ops listed:=mem_ready.2 ⟨hkl,_,hok,fun e he hbd=>by
     have hej:=O.edges k _ hok e he hbd
     cases hl:listed.getD e.on true with
     | true =>
      have hlt:e.on<listed.size:=o_
      simp [hlt] at hl ⊢;exact hl
     | false =>
      have:=(hm e.on).2 ⟨o_,hl⟩
      rcases List.mem_cons.1 this with h1|h1
      ·omega
      ·have:=(List.pairwise_cons.1 hs).1 _ h1;omega⟩
    rw [hr] at this;cases this
  ·obtain⟨h1,oi,h2,hall⟩:=mem_ready.1 hi;have hin:i<ops.size:=(Array.getElem?_eq_some_iff.1 h2).1;obtain⟨l1,l2,rfl⟩:=List.append_of_mem ((hm i).2 ⟨hin,h1⟩);have hpw:=List.pairwise_append.1 hs;have hnot1:i∉l1:=fun hx=>(by have:=hpw.2.2 i hx i i_;omega);have hnot2:i∉l2:=fun hx=>(by have:=(List.pairwise_cons.1 hpw.2.1).1 i hx;omega);refine wpOp_mono (fun a w h=>Ug O fuel (l1++l2) _ a w ?_ (by simp [hsz]) ?_ (fun k=>?_) ?_ h.2)
    (Vz O h2 l2 (fun z hz=>(List.pairwise_cons.1 hpw.2.1).1 z hz) l1 [] hs (fun z hz=>((hm z).1 (by simp [hz])).1) (fun z hz=>?_) i_ a w h)
   ·simp at hf ⊢;omega
   ·exact hs.sublist (List.Sublist.append (List.Sublist.refl _) (List.sublist_cons_self _ _))
   ·by_cases hki:k=i;·
     subst hki;have hlt:k<listed.size:=o_
     simp [hnot1,hnot2,hlt]
    ·rw [getD_set_ne true (fun e=>hki e.symm),← hm k];simp [hki]
   ·intro j o hj hl e he hbd;by_cases hji:j=i;·
     subst hji;have:o=oi:=Option.some.inj (hj.symm.trans h2);subst this;exact getD_set_true (hall e he hbd)
    ·rw [getD_set_ne true (fun e=>hji e.symm)] at hl;exact getD_set_true (hc j o hj hl e he hbd)
   ·cases ht:Cs b i z with
    | false=>rfl
    | true =>
     exfalso;have h3:=mask_listedG O hc hsz i i oi rfl h2 hall z (by simp only [Cs,Bool.and_eq_true,decide_eq_true_eq] at ht;exact ht.1) ht;have h4:=((hm z).1 (by simp [hz])).2;have hlt:z<listed.size:=by have:=((hm z).1 (by simp [hz])).1;omega
     simp [hlt] at h3 h4;rw [h3] at h4;cases h4
end
def pick (ops:Array Oper):List Nat→List Oper
 | []=>[]
 | i::l=>ops.getD i default::pick ops l
def Mid (K:Act→World→Prop):Exit→Act→World→Prop
 | .normal,a,w=>K a w
 | _,_,_=>False
theorem mD_ {K:Act→World→Prop} {a:Act} {w:World} (h:K a w):Mid K .normal a w:=h
def Ii (P:Program) (ops:Array Oper):List Nat→Act→World→Prop
 | [],_,_=>True
 | k::c,a,w=>again P ops k a w∧Ii P ops c a w
def A2 (P:Program) (ops:Array Oper) (K0:Act→World→Prop):List (List Nat×List Nat)→Act→World→Prop
 | [],a,w=>Strict ops K0 .normal a w
 | (l,c)::r,a,w=>wpList P ops (Mid fun a w=>Ii P ops c a w∧A2 P ops K0 r a w) (pick ops l) a w
def Ie:List (List Nat×List Nat)→Nat→List Nat
 | [],_=>[]
 | (l,c)::r,i=>if l.getLast? == some i then c else Ie r i
def Aq:List (List Nat×List Nat)→List Nat
 | []=>[]
 | (l,_)::r=>l++Aq r
def Jg (chk:Nat→List Nat):List (List Nat×List Nat)→Bool
 | []=>true
 | (l,c)::r=>(match l.reverse with
  | []=>c.isEmpty
  | i::l'=>chk i == c && l'.all fun x=>(chk x).isEmpty) && Jg chk r
section
variable {P:Program} {ops:Array Oper} {K0:Act→World→Prop}
theorem Mm:∀ {c:List Nat} {a:Act} {w:World},Ii P ops c a w→∀ k∈c,again P ops k a w
 | [],_,_,_,k,hk=>by cases hk
 | x::c,a,w,h,k,hk=>by
  rcases List.mem_cons.1 hk with rfl|hk
  ·exact h.1
  ·exact Mm h.2 k hk
theorem wpOp_post {Q Q':Exit→Act→World→Prop} (hp:∀ c a w,Q (.panic c) a w→Q' (.panic c) a w) (ho:LetsOut Q→LetsOut Q') {i:Nat} {K:Act→World→Prop} {a:Act} {w:World} (h:wpOp P ops Q i K a w):wpOp P ops Q' i K a w:=by
 unfold wpOp at h ⊢;split;·rename_i hi;simp only [hi] at h;exact h
 ·rename_i o hi;simp only [hi] at h;split;·
   rename_i hw;simp only [hw,if_true] at h;rcases h with h|h
   ·refine .inl ?_;unfold Oper.wp at h ⊢;generalize (execOp a.eval o).run P w=r at h ⊢;cases r with
    | ok n w' =>
     cases n<;>simp only [Oper.upon] at h ⊢<;>first|exact h|skip
     refine Calls.mono h fun e w'' he=>?_;cases e with
     | returned u=>exact he
     | panicked c=>exact hp _ _ _ he
     | outgrown=>exact ho he
    | halt z w' =>cases z<;>simp only [Oper.upon] at h ⊢<;>first|exact h|exact hp _ _ _ h
   ·exact .inr ⟨h.1,ho h.2⟩
  ·rename_i hw;simp only [hw] at h;exact h
theorem Nl {Q:Exit→Act→World→Prop}:∀ (l:List Nat),(∀ i∈l,i<ops.size)→wpList P ops Q (pick ops l)=wpOps P ops Q l
 | [],_=>by funext a w;rfl
 | i::l,h=>by
  have hi:i<ops.size:=h i i_;have hg:ops[i]?=some (ops.getD i default):=by simp [hi]
  funext a w;simp only [pick,wpOps,hg,wpList];rw [Nl l fun j hj=>h j (by simp [hj])]
theorem Ou {chk:Nat→List Nat} {c:List Nat} {K:Act→World→Prop} {r:List Nat} (hK:∀ a w,Ii P ops c a w∧K a w→(∀ k∈c,again P ops k a w)∧wpG P ops (Strict ops K0) chk r a w):∀ (l:List Nat) (a:Act) (w:World),
  (match l.reverse with|[]=>c.isEmpty|i::l'=>chk i == c && l'.all fun x=>(chk x).isEmpty)=true→wpOps P ops (Mid fun a w=>Ii P ops c a w∧K a w) l a w→wpG P ops (Strict ops K0) chk (l++r) a w
 | [],a,w,hc,h=>(hK a w h).2
 | i::l,a,w,hc,h=>by
  rw [wpOps_cons] at h;have h:=wpOp_post (Q':=Strict ops K0) (fun _ _ _ h=>h) (fun ⟨_,_,h⟩=>h.elim) h;show wpOp P ops (Strict ops K0) i _ a w;cases l with
  | nil =>simp only [List.reverse_cons,List.reverse_nil,List.nil_append,Bool.and_eq_true,beq_iff_eq] at hc;refine wpOp_mono (fun a w h=>?_) h;have:=hK a w h;rw [hc.1];exact this
  | cons j l =>
   have hci:chk i=[]∧(match (j::l).reverse with|[]=>c.isEmpty|i::l'=>chk i == c && l'.all fun x=>(chk x).isEmpty)=true:=by
    rw [List.reverse_cons] at hc;cases hr:(j::l).reverse with
    | nil=>simp at hr
    | cons z q =>rw [hr] at hc;simp only [List.cons_append,List.all_append,List.all_cons,List.all_nil,Bool.and_true,Bool.and_eq_true,List.isEmpty_iff] at hc ⊢;exact⟨hc.2.2,hc.1,hc.2.1⟩
   refine wpOp_mono (fun a w h=>⟨fun k hk=>?_,Ou hK (j::l) a w hci.2 h⟩) h;rw [hci.1] at hk;cases hk
theorem Ge {chk:Nat→List Nat}:∀ (ss:List (List Nat×List Nat)) (a:Act) (w:World),Jg chk ss=true→(∀ i∈Aq ss,i<ops.size)→A2 P ops K0 ss a w→wpG P ops (Strict ops K0) chk (Aq ss) a w
 | [],a,w,_,_,h=>h
 | (l,c)::r,a,w,hc,hlt,h=>by simp only [Jg,Bool.and_eq_true] at hc;have h:wpList P ops (Mid fun a w=>Ii P ops c a w∧A2 P ops K0 r a w) (pick ops l) a w:=h;rw [Nl l fun i hi=>hlt i (by simp [Aq,hi])] at h;exact Ou (fun a w h=>⟨Mm h.1,Ge r a w hc.2 (fun i hi=>hlt i (by simp [Aq,hi])) h.2⟩) l a w hc.1 h
end
def Rv (P:Program) (ops:Array Oper) (ss:List (List Nat×List Nat)):Bool:=orderOK P ops (Aq ss) (Ie ss) && Jg (Ie ss) ss
theorem wRS {P:Program} {id:Nat} {l:List Oper} {Q:Exit→Act→World→Prop} {a:Act} {w:World} (ss:List (List Nat×List Nat)) (hm:P.follows .mixedOrders=true)
  (hc:Rv P l.toArray ss=true) (h:A2 P l.toArray (Q .normal) ss a w.drew):(Code.region id l.toArray true).wp P Q a w:=by
 unfold Rv at hc;rw [Bool.and_eq_true] at hc;have O:=Ordered.of hc.1;have hlen:(Aq ss).length=l.length:=by simpa using O.len
 refine Code.wp_mono Strict.imp (wp_region_any hm (Ug O _ (Aq ss) _ a _ (by simp [hlen]) i_ ?_ (fun k=>?_) ?_ ?_));·
  have hnd:=O.nodup;rw [List.pairwise_iff_getElem];intro i j hi hj hij;unfold Ax;rw [hnd.idxOf_getElem i hi,hnd.idxOf_getElem j hj];exact hij
 ·rw [← O.all k];simp;intro hk;rw [Array.getElem?_replicate];simp [hk]
 ·intro j o hj hl;have hlt:j<l.length:=by have:=(Array.getElem?_eq_some_iff.1 hj).1;simpa using this
  rw [Array.getD_eq_getD_getElem?,Array.getElem?_replicate] at hl;simp [hlt] at hl
 ·exact Ge ss a _ hc.2 (fun i hi=>(O.all i).2 hi) h
def flatDesc:TypeDesc→Bool
 | .struct _|.array _ _=>false
 | _=>true
theorem ac_ {P:Program} {ops:Array Oper} {k:Nat} {o:Oper} {a:Act} {w:World} {T:TypeId} {x:Operand} {ad:Addr} {v:Value} {d:TypeDesc} (hk:ops[k]?=some o) (ho:o.op=.load T x) (hx:a.eval x=.pointer (some ad))
  (hT:P.underlying T=some d) (hd:flatDesc d=true) (hc:w.cell? ad=some v) (hv:(a.put o.dst v).tmps=a.tmps):again P ops k a w:=by
 intro o' ho' _;obtain rfl:o=o':=Option.some.inj (hk.symm.trans ho');refine⟨v,?_,hv⟩;unfold execOp;simp only [ho,hx];unfold Instr.loadAt Go.loadVar Go.isAgg;have hu:(Go.underlying T).run P w=.ok d w:=by unfold Go.underlying;simp [hT]
 rw [Sem.run_bind,Sem.run_bind];show ((Result.ok ad w).andThen _).andThen _=_;simp only [Result.andThen_ok];rw [Sem.run_bind,Sem.run_bind,hu];cases d<;>first|(cases hd;done)|simp [hc]
theorem wS {P:Program}{id:Nat}{l:List Oper}{Q:Exit→Act→World→Prop}{a:Act}{w:World}(ss:List (List Nat×List Nat))(h:A2 P l.toArray (Q .normal) ss a w.drew)(hm:P.follows .mixedOrders=true:=by kernel_rfl)(hc:Rv P l.toArray ss=true:=by kernel_rfl):(Code.region id l.toArray true).wp P Q a w:=wRS ss hm hc h
end Go.Proofs.Rg
namespace Go.Proofs.Rg
open Go
theorem aGR {P:Program} {ops:Array Oper} {k:Nat} {o:Oper} {a:Act} {w:World} {T:TypeId} {x:Operand} {b off:Nat} {cs:List Value} {d:TypeDesc} (hk:ops[k]?=some o) (ho:o.op=.load T x)
  (hx:a.eval x=.pointer (some ⟨b,off,none⟩)) (hT:P.underlying T=some d) (hd:d.isRow=true) (hi:(P.info? T).map (·.size)=some cs.length) (hc:w.rangeAt b off cs)
  (hv:(a.put o.dst (.agg cs.toArray)).tmps=a.tmps):again P ops k a w:=by
 intro o' ho' _;obtain rfl:o=o':=Option.some.inj (hk.symm.trans ho');refine⟨_,?_,hv⟩;unfold execOp;simp only [ho,hx,Sem.run_bind,run_loadAt_mid w b off T cs d hc hT hd hi,Result.andThen_ok];rfl
end Go.Proofs.Rg
namespace Go.Proofs.Mp
open Go
theorem wpList_run {P:Program} {ops:Array Oper} {rest:List Oper} {o:Oper} {a:Act} {w w':World} {v:Value} {Q:Exit→Act→World→Prop} (hg:o.guard=none)
  (hrun:(execOp a.eval o).run P w=.ok (.value v) w') (h:wpList P ops Q rest (a.put o.dst v) w'):wpList P ops Q (o::rest) a w :=
 wpList_plain hg fun K hK=>by unfold Oper.wp;rw [hrun];exact hK _ _ h
theorem wpList_run_skip {P:Program} {ops:Array Oper} {rest:List Oper} {o:Oper} {a:Act} {w w':World} {Q:Exit→Act→World→Prop} (hg:o.guard=none)
  (hrun:(execOp a.eval o).run P w=.ok .skip w') (h:wpList P ops Q rest (a.put o.dst undef) w'):wpList P ops Q (o::rest) a w :=
 wpList_plain hg fun K hK=>by unfold Oper.wp;rw [hrun];exact hK _ _ h
structure KeysBy (P:Program) (K:TypeId) {κ:Type} [DecidableEq κ] (f:κ→Value):Prop where
 check:∀ (e:Bool) (k:κ) (w:World),(Instr.checkKey e 10000 K (f k)).run P w=.ok () w
 find:∀ (k:κ) (es:List MapEntry) (ks:List κ) (w:World),es.map (·.key)=ks.map f→(Instr.findKey K (f k) es).run P w=.ok ((ks.idxOf? k).bind fun i=>(es[i]?).map fun e=>(i,e.val)) w
 same:∀ k,Instr.sameBits 10000 (f k) (f k)=true
section
variable {P:Program} {κ:Type} [DecidableEq κ] {f:κ→Value}
theorem idxOf?_cons (k x:κ) (l:List κ):(x::l).idxOf? k=if x=k then some 0 else (l.idxOf? k).map (·+1):=by
 rw [List.idxOf?_cons];by_cases h:x=k;·simp [h]
 ·simp [h]
theorem Kz {K:TypeId} (heq:∀ a b w,(Op.equal K (f a) (f b)).run P w=.ok (decide (a=b)) w) (k:κ):∀ (es:List MapEntry) (ks:List κ) (i:Nat) (w:World),es.map (·.key)=ks.map f →
  (Instr.findAsking K (f k) es i).run P w=.ok ((ks.idxOf? k).bind fun j=>(es[j]?).map fun e=>(i+j,e.val)) w
 | [],ks,i,w,h=>by
  cases ks with
  | nil=>rfl
  | cons=>simp at h
 | e::es,ks,i,w,h=>by
  cases ks with
  | nil=>simp at h
  | cons x ks =>
   simp only [List.map_cons,List.cons.injEq] at h;unfold Instr.findAsking;rw [Sem.run_bind,h.1,heq];simp only [Result.andThen_ok];rw [idxOf?_cons];by_cases hx:k=x;·subst hx;simp
   ·have hx':¬ x=k:=fun e=>hx e.symm;simp only [hx,hx',decide_false,Bool.false_eq_true,if_false];rw [Kz heq k es ks (i+1) w h.2];cases ks.idxOf? k with
    | none=>rfl
    | some j=>simp [Nat.add_assoc,Nat.add_comm 1 j]
theorem KeysBy.deep {K:TypeId} {d:TypeDesc} (hu:P.underlying K=some d) (hnow:∀ k v,Instr.sameNow d (f k) v=none) (heq:∀ a b w,(Op.equal K (f a) (f b)).run P w=.ok (decide (a=b)) w)
  (hcheck:∀ (e:Bool) (k:κ) (w:World),(Instr.checkKey e 10000 K (f k)).run P w=.ok () w) (hsame:∀ k,Instr.sameBits 10000 (f k) (f k)=true):KeysBy P K f where
 check:=hcheck
 same:=hsame
 find:=fun k es ks w h=>by
  unfold Instr.findKey;have hr:(Go.underlying K).run P w=.ok d w:=by unfold Go.underlying;simp [hu]
  rw [Sem.run_bind,hr];simp only [Result.andThen_ok];cases es with
  | nil =>
   cases ks with
   | nil=>rfl
   | cons=>simp at h
  | cons e es =>simp only [Instr.findNow,hnow];have:=Kz heq k (e::es) ks 0 w h;simpa using this
theorem Pv {d:TypeDesc} (hnow:∀ a b,Instr.sameNow d (f a) (f b)=some (decide (a=b))) (k:κ):∀ (es:List MapEntry) (ks:List κ) (i:Nat),es.map (·.key)=ks.map f →
  Instr.findNow d (f k) es i=some ((ks.idxOf? k).bind fun j=>(es[j]?).map fun e=>(i+j,e.val))
 | [],ks,i,h=>by
  cases ks with
  | nil=>rfl
  | cons=>simp at h
 | e::es,ks,i,h=>by
  cases ks with
  | nil=>simp at h
  | cons x ks =>
   simp only [List.map_cons,List.cons.injEq] at h;unfold Instr.findNow;rw [h.1,hnow,idxOf?_cons];by_cases hx:k=x;·subst hx;simp
   ·have hx':¬ x=k:=fun e=>hx e.symm;simp only [hx,hx',decide_false,if_false];rw [Pv hnow k es ks (i+1) h.2];cases ks.idxOf? k with
    | none=>rfl
    | some j=>simp [Nat.add_assoc,Nat.add_comm 1 j]
theorem KeysBy.now {K:TypeId} {d:TypeDesc} (hu:P.underlying K=some d) (hnow:∀ a b,Instr.sameNow d (f a) (f b)=some (decide (a=b)))
  (hcheck:∀ (e:Bool) (k:κ) (w:World),(Instr.checkKey e 10000 K (f k)).run P w=.ok () w) (hsame:∀ k,Instr.sameBits 10000 (f k) (f k)=true):KeysBy P K f where
 check:=hcheck
 same:=hsame
 find:=fun k es ks w h=>by
  unfold Instr.findKey;have hr:(Go.underlying K).run P w=.ok d w:=by unfold Go.underlying;simp [hu]
  rw [Sem.run_bind,hr];simp only [Result.andThen_ok];rw [Pv hnow k es ks 0 h];simp
theorem KeysBy.int {K:TypeId} {q:IntKind} (hu:P.underlying K=some (.int q)):KeysBy P K (fun n:Int=>Value.int q n):=by
 refine KeysBy.now hu (fun a b=>?_) (fun e k w=>?_) fun k=>?_;·
  show (if q=q then some (a == b) else none)=_;rw [if_pos rfl];congr 1
 ·unfold Instr.checkKey Go.underlying;simp [hu]
 ·simp [Instr.sameBits]
end
section
variable {κ ν:Type} {f:κ→Value} {g:ν→Value}
def MapIs (w:World) (b:Nat) (f:κ→Value) (g:ν→Value) (l:List (κ×ν)):Prop :=
 ∃ es clock,w.heap[b]?=some (.map es clock)∧es.toList.map (fun e=>(e.key,e.val))=l.map fun p=>(f p.1,g p.2)
theorem MapIs.keys {es:Array MapEntry} {l:List (κ×ν)} (h:es.toList.map (fun e=>(e.key,e.val))=l.map fun p=>(f p.1,g p.2)):es.toList.map (·.key)=(l.map (·.1)).map f:=by have:=congrArg (List.map Prod.fst) h;simpa [List.map_map,Function.comp_def] using this
theorem MapIs.val {es:Array MapEntry} {l:List (κ×ν)} (h:es.toList.map (fun e=>(e.key,e.val))=l.map fun p=>(f p.1,g p.2)) (i:Nat):(es.toList[i]?).map (·.val)=(l[i]?).map fun p=>g p.2:=by have:=congrArg (fun x:List (Value×Value)=>(x[i]?).map Prod.snd) h;simpa [List.getElem?_map,Option.map_map,Function.comp_def] using this
theorem MapIs.made (w:World):MapIs { w with heap:=w.heap.push (.map #[] 0) } w.heap.size f g []:=⟨#[],0,i_,rfl⟩
theorem MapIs.of_block {w w':World} {b:Nat} {l:List (κ×ν)} (h:MapIs w b f g l) (he:w'.heap[b]?=w.heap[b]?):MapIs w' b f g l:=by obtain⟨es,clock,hb,hl⟩:=h;exact⟨es,clock,he.trans hb,hl⟩
theorem MapIs.lt {w:World} {b:Nat} {l:List (κ×ν)} (h:MapIs w b f g l):b<w.heap.size:=by obtain⟨es,clock,hb,hl⟩:=h;exact (Array.getElem?_eq_some_iff.1 hb).1
end
section
variable {P:Program} {κ:Type} [DecidableEq κ] {f:κ→Value} {ν:Type} {g:ν→Value}
def put (l:List (κ×ν)) (k:κ) (v:ν):List (κ×ν) :=
 match (l.map (·.1)).idxOf? k with
 | some i=>l.set i (k,v)
 | none=>l++[(k,v)]
def get? (l:List (κ×ν)) (k:κ):Option ν:=((l.map (·.1)).idxOf? k).bind fun i=>(l[i]?).map (·.2)
theorem MapIs.lookup {T K E:TypeId} {w:World} {b:Nat} {l:List (κ×ν)} (h:MapIs w b f g l) (hT:P.underlying T=some (.map K E)) (hK:KeysBy P K f) {z:Value}
  (hz:(zeroValue E).run P w=.ok z w) (k:κ) (c:Bool) :
  (Instr.lookup T (.map (some b)) (f k) c).run P w=.ok (if c then .tuple #[((get? l k).map g).getD z,.bool (get? l k).isSome] else ((get? l k).map g).getD z) w:=by
 obtain⟨es,clock,hb,hl⟩:=h;unfold Instr.lookup;have hr:(Go.underlying T).run P w=.ok (.map K E) w:=by unfold Go.underlying;simp [hT]
 have hg:(Go.getObj b).run P w=.ok (.map es clock) w:=by simp [Go.getObj,Sem.run,hb]
 rw [Sem.run_bind,hr];simp only [Result.andThen_ok];rw [Sem.run_bind,hg];simp only [Result.andThen_ok];rw [Sem.run_bind,Sem.run_pure];simp only [Result.andThen_ok];rw [Sem.run_bind,hK.check];simp only [Result.andThen_ok];rw [Sem.run_bind,hK.find k es.toList (l.map (·.1)) w (MapIs.keys hl)];simp only [Result.andThen_ok];unfold get?;cases hi:(l.map (·.1)).idxOf? k with
 | none=>simp [hz]
 | some i =>
  have hv:=MapIs.val hl i;cases he:es.toList[i]? with
  | none =>
   rw [he] at hv;cases hli:l[i]? with
   | none=>simp only [Option.bind_some,he,hli,Option.map_none];rw [Sem.run_bind,hz];simp
   | some p=>rw [hli] at hv;simp at hv
  | some e =>
   rw [he] at hv;cases hli:l[i]? with
   | none=>rw [hli] at hv;simp at hv
   | some p=>rw [hli] at hv;simp at hv;simp only [Option.bind_some,he,hli,Option.map_some];simp [hv]
theorem MapIs.update {T K E:TypeId} {w:World} {b:Nat} {l:List (κ×ν)} (h:MapIs w b f g l) (hT:P.underlying T=some (.map K E)) (hK:KeysBy P K f) (k:κ) (v:ν) :
  ∃ w',(Instr.mapUpdate T (.map (some b)) (f k) (g v)).run P w=.ok () w'∧MapIs w' b f g (put l k v)∧(∃ o,w'={ w with heap:=w.heap.setIfInBounds b o }):=by
 obtain⟨es,clock,hb,hl⟩:=h;have hlt:b<w.heap.size:=(Array.getElem?_eq_some_iff.1 hb).1;unfold Instr.mapUpdate;have hr:(Go.underlying T).run P w=.ok (.map K E) w:=by unfold Go.underlying;simp [hT]
 have hg:(Go.getObj b).run P w=.ok (.map es clock) w:=by simp [Go.getObj,Sem.run,hb]
 have hset:∀ o,(Go.setObj b o).run P w=.ok () { w with heap:=w.heap.setIfInBounds b o }:=fun o=>by simp [Go.setObj,Sem.run,hb]
 rw [Sem.run_bind,hr];simp only [Result.andThen_ok];rw [Sem.run_bind,hg];simp only [Result.andThen_ok];rw [Sem.run_bind,hK.check];simp only [Result.andThen_ok];rw [Sem.run_bind,hK.find k es.toList (l.map (·.1)) w (MapIs.keys hl)];simp only [Result.andThen_ok];have push:∃ w',(Go.setObj b (.map (es.push { key:=f k,val:=g v,born:=clock }) (clock+1))).run P w=.ok () w'∧MapIs w' b f g (l++[(k,v)])∧(∃ o,w'={ w with heap:=w.heap.setIfInBounds b o }):=by refine⟨_,hset _,⟨_,_,by rw [Array.getElem?_setIfInBounds_self_of_lt hlt],?_⟩,_,rfl⟩;simp [hl]
 unfold put;cases hi:(l.map (·.1)).idxOf? k with
 | none=>exact push
 | some i =>
  have hkeys:=MapIs.keys hl;have hsz:es.size=l.length:=by have:=congrArg List.length hl;simpa using this
  obtain⟨hil,hki⟩:∃ h:i<l.length,(l[i]).1=k:=by rw [List.idxOf?_eq_some_iff] at hi;obtain⟨h1,h2,_⟩:=hi;simp at h1 h2;exact⟨h1,h2⟩
  have hil':i<es.toList.length:=by simpa [hsz] using hil
  have he:es.toList[i]?=some es.toList[i]:=List.getElem?_eq_getElem hil';have hke:(es.toList[i]).key=f k:=by have:=congrArg (fun x:List Value=>x[i]?) hkeys;simp only [List.getElem?_map,he] at this;simp [hil,hki] at this;simpa using this
  simp only [Option.bind_some,he,Option.map_some];have hke':((es[i]?).map (·.key)).getD (f k)=f k:=by have hi3:i<es.size:=o_;simp [hi3];have:=hke;simpa using this
  rw [Sem.run_bind,hke'];unfold Instr.keyThatStays;rw [if_pos (hK.same k)];simp only [Sem.run_pure,Result.andThen_ok];refine⟨_,hset _,⟨_,_,by rw [Array.getElem?_setIfInBounds_self_of_lt hlt],?_⟩,_,rfl⟩;simp only [Array.toList_modify,List.map_set];apply List.ext_getElem?;intro j;have hj:=congrArg (fun x:List (Value×Value)=>x[j]?) hl;simp only [List.getElem?_map] at hj ⊢;rw [List.getElem?_modify,List.getElem?_set];by_cases hij:i=j;·
   subst hij;have hi3:i<es.size:=o_
   simp [hil,hi3]
  ·simp only [hij,if_false];simp only [List.getElem?_map];simpa using hj
end
section
variable {P:Program} {κ ν:Type} {f:κ→Value} {g:ν→Value}
theorem MapIs.len {w:World} {b:Nat} {l:List (κ×ν)} (h:MapIs w b f g l) {T K E:TypeId} (hT:P.underlying T=some (.map K E)) (ty:TypeId) :
  (Builtin.len_ #[T] ty #[.map (some b)]).run P w=.ok (.int .i64 l.length) w:=by
 obtain⟨es,clock,hb,hl⟩:=h;have hsz:es.size=l.length:=by have:=congrArg List.length hl;simpa using this
 have hg:(Go.getObj b).run P w=.ok (.map es clock) w:=by simp [Go.getObj,Sem.run,hb]
 have hr:(Go.underlying T).run P w=.ok (.map K E) w:=by unfold Go.underlying;simp [hT]
 unfold Builtin.len_;show Sem.run P (Go.underlying T >>= _) w=_;rw [Sem.run_bind,hr];simp only [Result.andThen_ok];show Sem.run P (Go.getObj b >>= _) w=_;rw [Sem.run_bind,hg];simp [goInt,hsz]
end
section
variable {P:Program} {κ:Type} [DecidableEq κ] {f:κ→Value} {ν:Type} {g:ν→Value} {ops:Array Oper} {rest:List Oper} {o:Oper} {a:Act} {w:World} {Q:Exit→Act→World→Prop}
theorem O2 {ρ:Operand→Value} {T:TypeId} {m x:Operand} {c:Bool} (ho:o.op=.lookup T m x c):(execOp ρ o).run P w=((Instr.lookup T (ρ m) (ρ x) c).run P w).andThen fun v w'=>.ok (.value v) w':=by unfold execOp;simp only [ho,Sem.run_bind];rfl
theorem Bc {T K E:TypeId} {m x:Operand} {b:Nat} {l:List (κ×ν)} {k:κ} {v:ν} {z:Value} {c:Bool} (hg:o.guard=none) (ho:o.op=.lookup T m x c) (hm:a.eval m=.map (some b)) (hx:a.eval x=f k) (h:MapIs w b f g l)
  (hT:P.underlying T=some (.map K E)) (hK:KeysBy P K f) (hz:(zeroValue E).run P w=.ok z w) (hv:get? l k=some v) (hnext:wpList P ops Q rest (a.put o.dst (if c then .tuple #[g v,.bool true] else g v)) w):wpList P ops Q (o::rest) a w:=by
 refine wpList_run hg ?_ hnext;rw [O2 ho,hm,hx,h.lookup hT hK hz k c,hv];rfl
theorem Ad {T K E:TypeId} {m x:Operand} {b:Nat} {l:List (κ×ν)} {k:κ} {z:Value} {c:Bool} (hg:o.guard=none) (ho:o.op=.lookup T m x c) (hm:a.eval m=.map (some b)) (hx:a.eval x=f k) (h:MapIs w b f g l)
  (hT:P.underlying T=some (.map K E)) (hK:KeysBy P K f) (hz:(zeroValue E).run P w=.ok z w) (hv:get? l k=none) (hnext:wpList P ops Q rest (a.put o.dst (if c then .tuple #[z,.bool false] else z)) w):wpList P ops Q (o::rest) a w:=by
 refine wpList_run hg ?_ hnext;rw [O2 ho,hm,hx,h.lookup hT hK hz k c,hv];rfl
theorem Br {T K E:TypeId} {m x u:Operand} {b:Nat} {l:List (κ×ν)} {k:κ} {v:ν} (hg:o.guard=none) (ho:o.op=.mapUpdate T m x u) (hm:a.eval m=.map (some b)) (hx:a.eval x=f k) (hu:a.eval u=g v) (h:MapIs w b f g l)
  (hT:P.underlying T=some (.map K E)) (hK:KeysBy P K f) (hnext:∀ q,MapIs { w with heap:=w.heap.setIfInBounds b q } b f g (put l k v)→wpList P ops Q rest (a.put o.dst undef) { w with heap:=w.heap.setIfInBounds b q }):wpList P ops Q (o::rest) a w:=by
 obtain⟨w',hr,hi,q,rfl⟩:=h.update hT hK k v;refine wpList_run_skip hg ?_ (hnext q hi);unfold execOp;simp only [ho,hm,hx,hu,Sem.run_bind,hr];rfl
end
end Go.Proofs.Mp
namespace Go.Proofs.Hp
open Go Go.RowKit
structure Fr (F:List Nat) (w w':World):Prop where
 os:w'.os=w.os
 tape:w'.tape=w.tape
 output:w'.output=w.output
 size:w.heap.size≤w'.heap.size
 block:∀ b,b<w.heap.size→b∉F→w'.heap[b]?=w.heap[b]?
theorem Fr.refl (F:List Nat) (w:World):Fr F w w:=⟨rfl,rfl,rfl,Nat.le_refl _,fun _ _ _=>rfl⟩
variable {F:List Nat}{w w':World}
theorem Fr.mono {G:List Nat} (h:Fr F w w') (hs:∀ x∈F,x∈G):Fr G w w':=⟨h.os,h.tape,h.output,h.size,fun b hb hn=>h.block b hb fun hx=>hn (hs b hx)⟩
theorem Fr.trans {F G:List Nat} {a b c:World} (h:Fr F a b) (k:Fr G b c) (hG:∀ x∈G,x∈F∨a.heap.size≤x):Fr F a c :=
 ⟨k.os.trans h.os,k.tape.trans h.tape,k.output.trans h.output,Nat.le_trans h.size k.size,fun i hi hn =>
  (k.block i (Nat.lt_of_lt_of_le hi h.size) fun hx=>by rcases hG i hx with h1|h1<;>first|exact hn h1|omega).trans (h.block i hi hn)⟩
variable {c:World}
theorem Fr.trans0 {a b:World} (h:Fr F a b) (k:Fr [] b c):Fr F a c:=h.trans k i_
theorem Fr.drew {F:List Nat} {a w:World} (h:Fr F a w):Fr F a w.drew:=⟨h.os,h.tape,h.output,h.size,h.block⟩
theorem Fr.drewN {F:List Nat} {a w:World} (h:Fr F a w) (n:Nat):Fr F a (w.drewN n):=⟨h.os,h.tape,h.output,h.size,h.block⟩
theorem Fr.alloc {F:List Nat} {a w:World} (h:Fr F a w) (o:Obj):Fr F a (w.alloc o) :=
 h.trans (G:=[]) ⟨rfl,rfl,rfl,i_,fun k hk _=>Below.heap_alloc _ _ _ hk⟩ i_
theorem Fr.setCell {F:List Nat} {a w:World} (h:Fr F a w) {p:Addr} (hp:p.block∈F∨a.heap.size≤p.block) (u:Value):Fr F a (w.setCell p u) :=
 h.trans (G:=[p.block]) ⟨rfl,rfl,rfl,by simp [World.setCell],fun k hk hn=>Below.heap_setCell _ _ _ _ (by simpa using hn)⟩ (by simpa using hp)
theorem Fr.n {F:List Nat} {a w:World} (h:Fr F a w) (n:Nat):Fr F a (w.drewN n):=h.drewN n
theorem Fr.d {a:World} (h:Fr F a w):Fr F a w.drew:=h.drew
theorem Fr.a {F:List Nat} {a w:World} (h:Fr F a w) (o:Obj):Fr F a (w.alloc o):=h.alloc o
theorem Fr.s {a:World} (h:Fr F a w) {p:Addr} (hp:p.block∈F∨a.heap.size≤p.block) (u:Value):Fr F a (w.setCell p u):=h.setCell hp u
theorem Fr.grown {a:World} {row:Option Nat} (h:Fr F a w) (hg:w.grownBy w' row) (hr:∀ k,row=some k→k∈F∨a.heap.size≤k):Fr F a w' :=
 h.trans (G:=row.toList) ⟨hg.os,hg.tape,hg.output,hg.size,fun k hk hn=>hg.block k hk fun e=>hn (by simp [← e])⟩ (by intro x hx;exact hr x (by simpa using hx))
variable {b:Nat}
theorem Fr.setBlock {a:World} (h:Fr F a w) (hp:b∈F∨a.heap.size≤b) (o:Obj):Fr F a { w with heap:=w.heap.setIfInBounds b o } :=
 h.trans (G:=[b]) ⟨rfl,rfl,rfl,i_,fun k hk hn=>by
  show (w.heap.setIfInBounds b o)[k]?=_
  rw [Array.getElem?_setIfInBounds_ne (by simpa using fun e:b=k=>hn (by simp [e]))]⟩ (by simpa using hp)
theorem Fr.below (h:Fr [] w w'):Below w.heap.size w w':=⟨h.os,h.tape,h.output,h.size,fun k hk=>h.block k hk i_⟩
theorem Fr.cell {F:List Nat} {w w':World} (h:Fr F w w') {p:Addr} (hp:p.block<w.heap.size) (hn:p.block∉F):w'.cell? p=w.cell? p:=World.cell?_of_block (w:=w) (h.block p.block hp hn)
theorem Fr.frozen {F:List Nat} {w w':World} (h:Fr F w w') {p:Addr} (hp:p.block<w.heap.size) (hn:p.block∉F):w'.frozen? p=w.frozen? p:=World.frozen?_of_block (w:=w) (h.block p.block hp hn)
variable {o:Obj}
theorem lBk (h:w.heap[b]?=some o):b<w.heap.size:=(Array.getElem?_eq_some_iff.1 h).1
variable {base e:Nat}{v:Value}{xs:List Value}
theorem oOB {size n:Nat} (h:w.ownsRow base e size v n xs) (hb:∀ g,v.ownBlock=some g→w'.heap[g]?=w.heap[g]?):w'.ownsRow base e size v n xs:=by
 obtain⟨h1,h2⟩:=h;refine⟨h1,?_⟩;rcases h2 with h2|⟨g,cap,cur,hv,hg,hh,r⟩
 ·exact .inl h2
 ·exact .inr ⟨g,cap,cur,hv,hg,by rw [hb g (by rw [hv];rfl)];exact hh,r⟩
variable {g:Nat}
theorem oLT {size n:Nat} (h:w.ownsRow base e size v n xs) (hg:v.ownBlock=some g):g<w.heap.size:=by
 rcases h.2 with ⟨h2,_⟩|⟨g',cap,cur,hv,_,hh,_⟩
 ·rw [h2] at hg;cases hg
 ·rw [hv] at hg;cases hg;exact lBk hh
theorem oFM {size n:Nat} (h:w.ownsRow base e size v n xs):∃ a cap,v=.slice a n cap∧(0<n→∃ g,a=some ⟨g,0,none⟩)∧(a=none→n=0∧cap=0):=by
 rcases h.2 with ⟨h2,h0⟩|⟨g,cap,cur,hv,_⟩
 ·exact⟨none,0,by rw [h2,h0],o_,o_⟩
 ·exact⟨_,cap,hv,fun _=>⟨g,rfl⟩,i_⟩
variable {cap j:Nat}
theorem An {size n:Nat} (h:w.ownsRow base e size v n xs) (hv:v=.slice (some ⟨g,0,none⟩) n cap) {u:Value} (hj:xs[j]?=some u) :
  w.cell? ⟨g,j,none⟩=some u:=by
 rcases h.2 with ⟨h2,h0⟩|⟨g',cap',cur,hv',_,hh,_,_,hs,ht⟩
 ·rw [h2] at hv;cases hv
 ·rw [hv'] at hv;cases hv;have hjl:j<xs.length:=(List.getElem?_eq_some_iff.1 hj).1;rw [← ht] at hj;unfold World.cell?;rw [hh];simp only [Option.isSome_none,Bool.false_eq_true,if_false];rw [List.getElem?_take] at hj;split at hj;·simpa using hj
  ·cases hj
variable {cs:Array Value}
theorem hEC {t:TypeId} {fr:Nat×Nat} (h:w.heap[b]?=some (.cells cs t fr)) (j:Nat):w.cell? ⟨b,j,none⟩=cs[j]?:=by unfold World.cell?;rw [h];rfl
theorem e2_ {t:TypeId} {fr:Nat×Nat} (h:w.heap[b]?=some (.cells cs t fr)):w.cell? ⟨b,0,none⟩=cs[0]?∧w.cell? ⟨b,1,none⟩=cs[1]?:=⟨hEC h 0,hEC h 1⟩
theorem l2_ {t:TypeId} {fr:Nat×Nat} (h:w.heap[b]?=some (.cells cs t fr)):w.cell? ⟨b,0,none⟩=cs[0]?∧w.cell? ⟨b,1,none⟩=cs[1]?∧b<w.heap.size:=⟨hEC h 0,hEC h 1,lBk h⟩
theorem e3_ {t:TypeId} {fr:Nat×Nat} (h:w.heap[b]?=some (.cells cs t fr)):w.cell? ⟨b,0,none⟩=cs[0]?∧w.cell? ⟨b,1,none⟩=cs[1]?∧w.cell? ⟨b,2,none⟩=cs[2]?:=⟨hEC h 0,hEC h 1,hEC h 2⟩
theorem l3_ {t:TypeId} {fr:Nat×Nat} (h:w.heap[b]?=some (.cells cs t fr)):w.cell? ⟨b,0,none⟩=cs[0]?∧w.cell? ⟨b,1,none⟩=cs[1]?∧w.cell? ⟨b,2,none⟩=cs[2]?∧b<w.heap.size:=⟨hEC h 0,hEC h 1,hEC h 2,lBk h⟩
theorem e4_ {t:TypeId} {fr:Nat×Nat} (h:w.heap[b]?=some (.cells cs t fr)):w.cell? ⟨b,0,none⟩=cs[0]?∧w.cell? ⟨b,1,none⟩=cs[1]?∧w.cell? ⟨b,2,none⟩=cs[2]?∧w.cell? ⟨b,3,none⟩=cs[3]?:=⟨hEC h 0,hEC h 1,hEC h 2,hEC h 3⟩
theorem l4_ {t:TypeId} {fr:Nat×Nat} (h:w.heap[b]?=some (.cells cs t fr)):w.cell? ⟨b,0,none⟩=cs[0]?∧w.cell? ⟨b,1,none⟩=cs[1]?∧w.cell? ⟨b,2,none⟩=cs[2]?∧w.cell? ⟨b,3,none⟩=cs[3]?∧b<w.heap.size:=⟨hEC h 0,hEC h 1,hEC h 2,hEC h 3,lBk h⟩
theorem e5_ {t:TypeId} {fr:Nat×Nat} (h:w.heap[b]?=some (.cells cs t fr)):w.cell? ⟨b,0,none⟩=cs[0]?∧w.cell? ⟨b,1,none⟩=cs[1]?∧w.cell? ⟨b,2,none⟩=cs[2]?∧w.cell? ⟨b,3,none⟩=cs[3]?∧w.cell? ⟨b,4,none⟩=cs[4]?:=⟨hEC h 0,hEC h 1,hEC h 2,hEC h 3,hEC h 4⟩
theorem l5_ {t:TypeId} {fr:Nat×Nat} (h:w.heap[b]?=some (.cells cs t fr)):w.cell? ⟨b,0,none⟩=cs[0]?∧w.cell? ⟨b,1,none⟩=cs[1]?∧w.cell? ⟨b,2,none⟩=cs[2]?∧w.cell? ⟨b,3,none⟩=cs[3]?∧w.cell? ⟨b,4,none⟩=cs[4]?∧b<w.heap.size:=⟨hEC h 0,hEC h 1,hEC h 2,hEC h 3,hEC h 4,lBk h⟩
theorem e6_ {t:TypeId} {fr:Nat×Nat} (h:w.heap[b]?=some (.cells cs t fr)):w.cell? ⟨b,0,none⟩=cs[0]?∧w.cell? ⟨b,1,none⟩=cs[1]?∧w.cell? ⟨b,2,none⟩=cs[2]?∧w.cell? ⟨b,3,none⟩=cs[3]?∧w.cell? ⟨b,4,none⟩=cs[4]?∧w.cell? ⟨b,5,none⟩=cs[5]?:=⟨hEC h 0,hEC h 1,hEC h 2,hEC h 3,hEC h 4,hEC h 5⟩
theorem l6_ {t:TypeId} {fr:Nat×Nat} (h:w.heap[b]?=some (.cells cs t fr)):w.cell? ⟨b,0,none⟩=cs[0]?∧w.cell? ⟨b,1,none⟩=cs[1]?∧w.cell? ⟨b,2,none⟩=cs[2]?∧w.cell? ⟨b,3,none⟩=cs[3]?∧w.cell? ⟨b,4,none⟩=cs[4]?∧w.cell? ⟨b,5,none⟩=cs[5]?∧b<w.heap.size:=⟨hEC h 0,hEC h 1,hEC h 2,hEC h 3,hEC h 4,hEC h 5,lBk h⟩
theorem e7_ {t:TypeId} {fr:Nat×Nat} (h:w.heap[b]?=some (.cells cs t fr)):w.cell? ⟨b,0,none⟩=cs[0]?∧w.cell? ⟨b,1,none⟩=cs[1]?∧w.cell? ⟨b,2,none⟩=cs[2]?∧w.cell? ⟨b,3,none⟩=cs[3]?∧w.cell? ⟨b,4,none⟩=cs[4]?∧w.cell? ⟨b,5,none⟩=cs[5]?∧w.cell? ⟨b,6,none⟩=cs[6]?:=⟨hEC h 0,hEC h 1,hEC h 2,hEC h 3,hEC h 4,hEC h 5,hEC h 6⟩
theorem l7_ {t:TypeId} {fr:Nat×Nat} (h:w.heap[b]?=some (.cells cs t fr)):w.cell? ⟨b,0,none⟩=cs[0]?∧w.cell? ⟨b,1,none⟩=cs[1]?∧w.cell? ⟨b,2,none⟩=cs[2]?∧w.cell? ⟨b,3,none⟩=cs[3]?∧w.cell? ⟨b,4,none⟩=cs[4]?∧w.cell? ⟨b,5,none⟩=cs[5]?∧w.cell? ⟨b,6,none⟩=cs[6]?∧b<w.heap.size:=⟨hEC h 0,hEC h 1,hEC h 2,hEC h 3,hEC h 4,hEC h 5,hEC h 6,lBk h⟩
theorem e8_ {t:TypeId} {fr:Nat×Nat} (h:w.heap[b]?=some (.cells cs t fr)):w.cell? ⟨b,0,none⟩=cs[0]?∧w.cell? ⟨b,1,none⟩=cs[1]?∧w.cell? ⟨b,2,none⟩=cs[2]?∧w.cell? ⟨b,3,none⟩=cs[3]?∧w.cell? ⟨b,4,none⟩=cs[4]?∧w.cell? ⟨b,5,none⟩=cs[5]?∧w.cell? ⟨b,6,none⟩=cs[6]?∧w.cell? ⟨b,7,none⟩=cs[7]?:=⟨hEC h 0,hEC h 1,hEC h 2,hEC h 3,hEC h 4,hEC h 5,hEC h 6,hEC h 7⟩
theorem l8_ {t:TypeId} {fr:Nat×Nat} (h:w.heap[b]?=some (.cells cs t fr)):w.cell? ⟨b,0,none⟩=cs[0]?∧w.cell? ⟨b,1,none⟩=cs[1]?∧w.cell? ⟨b,2,none⟩=cs[2]?∧w.cell? ⟨b,3,none⟩=cs[3]?∧w.cell? ⟨b,4,none⟩=cs[4]?∧w.cell? ⟨b,5,none⟩=cs[5]?∧w.cell? ⟨b,6,none⟩=cs[6]?∧w.cell? ⟨b,7,none⟩=cs[7]?∧b<w.heap.size:=⟨hEC h 0,hEC h 1,hEC h 2,hEC h 3,hEC h 4,hEC h 5,hEC h 6,hEC h 7,lBk h⟩
theorem J4 {t:TypeId} {fr:Nat×Nat} (h:w.heap[b]?=some (.cells cs t fr)) (j:Nat):w.cell? ((⟨b,0,none⟩:Addr).add j)=cs[j]?:=by
 rw [← hEC h j];congr 1;unfold Addr.add;split;·rename_i h0;rw [h0]
 ·simp
theorem hEF {t:TypeId} (h:w.heap[b]?=some (.cells cs t (0,0))) (j:Nat):w.frozen? ⟨b,j,none⟩=false:=by unfold World.frozen?;rw [h];simp
theorem Cq {t:TypeId} {fr:Nat×Nat} (h:w.heap[b]?=some (.cells cs t fr)) (j:Nat) (v:Value):(w.setCell ⟨b,j,none⟩ v).heap[b]?=some (.cells (cs.setIfInBounds j v) t fr):=by simp only [World.setCell,Array.getElem?_modify,if_true,h];rfl
theorem Cr (w:World) (a:Addr) (u:Value) (k:Nat) (h:k≠a.block):(w.setCell a u).heap[k]?=w.heap[k]?:=Below.heap_setCell _ _ _ _ h
theorem hAE (w:World) (o:Obj) (k:Nat) (h:k<w.heap.size):(w.alloc o).heap[k]?=w.heap[k]?:=Below.heap_alloc _ _ _ h
theorem B7 {size n:Nat} (h:w.ownsRow base e size v n xs) (hg:v.ownBlock=some g):base≤g:=by
 rcases h.2 with ⟨h2,_⟩|⟨g',cap,cur,hv,hb,_⟩
 ·rw [h2] at hg;cases hg
 ·rw [hv] at hg;cases hg;exact hb
theorem Ft {base' size n:Nat} (h:w.ownsRow base e size v n xs) (hb:base'≤base):w.ownsRow base' e size v n xs:=by
 obtain⟨h1,h2⟩:=h;refine⟨h1,?_⟩;rcases h2 with h2|⟨g,cap,cur,hv,hg,r⟩
 ·exact .inl h2
 ·exact .inr ⟨g,cap,cur,hv,Nat.le_trans hb hg,r⟩
theorem heap_setCell2 (w:World) (g i j:Nat) (u v:Value) {x:Nat} (h:x≠g):((w.setCell ⟨g,i,none⟩ u).setCell ⟨g,j,none⟩ v).heap[x]?=w.heap[x]?:=by rw [Below.heap_setCell _ _ _ _ h,Below.heap_setCell _ _ _ _ h]
def upd (off:Nat) (v:Value):Obj→Obj
 | .cells c e f=>.cells (c.setIfInBounds off v) e f
 | o=>o
theorem hDR (w:World):w.drew.heap=w.heap:=rfl
theorem hDN (w:World) (n:Nat):(w.drewN n).heap=w.heap:=rfl
theorem hAz (w:World) (o:Obj):(w.alloc o).heap.size=w.heap.size+1:=by simp
theorem hSz (w:World) (a:Addr) (u:Value):(w.setCell a u).heap.size=w.heap.size:=by simp [World.setCell]
theorem hAC (w:World) (o:Obj) (b:Nat):(w.alloc o).heap[b]?=if b=w.heap.size then some o else w.heap[b]?:=by show (w.heap.push o)[b]?=_;rw [Array.getElem?_push]
theorem hSC (w:World) (g j:Nat) (u:Value) (b:Nat):(w.setCell ⟨g,j,none⟩ u).heap[b]?=if b=g then (w.heap[b]?).map (upd j u) else w.heap[b]?:=by
 simp only [World.setCell,Array.getElem?_modify];by_cases h:g=b;·
  subst h;simp only [if_true];cases w.heap[g]? with
  | none=>rfl
  | some o=>cases o<;>rfl
 ·rw [if_neg h,if_neg fun e=>h e.symm]
theorem oMS {α β:Type} (f:α→β) (a:α):Option.map f (some a)=some (f a):=rfl
theorem lSZ {α:Type} (a b:α) (l:List α):(a::l).set 0 b=b::l:=rfl
theorem lSS {α:Type} (a b:α) (l:List α) (i:Nat):(a::l).set (i+1) b=a::l.set i b:=rfl
theorem uPC (off:Nat) (v:Value) (l:List Value) (e:TypeId) (f:Nat×Nat):upd off v (.cells l.toArray e f)=.cells (l.set off v).toArray e f:=by simp [upd]
variable {P:Program}{ops:Array Oper}{rest:List Oper}{W:World}{Q:Exit→Act→World→Prop}{z:Value}{bytes:Nat}
theorem Lk {o:Oper} {a:Act} (hgd:o.guard=none) {s x:Operand} {t:TypeId}
  (ho:o.op=.call { callee:=.builtin .append,args:=#[s,x],argTypes:=#[t,t] }) {size:Nat} (ht:P.underlying t=some (.slice e)) (hinfo:(P.info? e).map (fun i=>(i.zero,i.size,i.bytes))=some (some z,size,bytes))
  (hzs:z.cells.size=size) (hsz:0<size) {n:Nat} (hs:a.eval s=v) (hown:W.ownsRow base e size v n xs) {nb c:Nat} {news:List Value} {fr:Nat×Nat} (hx:a.eval x=.slice (some ⟨nb,0,none⟩) 1 c)
  (hnb:W.heap[nb]?=some (.cells news.toArray e fr)) (hl:news.length=size) (h1:∀ u∈news,u.oneCell'=true) (h63:n+1≤maxLen) (hbytes:(n+1)*bytes≤140737488355328) (hbase:base≤W.heap.size)
  (h:∀ g cap w',w'.ownsRow base e size (.slice (some ⟨g,0,none⟩) (n+1) cap) (n+1) (xs++news)→(∀ b,b<W.heap.size→v.ownBlock≠some b→w'.heap[b]?=W.heap[b]?)→Fr v.ownBlock.toList W w'→(v.ownBlock=some g∨g=W.heap.size)→g<w'.heap.size →
   wpList P ops Q rest (a.put o.dst (.slice (some ⟨g,0,none⟩) (n+1) cap)) w'):wpList P ops Q (o::rest) a W:=by
 obtain⟨i,hi,hz0,hz1,hz2⟩:=info_parts hinfo;refine wpList_append_lies W hgd s x t ho base e i z size bytes ht hi hz0 hz1 hz2 hzs hsz v n xs hs hown ⟨nb,0,none⟩ 1 c news hx o_ (fun j u hj=>?_) h1 (by decide) h63 hbytes hbase _ rfl fun g cap w' h1 h2 h3 h4=>h g cap w' h1 (fun b hb hn=>h2.block b hb fun e=>hn e.symm) ((Fr.refl _ _).grown h2 fun k hk=>.inl (by simp [hk])) h3 h4;rw [J4 hnb j];simpa using hj
theorem aBW {c:Code} {a:Act} (F:World→Prop) (h:F w) (k:∀ w,F w→c.wp P Q a w):c.wp P Q a w:=k w h
def Drew (w w':World):Prop:=∃ n,w'=w.drewN n
theorem Drew.refl (w:World):Drew w w:=⟨0,rfl⟩
theorem Drew.drew {a w:World} (h:Drew a w):Drew a w.drew:=by obtain⟨n,rfl⟩:=h;exact⟨n+1,rfl⟩
theorem Drew.drewN {a w:World} (h:Drew a w) (n:Nat):Drew a (w.drewN n):=by obtain⟨m,rfl⟩:=h;exact⟨m+n,World.drewN_drewN _ _ _⟩
theorem Drew.trans {a b:World} (h:Drew a b) (k:Drew b c):Drew a c:=by obtain⟨n,rfl⟩:=k;exact h.drewN n
theorem Drew.heap {a w:World} (h:Drew a w):w.heap=a.heap:=by obtain⟨n,rfl⟩:=h;rfl
theorem Drew.fr {a:World} (h:Drew a w) (F:List Nat):Fr F a w:=by obtain⟨n,rfl⟩:=h;exact (Fr.refl _ _).drewN n
theorem G6 {size n:Nat} (h:w.ownsRow base e size v n xs) (hv:v=.slice (some ⟨g,0,none⟩) n cap) (hj:j<xs.length) (u:Value):(w.setCell ⟨g,j,none⟩ u).ownsRow base e size v n (xs.set j u):=by
 obtain⟨h1,h2⟩:=h;refine⟨by rw [List.length_set];exact h1,?_⟩;rcases h2 with ⟨h2,_⟩|⟨g',cap',cur,hv',hb,hh,hn,hm,hs,ht⟩
 ·rw [h2] at hv;cases hv
 ·rw [hv'] at hv;cases hv;refine .inr ⟨g,cap,cur.setIfInBounds j u,hv',hb,Cq hh j u,hn,hm,by simpa using hs,?_⟩;rw [Array.toList_setIfInBounds,List.take_set,ht]
theorem Bo {size n:Nat} (h:w.ownsRow base e size v n xs) (hv:v=.slice (some ⟨g,0,none⟩) n cap) (j:Nat):w.frozen? ⟨g,j,none⟩=false:=by
 rcases h.2 with ⟨h2,_⟩|⟨g',cap',cur,hv',_,hh,_⟩
 ·rw [h2] at hv;cases hv
 ·rw [hv'] at hv;cases hv;exact hEF hh j
theorem Bs {wr w9:World} {size n:Nat} (hf:Fr [] w wr) (ho:wr.ownsRow w.heap.size e size v n xs) (h:Fr v.ownBlock.toList (wr.alloc o) w9):Fr [] w w9 :=
 (hf.alloc o).trans h fun x hx=>.inr (B7 ho (by simpa using hx))
theorem sCE (w:World) (a:Addr) (u:Value) {k:Nat} (h:k≠a.block):(w.setCell a u).heap[k]?=w.heap[k]?:=Below.heap_setCell _ _ _ _ h
def Reads (w:World) (v:Value) (n size:Nat) (xs:List Value):Prop :=
 xs.length=n*size∧∃ a c,v=.slice a n c∧(0<n→∃ g off,a=some ⟨g,off,none⟩∧g<w.heap.size∧∀ j u,xs[j]?=some u→w.cell? ⟨g,off+j,none⟩=some u)
theorem Reads.keep {n size:Nat} (h:Reads w v n size xs) (hk:∀ x,v.ownBlock=some x→x<w.heap.size→w'.heap[x]?=w.heap[x]?):Reads w' v n size xs:=by
 obtain⟨h1,a,c,rfl,h2⟩:=h;refine⟨h1,a,c,rfl,fun hn=>?_⟩;obtain⟨g,off,rfl,hg,hc⟩:=h2 hn;have hb:=hk g rfl hg;refine⟨g,off,rfl,?_,fun j u hj=>?_⟩;·
  have:w.heap[g]?=some w.heap[g]:=Array.getElem?_eq_getElem hg;exact lBk (hb.trans this)
 ·rw [World.cell?_of_block (w:=w) (a:=⟨g,off+j,none⟩) hb];exact hc j u hj
theorem Reads.fr {n size:Nat} (h:Reads w v n size xs) (hf:Fr [] w w'):Reads w' v n size xs:=h.keep fun x _ hx=>hf.block x hx i_
theorem Reads.of_owns {n size:Nat} (h:w.ownsRow base e size v n xs):Reads w v n size xs:=by refine⟨h.1,?_⟩;obtain⟨a,c,rfl,ha,_⟩:=oFM h;refine⟨a,c,rfl,fun hn=>?_⟩;obtain⟨g,rfl⟩:=ha hn;exact⟨g,0,rfl,oLT h rfl,fun j u hj=>by rw [Nat.zero_add];exact An h rfl hj⟩
theorem C3 {n size c:Nat} {cs:List Value} {t:TypeId} {fr:Nat×Nat} (h:w.heap[b]?=some (.cells cs.toArray t fr)) (hl:cs.length=n*size):Reads w (.slice (some ⟨b,0,none⟩) n c) n size cs :=
 ⟨hl,_,_,rfl,fun _=>⟨b,0,rfl,lBk h,fun j u hj=>by rw [Nat.zero_add,hEC h];simpa using hj⟩⟩
theorem Dt {o:Oper} {a:Act} (hgd:o.guard=none) {l c:Operand} {t e:TypeId} (ho:o.op=.makeSlice t l c) {n:Nat}
  (hl:a.eval l=.int .i64 n) (hc:a.eval c=.int .i64 n) (ht:P.underlying t=some (.slice e)) (hinfo:(P.info? e).map (fun i=>(i.zero,i.size,i.bytes))=some (some z,1,bytes)) (hz:z.cells=#[z])
  (hb:bytes*n≤281474976710656) (h63:n≤maxLen)
  (h:∀ w',w'.ownsRow W.heap.size e 1 (.slice (some ⟨W.heap.size,0,none⟩) n n) n (List.replicate n z)→Fr [] W w'→W.heap.size<w'.heap.size→wpList P ops Q rest (a.put o.dst (.slice (some ⟨W.heap.size,0,none⟩) n n)) w'):wpList P ops Q (o::rest) a W:=by
 obtain⟨i,hi,hz0,hz1,hz2⟩:=info_parts hinfo;obtain⟨w',hr,ho',hg⟩:=run_make_full W W.heap.size t e i z 1 ht hi hz0 hz1 .i64 .i64 n (by rw [hz2];exact hb) h63 (Nat.le_refl _) (P:=P);have hcells:(madeCells z.cells (n*1)).toList=List.replicate n z:=by
  rw [hz,Nat.mul_one];unfold madeCells;apply List.ext_getElem;·simp
  ·intro j h1 h2;simp [Nat.mod_one]
 rw [hcells] at ho';refine Mp.wpList_run hgd (w':=w') (v:=.slice (some ⟨W.heap.size,0,none⟩) n n) ?_ (h w' ho' ((Fr.refl _ _).grown hg i_) (oLT ho' rfl));unfold execOp;simp only [ho,hl,hc,Sem.run_bind,hr,Result.andThen_ok];rfl
theorem _root_.q_ {p:Prop}(h:p):Go.RowKit.Hid p:=h
theorem tk(f:Fr F w w')(h:Go.RowKit.Hid (w.heap[b]?=some o))(n:b∉F:=by simp):w'.heap[b]?=some o:=(f.block _ (lBk h.o) n).trans h.o
variable {i:Nat}
theorem aq_ {α:Type}{xs:Array α}{d:α}:xs.getD i d=xs[i]?.getD d:=Array.getD_eq_getD_getElem?
theorem bq_ {α:Type}{xs:List α}:xs.toArray[i]?=xs[i]?:=List.getElem?_toArray
theorem cq_ {α:Type}{a:α}{l:List α}:(a::l)[i+1]?=l[i]?:=List.getElem?_cons_succ
theorem dq_ {α:Type}{a:α}{l:List α}:(a::l)[0]?=some a:=List.getElem?_cons_zero
theorem eq_ {α:Type}{a b:α}:(some a).getD b=a:=Option.getD_some
theorem Fr.t (h:Fr F w w':=by (repeat first|exact Fr.refl _ _|assumption|apply Fr.n|apply Fr.d|apply Fr.a|refine Fr.s ?_ (.inr t_) _)):Fr F w w':=h
theorem hpT {α:Type}{x y:α} (h:x=y:=by (repeat first|rw [if_pos o_]|rw [if_neg o_]|rw [hDR]|rw [hDN]|rw [hAz]|rw [hSz]|rw [hAC]|rw [hSC]|rw [oMS]|rw [uPC]|rw [lSZ]|rw [lSS]|rfl)):x=y:=h
end Go.Proofs.Hp
namespace Go.Proofs.YtebolidfbflkmaaGreat
open Go Go.RowKit Rg Hp Bn
def Aw (l:List Nat):List Value:=l.map fun (n:Nat)=>Value.int .u32 n
theorem Cv (l:List Nat):(Aw l).length=l.length:=by simp [Aw]
theorem Av {l:List Nat} {i:Nat} (h:i<l.length):(Aw l)[i]?=some (.int .u32 (l.getD i 0:Nat)):=by rw [Aw,List.getElem?_map,List.getElem?_eq_getElem h,List.getD_eq_getElem?_getD,List.getElem?_eq_getElem h];rfl
theorem Reads.take {w:World} {a:Option Addr} {n c k:Nat} {xs:List Value} (h:Reads w (.slice a n c) n 1 xs) (hk:k≤n):Reads w (.slice a k c) k 1 (xs.take k):=by
 obtain⟨h1,a',c',he,h2⟩:=h;cases he;refine⟨by rw [List.length_take,h1];omega,_,_,rfl,fun hn=>?_⟩;obtain⟨g,off,rfl,hg,hc⟩:=h2 o_;refine⟨g,off,rfl,hg,fun j u hj=>hc j u ?_⟩;rw [List.getElem?_take] at hj;split at hj;·exact hj
 ·cases hj
def A7 (neg:Bool) (ds:List Nat):Bool:=if ds.length=0 then !neg else decide (ds.length≤64∧ds.getD (ds.length - 1) 0≠0)
def mkN (neg:Bool) (V:Nat):Bool×List Nat×Int:=if V=0 then (false,[],0) else if V<4294967296 ^ 64 then (neg,dg 4294967296 V,0) else (false,[],6)
def BigPost (w:World) (A:Nat→Prop) (r:Bool×List Nat×Int) (e:Ending) (w':World):Prop :=
 ∃ a c,(r.2.1.length≤c∧∀ g,(Value.slice a r.2.1.length c).ownBlock=some g→A g)∧e=.returned (.tuple #[.agg #[.bool r.1,.slice a r.2.1.length c],.int .i64 r.2.2])∧Reads w' (.slice a r.2.1.length c) r.2.1.length 1 (Aw r.2.1)∧Fr [] w w'
theorem Oj (a:Option Addr) (n m c d:Nat):(Value.slice a n c).ownBlock=(Value.slice a m d).ownBlock:=by
 cases a with
 | none=>rfl
 | some ad=>rfl
theorem reads_nil (w:World):Reads w (.slice none 0 0) 0 1 []:=⟨rfl,none,0,rfl,fun h=>absurd h o_⟩
variable {ty:TypeId}
theorem results_cell2 {fn:Func} {p u:Tmp} (h:fn.results=#[.cell p ty,.tmp u]) (tmps:Array Value) (P:Program) (w:World) :
  (results fn tmps).run P w=((asAddr (tmps.getD p undef)).run P w).andThen fun a w₁=>((loadVar ty a).run P w₁).andThen fun x w₂=>.ok (.tuple #[x,tmps.getD u undef]) w₂:=by
 simp only [results,h];simp [Sem.run_bind,Result.andThen]
theorem Et {fn:Func} {p:Tmp} (h:fn.results=#[.cell p ty]) (tmps:Array Value) (P:Program) (w:World) :
  (results fn tmps).run P w=((asAddr (tmps.getD p undef)).run P w).andThen fun a w₁=>(loadVar ty a).run P w₁:=by
 simp only [results,h];simp [Sem.run_bind,Result.andThen]
variable {neg:Bool}{V:Nat}
theorem Vk:(mkN neg V).2.1.length≤64:=by
 unfold mkN;split;·simp
 ·split;·rename_i h;exact (Az o_ 64).2 h
  ·simp
theorem Vl:Dig 4294967296 (mkN neg V).2.1:=by
 unfold mkN;split;·exact Dig.nil
 ·split;·exact Jw o_ V
  ·exact Dig.nil
end Go.Proofs.YtebolidfbflkmaaGreat
namespace Go.Proofs.Bn
open Go Go.RowKit Hp
variable {z:Nat}
theorem Ue (h:z<4294967296):z.testBit 31=decide (2147483648≤z):=by rw [Nat.testBit_eq_decide_div_mod_eq,decide_eq_decide];omega
theorem top31 (h:z<4294967296):z / 2147483648=(z.testBit 31).toNat:=by
 rw [Ue h];by_cases hz:2147483648≤z;·rw [decide_eq_true hz];show _=1;omega
 ·rw [decide_eq_false hz];show _=0;omega
def bor (x y b:Nat):Nat:=if x<y+b then 1 else 0
theorem bor_le (x y b:Nat):bor x y b≤1:=by unfold bor;split<;>omega
theorem sub32_bit {x y b:Nat} (hx:x<4294967296) (hy:y<4294967296) (hb:b≤1) :
  (((4294967295 ^^^ x) &&& y) ||| ((4294967295 ^^^ (x ^^^ y)) &&& ((x+4294967296 - y - b) % 4294967296))) / 2147483648=bor x y b:=by
 have hd:(x+4294967296 - y - b) % 4294967296<4294967296:=Nat.mod_lt _ o_;have hn1:4294967295 ^^^ x<4294967296:=Nat.xor_lt_two_pow (n:=32) o_ hx;have hxy:x ^^^ y<4294967296:=Nat.xor_lt_two_pow (n:=32) hx hy;have hn2:4294967295 ^^^ (x ^^^ y)<4294967296:=Nat.xor_lt_two_pow (n:=32) o_ hxy;have ha1:(4294967295 ^^^ x) &&& y<4294967296:=Nat.lt_of_le_of_lt Nat.and_le_right hy;have ha2:(4294967295 ^^^ (x ^^^ y)) &&& ((x+4294967296 - y - b) % 4294967296)<4294967296:=Nat.lt_of_le_of_lt Nat.and_le_right hd;rw [top31 (Nat.or_lt_two_pow (n:=32) ha1 ha2)];rw [Nat.testBit_or,Nat.testBit_and,Nat.testBit_and,Nat.testBit_xor,Nat.testBit_xor,Nat.testBit_xor,Ue hx,Ue hy,Ue hd,Ue (show 4294967295<4294967296 by omega)];unfold bor;by_cases h1:2147483648≤x<;>by_cases h2:2147483648≤y<;>by_cases h3:2147483648≤(x+4294967296 - y - b) % 4294967296<;>by_cases h4:x<y+b<;>simp [h1,h2,h3,h4]<;>omega
end Go.Proofs.Bn
namespace Go.Proofs.YtebolidfbflkmaaGreat
open Go Go.RowKit Rg Hp Bn
theorem V4 {a b:Int} (h:a=b):Ending.returned (.int .u64 a)=.returned (.int .u64 b):=by rw [h]
theorem wrap_u64 (n:Int):IntKind.u64.wrap n=n % 18446744073709551616:=by simp [IntKind.wrap,IntKind.bits,IntKind.signed]
def Gc (a b:Nat):Int:=if a<b then -1 else if b<a then 1 else 0
theorem u32s_one (l:List Nat):∀ u∈Aw l,u.oneCell'=true:=by intro u hu;simp only [Aw,List.mem_map] at hu;obtain⟨n,_,rfl⟩:=hu;rfl
end Go.Proofs.YtebolidfbflkmaaGreat
namespace Go.Proofs.Bn
open Go Go.RowKit Hp
variable {B:Nat}
theorem Ik {l:List Nat} {k v:Nat} (h:k<l.length):val B ((l.set k v).take (k+1))=val B (l.take k)+B ^ k*v:=by rw [Am,List.take_set_of_le (Nat.le_refl _),List.getD_eq_getElem?_getD,List.getElem?_set_self h];rfl
variable {vl va vb n:Nat}
theorem T8 {c la lb:Nat} (hB:2≤B) (h:vl+B ^ n*c=va+vb) (ha:va<B ^ la) (hb:vb<B ^ lb) (hla:la+1≤n) (hlb:lb+1≤n):c=0:=by
 rcases Nat.eq_zero_or_pos c with h0|h0
 ·exact h0
 ·exfalso;have h1:B ^ la≤B ^ (n - 1):=Nat.pow_le_pow_right o_ o_;have h2:B ^ lb≤B ^ (n - 1):=Nat.pow_le_pow_right o_ o_;have h3:B ^ n=B ^ (n - 1)*B:=by rw [← Nat.pow_succ];congr 1;omega
  have h4:B ^ (n - 1)*2≤B ^ n:=by rw [h3];exact Nat.mul_le_mul_left _ hB
  have h5:B ^ n*1≤B ^ n*c:=Nat.mul_le_mul_left _ h0;omega
variable {b:Nat}
theorem minus_end (h:vl+vb=va+B ^ n*b) (hl:vl<B ^ n) (hba:vb≤va):b=0∧vl=va - vb:=by
 rcases Nat.eq_zero_or_pos b with h0|h0
 ·subst h0;simp at h;omega
 ·exfalso;have h5:B ^ n*1≤B ^ n*b:=Nat.mul_le_mul_left _ h0;omega
theorem sub_digit {x y:Nat} (hx:x<4294967296) (hy:y<4294967296) (hb:b≤1):(x+4294967296 - y - b) % 4294967296+y+b=x+4294967296*bor x y b:=by unfold bor;split<;>omega
end Go.Proofs.Bn
namespace Go.Proofs.YtebolidfbflkmaaGreat
open Go Go.RowKit Rg Hp Bn
theorem Gz (l:List Nat) (i d:Nat):Aw (l.set i d)=(Aw l).set i (.int .u32 (d:Nat)):=by unfold Aw;rw [List.map_set]
theorem Gy (n:Nat):Aw (List.replicate n 0)=List.replicate n (.int .u32 0):=by simp [Aw]
variable {neg:Bool}{ds:List Nat}
theorem C7 (h:A7 neg ds=true):Canon ds∧ds.length≤64∧(ds=[]→neg=false):=by
 unfold A7 at h;by_cases h0:ds.length=0;·
  rw [if_pos h0] at h;obtain rfl:=List.eq_nil_of_length_eq_zero h0;exact⟨by decide,i_,fun _=>by simpa using h⟩
 ·rw [if_neg h0] at h;simp only [decide_eq_true_eq] at h;refine⟨?_,h.1,fun e=>absurd (by rw [e];rfl) h0⟩;unfold Canon;rw [List.getLast?_eq_getElem?,List.getElem?_eq_getElem o_];intro e;apply h.2;rw [List.getD_eq_getElem?_getD,List.getElem?_eq_getElem o_];exact Option.some.inj e
def Xd (na:Bool) (da:List Nat) (nb:Bool) (db:List Nat):Bool×List Nat×Int :=
 if (A7 na da && A7 nb db)=false then (false,[],2) else if na=nb then mkN na (val 4294967296 da+val 4294967296 db)
 else if val 4294967296 da<val 4294967296 db then mkN nb (val 4294967296 db - val 4294967296 da) else mkN na (val 4294967296 da - val 4294967296 db)
variable {w w':World}
theorem BigPost.mono {A A':Nat→Prop} {r:Bool×List Nat×Int} {e:Ending} (h:BigPost w A r e w') (hl:∀ g,A g→A' g):BigPost w A' r e w':=by obtain⟨a,c,h1,h2⟩:=h;exact⟨a,c,⟨h1.1,fun g hg=>hl g (h1.2 g hg)⟩,h2⟩
def cmpS (na:Bool) (da:List Nat) (nb:Bool) (db:List Nat):Int :=
 if (A7 na da && A7 nb db)=false then 0 else if na=nb then (if na then Gc (val 4294967296 db) (val 4294967296 da) else Gc (val 4294967296 da) (val 4294967296 db)) else if na then -1 else 1
def Mt (w:World) (A:Nat→Prop) (r:Bool×List Nat×Int) (e:Ending) (w':World):Prop :=
 ∃ a c,(r.2.1.length≤c∧∀ g,(Value.slice a r.2.1.length c).ownBlock=some g→A g)∧e=.returned (.agg #[.bool r.1,.slice a r.2.1.length c])∧Reads w' (.slice a r.2.1.length c) r.2.1.length 1 (Aw r.2.1)∧Fr [] w w'
def Tj (na:Bool) (da:List Nat):Bool×List Nat×Int:=if A7 na da=false then (false,[],0) else mkN (!na) (val 4294967296 da)
theorem Li (h:Fr [] w w'):(∀ b o,b<w.heap.size→w'.cell? ⟨b,o,none⟩=w.cell? ⟨b,o,none⟩)∧(∀ b o,b<w.heap.size→w'.frozen? ⟨b,o,none⟩=w.frozen? ⟨b,o,none⟩) :=
 ⟨fun b o hb=>h.cell (p:=⟨b,o,none⟩) hb i_,fun b o hb=>h.frozen (p:=⟨b,o,none⟩) hb i_⟩
theorem F7 {base e size n:Nat} {a:Option Addr} {c:Nat} {xs:List Value} (h:w.ownsRow base e size (.slice a n c) n xs):n≤c:=by
 rcases h.2 with ⟨h1,h0⟩|⟨g,cap,cur,h1,_,_,h2,_⟩
 ·omega
 ·cases h1;exact h2
def Nx (n:Int):Bool×List Nat×Int:=mkN (decide (n<0)) n.natAbs
def Tv (neg:Bool) (ds:List Nat):Int×Bool :=
 if A7 neg ds=false∨2<ds.length then (0,false) else if neg then (if val 4294967296 ds≤9223372036854775808 then (-(val 4294967296 ds:Nat),true) else (0,false))
 else (if val 4294967296 ds<9223372036854775808 then ((val 4294967296 ds:Nat),true) else (0,false))
variable {x y:Nat}
theorem or_shift (hx:x<4294967296):x ||| y*4294967296=x+y*4294967296:=by have:=Nat.two_pow_add_eq_or_of_lt (i:=32) hx y;rw [show 2 ^ 32=4294967296 from rfl] at this;rw [Nat.mul_comm,Nat.or_comm];omega
theorem Vp (h:x<9223372036854775808):Ending.returned (.tuple #[.int .i64 (wrap64 (x:Int)),.bool true])=.returned (.tuple #[.int .i64 (x:Nat),.bool true]):=by
 have e:wrap64 (x:Int)=x:=by simp only [wrap64];omega
 rw [e]
theorem Vq (h:x≤9223372036854775808):Ending.returned (.tuple #[.int .i64 (wrap64 (IntKind.u64.wrap (-(x:Int)))),.bool true])=.returned (.tuple #[.int .i64 (-(x:Nat)),.bool true]):=by
 have e:wrap64 (IntKind.u64.wrap (-(x:Int)))=-(x:Int):=by rw [wrap_u64];simp only [wrap64];omega
 rw [e]
theorem or_two (hx:x<4294967296) (hy:y<4294967296):bits BinOp.or IntKind.u64 (x:Int) (IntKind.u64.wrap (IntKind.u64.wrap (y:Int)*4294967296))=((val 4294967296 [x,y]:Nat):Int):=by rw [IntWalk.u64_in (y:Int) o_,show (y:Int)*4294967296=((y*4294967296:Nat):Int) by omega,IntWalk.u64_in _ o_,u64_or_nat _ _ o_ o_,or_shift hx];simp [val];omega
variable {B:Nat}{l:List Nat}
theorem val_zero_iff (hB:0<B):∀ i,val B (l.take (i+1))=0↔val B (l.take i)=0∧l.getD i 0=0:=by
 intro i;rw [Am];have:=Nat.pow_pos (n:=i) hB;constructor;·
  intro h;refine⟨o_,?_⟩;have h2:B ^ i*l.getD i 0=0:=o_
  rcases Nat.mul_eq_zero.1 h2 with h|h
  ·omega
  ·exact h
 ·rintro⟨h1,h2⟩;rw [h1,h2,Nat.mul_zero]
theorem val_take_ne (i:Nat) (hB:0<B) (h:val B (l.take (i+1))≠0) (hi:i<l.length):val B l≠0:=by rw [D9 B l (i+1) o_];omega
def DownPost (w:World) (V:Nat) (lost:Bool) (n:Nat) (e:Ending) (w':World):Prop :=
 ∃ a c os,e=.returned (.tuple #[.slice a os.length c,.bool lost])∧Reads w' (.slice a os.length c) os.length 1 (Aw os)∧(∀ g,(Value.slice a os.length c).ownBlock=some g→w.heap.size≤g)∧Dig 4294967296 os∧val 4294967296 os=V∧os.length≤n∧os.length≤c∧Fr [] w w'
variable {k wd rs:Nat}
theorem I0 {ds:List Nat} (hwd:k / 32=wd) (hrs:k % 32=rs):2 ^ k=4294967296 ^ wd*2 ^ rs∧4294967296=2 ^ rs*2 ^ (32 - rs):=by
 constructor;·
  rw [show 4294967296=2 ^ 32 from rfl,← Nat.pow_mul,← Nat.pow_add];congr 1;omega
 ·rw [← Nat.pow_add,show rs+(32 - rs)=32 by omega]
theorem lost_iff (hD:Dig 4294967296 ds) (hwd:k / 32=wd) (hrs:k % 32=rs) (hi:wd<ds.length):val 4294967296 ds % 2 ^ k=0↔val 4294967296 (ds.take wd)=0∧ds.getD wd 0 % 2 ^ rs=0:=by
 obtain⟨h1,h2⟩:=I0 (ds:=ds) hwd hrs;have hp:=Nat.pow_pos (n:=wd) (show 0<4294967296 by omega);have hlt:=Ce (hD.take wd);rw [List.length_take,Nat.min_eq_left o_] at hlt;rw [h1,D9 _ ds wd o_,Nat.mod_mul,Nat.add_mul_mod_self_left,Nat.mod_eq_of_lt hlt,Nat.add_mul_div_left _ _ hp,Nat.div_eq_of_lt hlt,Nat.zero_add,Gx];have h3:(ds.getD wd 0+4294967296*val 4294967296 (ds.drop (wd+1))) % 2 ^ rs=ds.getD wd 0 % 2 ^ rs:=by
  conv=>lhs;rw [h2,Nat.mul_assoc,Nat.add_mul_mod_self_left]
 rw [h3];constructor;·
  intro h;refine⟨o_,?_⟩;have:4294967296 ^ wd*(ds.getD wd 0 % 2 ^ rs)=0:=o_
  rcases Nat.mul_eq_zero.1 this with h|h
  ·omega
  ·exact h
 ·rintro⟨e1,e2⟩;rw [e1,e2,Nat.mul_zero]
theorem down_digit (hD:Dig 4294967296 ds) (hwd:k / 32=wd) (hrs:k % 32=rs) {i:Nat} (hi:wd+i<ds.length):val 4294967296 ds / 2 ^ k / 4294967296 ^ i % 4294967296=val 4294967296 [ds.getD (wd+i) 0,ds.getD (wd+i+1) 0] / 2 ^ rs % 4294967296:=by
 obtain⟨h1,h2⟩:=I0 (ds:=ds) hwd hrs;rw [h1,Nat.div_div_eq_div_mul,show 4294967296 ^ wd*2 ^ rs*4294967296 ^ i=4294967296 ^ (wd+i)*2 ^ rs by rw [Nat.pow_add];simp only [Nat.mul_assoc,Nat.mul_comm,Nat.mul_left_comm],← Nat.div_div_eq_div_mul,Uw hD o_,Gx,Gx];have e:val 4294967296 [ds.getD (wd+i) 0,ds.getD (wd+i+1) 0]=ds.getD (wd+i) 0+4294967296*ds.getD (wd+i+1) 0:=by simp [val]
 rw [e];generalize ds.getD (wd+i) 0=x;generalize ds.getD (wd+i+1) 0=y;generalize val 4294967296 (ds.drop (wd+i+1+1))=R;have hp:=Nat.pow_pos (n:=rs) (show 0<2 by omega);have e2:x+4294967296*(y+4294967296*R)=x+4294967296*y+2 ^ rs*(4294967296*(2 ^ (32 - rs)*R)):=by
  rw [Nat.mul_add,← Nat.add_assoc];congr 1
  conv=>lhs;arg 1;rw [h2]
  simp only [Nat.mul_assoc,Nat.mul_left_comm]
 rw [e2,Nat.add_mul_div_left _ _ hp,Nat.add_mul_mod_self_left]
theorem and_mask (hx:x<4294967296) (hr:rs<32):(bits BinOp.and IntKind.u32 (x:Int) (((2:Int) ^ rs - 1) % 4294967296) != 0)=decide (x % 2 ^ rs≠0):=by
 have h1:2 ^ rs≤2 ^ 31:=Nat.pow_le_pow_right o_ o_;have h2:=Nat.pow_pos (n:=rs) (show 0<2 by omega);have e1:(((2:Int) ^ rs - 1) % 4294967296)=((2 ^ rs - 1:Nat):Int):=by
  rw [show ((2:Int) ^ rs)=((2 ^ rs:Nat):Int) by simp];generalize 2 ^ rs=p at *
  omega
 rw [e1,u32_and_nat x (2 ^ rs - 1) hx o_,Nat.and_two_pow_sub_one_eq_mod];generalize x % 2 ^ rs=z;by_cases h:z=0<;>simp [h]
def O3 (neg:Bool) (V m:Nat):Nat:=V / 2 ^ m+if neg && decide (V % 2 ^ m≠0) then 1 else 0
def D8 (neg:Bool) (ds:List Nat) (k:Int):Bool×List Nat×Int :=
 if A7 neg ds=false then (false,[],2) else if ds.length=0 then (false,[],0)
 else if k<0 then mkN neg (O3 neg (val 4294967296 ds) (if k < -4096 then 4096 else (-k).toNat))
 else if 2048<k then (false,[],6) else mkN neg (val 4294967296 ds*2 ^ k.toNat)
theorem shl_facts {o:Nat} (hx:x<4294967296) (hr:rs<32) (ho:o<2 ^ rs) :
  ∃ v:Nat,IntKind.u64.wrap ((x:Int)*2 ^ rs)=v∧v / 4294967296<2 ^ rs∧bits BinOp.or IntKind.u32 (o:Int) ((v:Int) % 4294967296)=((o+v % 4294967296:Nat):Int)∧v=x*2 ^ rs∧o+v % 4294967296<4294967296:=by
 have h1:2 ^ rs≤2 ^ 31:=Nat.pow_le_pow_right o_ o_;have h2:x*2 ^ rs≤4294967295*2 ^ rs:=Nat.mul_le_mul_right _ o_;have h3:x*2 ^ rs % 4294967296=2 ^ rs*(x % 2 ^ (32 - rs)):=by rw [show 4294967296=2 ^ (32 - rs)*2 ^ rs by rw [← Nat.pow_add,show 32 - rs+rs=32 by omega],Nat.mul_mod_mul_right,Nat.mul_comm]
 have h4:2 ^ rs*2 ^ (32 - rs)=4294967296:=by rw [← Nat.pow_add,show rs+(32 - rs)=32 by omega]
 have h5:x % 2 ^ (32 - rs)<2 ^ (32 - rs):=Nat.mod_lt _ (Nat.pow_pos o_);have h6:2 ^ rs*(x % 2 ^ (32 - rs))+2 ^ rs≤2 ^ rs*2 ^ (32 - rs):=by rw [← Nat.mul_succ];exact Nat.mul_le_mul_left _ h5
 have hor:=Nat.two_pow_add_eq_or_of_lt (i:=rs) ho (x % 2 ^ (32 - rs));refine⟨x*2 ^ rs,?_,?_,?_,rfl,?_⟩;·
  rw [show ((x:Int)*2 ^ rs)=((x*2 ^ rs:Nat):Int) by simp];exact IntWalk.u64_in _ o_
 ·omega
 ·rw [show (((x*2 ^ rs:Nat):Int) % 4294967296)=((x*2 ^ rs % 4294967296:Nat):Int) by simp,h3,u32_or_nat _ _ o_ o_,Nat.or_comm,← hor,Nat.add_comm]
 ·rw [h3];omega
def bitS (neg:Bool) (ds:List Nat) (k:Int):Nat :=
 if A7 neg ds=false∨k<0 then 0 else if 2048≤k then (if neg then 1 else 0) else (D8 neg ds (-k)).2.1.getD 0 0 % 2
theorem and_one (h:x<4294967296):bits BinOp.and IntKind.u32 (x:Int) 1=((x % 2:Nat):Int):=by have e:=u32_and_nat x 1 h o_;rw [Nat.and_one_is_mod] at e;exact e
theorem shiftS_dig {k:Int}:Dig 4294967296 (D8 neg ds k).2.1∧(D8 neg ds k).2.1.length≤64:=by
 unfold D8;split;·exact⟨Dig.nil,i_⟩
 ·split;·exact⟨Dig.nil,i_⟩
  ·split;·exact⟨Vl,Vk⟩
   ·split;·exact⟨Dig.nil,i_⟩
    ·exact⟨Vl,Vk⟩
end Go.Proofs.YtebolidfbflkmaaGreat
namespace Go.Proofs.Bn
open Go Go.RowKit Hp
theorem Pg (P d:Nat):P*(d % 256)+P*256*(d / 256)=P*d:=by have h1:=Nat.mod_add_div d 256;rw [Nat.mul_assoc,← Nat.mul_add,h1]
end Go.Proofs.Bn
namespace Go.Proofs.YtebolidfbflkmaaGreat
open Go Go.RowKit Rg Hp Bn
def Bi (l:List Nat):List Value:=l.map fun (n:Nat)=>Value.int .i64 n
theorem Pn {l:List Nat} {i:Nat} (h:i<l.length):(Bi l)[i]?=some (.int .i64 (l.getD i 0:Nat)):=by rw [Bi,List.getElem?_map,List.getElem?_eq_getElem h,List.getD_eq_getElem?_getD,List.getElem?_eq_getElem h];rfl
theorem D5 (l:List Nat) (d:Nat):Bi l++[.int .i64 d]=Bi (l++[d]):=by simp [Bi]
def Mq (w:World) (A:Nat→Prop) (ds:List Nat) (e:Ending) (w':World):Prop :=
 ∃ a c,(ds.length≤c∧∀ g,(Value.slice a ds.length c).ownBlock=some g→A g)∧e=.returned (.slice a ds.length c)∧Reads w' (.slice a ds.length c) ds.length 1 (Bi ds)∧Fr [] w w'
theorem Nq {w:World} {ds:List Nat} {a:Option Addr} {c:Nat} (hv:Reads w (.slice a ds.length c) ds.length 1 (Bi ds)) (hD:Dig 256 ds) (c':Nat) :
  Reads w (.slice a (dg 256 (val 256 ds)).length c') (dg 256 (val 256 ds)).length 1 (Bi (dg 256 (val 256 ds)))∧(dg 256 (val 256 ds)).length≤ds.length:=by
 obtain⟨k,hk,hkt⟩:=Io (by omega:2≤256) ds.length rfl hD;have hkl:(Eu 256 ds).length=k:=by rw [hkt,List.length_take,Nat.min_eq_left hk]
 have hr:=Reads.take hv hk;have hu:(Bi ds).take k=Bi (dg 256 (val 256 ds)):=by rw [Bi,Bi,← List.map_take,← hkt];rfl
 rw [hu] at hr;have e:(dg 256 (val 256 ds)).length=k:=hkl;rw [e];obtain⟨h1,a',c2,he,h2⟩:=hr;cases he;exact⟨⟨h1,_,_,rfl,h2⟩,hk⟩
variable {V:Nat}
theorem bytes_step {B P vo x0 d2:Nat} (h:vo+P*d2=V+B*x0):vo+P*(d2 % 256)+P*256*(d2 / 256)=V+B*x0:=by have:=Pg P d2;omega
theorem Mz (i:Nat):256 ^ (4*i)=4294967296 ^ i:=by rw [Nat.pow_mul]
variable {n m:Nat}
theorem Lq (h:n≤m):2 ^ n≤2 ^ m:=Nat.pow_le_pow_right o_ h
theorem P2 (h:32*n≤m):4294967296 ^ n≤2 ^ m:=by rw [show (4294967296:Nat)=2 ^ 32 from rfl,← Nat.pow_mul];exact Lq h
theorem dg_len256 {k:Nat} (hn:n≤k) (h:V<4294967296 ^ n):(dg 256 V).length≤4*k:=by rw [Az o_,Mz];exact Nat.lt_of_lt_of_le h (Nat.pow_le_pow_right o_ hn)
end Go.Proofs.YtebolidfbflkmaaGreat
namespace Go.Proofs.Bn
open Go Go.RowKit Hp
theorem val_quad (T:List Nat) (i k:Nat) (hk:k<4):val 256 ((T.drop (i+k)).take (4 - k))=T.getD (i+k) 0+256*val 256 ((T.drop (i+(k+1))).take (4 - (k+1))):=by
 have e:4 - k=(4 - (k+1))+1:=o_
 by_cases h:i+k<T.length;·rw [List.drop_eq_getElem_cons h,e,List.take_succ_cons,val,List.getD_eq_getElem?_getD,List.getElem?_eq_getElem h];rfl
 ·rw [List.drop_eq_nil_of_le o_,List.drop_eq_nil_of_le o_,List.getD_eq_getElem?_getD,List.getElem?_eq_none o_];simp [val]
theorem val_take4 (T:List Nat) (i:Nat) (h:i≤T.length):val 256 (T.take (i+4))=val 256 (T.take i)+256 ^ i*val 256 ((T.drop i).take 4):=by rw [List.take_add,val_append,List.length_take,Nat.min_eq_left h]
end Go.Proofs.Bn
namespace Go.Proofs.YtebolidfbflkmaaGreat
open Go Go.RowKit Rg Hp Bn
def ListVal (w:World) (A:Nat→Prop) (V n:Nat) (e:Ending) (w':World):Prop:=∃ L,Dig 256 L∧val 256 L=V∧L.length≤n∧Mq w A L e w'
end Go.Proofs.YtebolidfbflkmaaGreat
namespace Go.Proofs.Bn
open Go Go.RowKit Hp
theorem val_chunk (B m:Nat) (T:List Nat) (i k:Nat) (hk:k<m):val B ((T.drop (i+k)).take (m - k))=T.getD (i+k) 0+B*val B ((T.drop (i+(k+1))).take (m - (k+1))):=by
 have e:m - k=(m - (k+1))+1:=o_
 by_cases h:i+k<T.length;·rw [List.drop_eq_getElem_cons h,e,List.take_succ_cons,val,List.getD_eq_getElem?_getD,List.getElem?_eq_getElem h];rfl
 ·rw [List.drop_eq_nil_of_le o_,List.drop_eq_nil_of_le o_,List.getD_eq_getElem?_getD,List.getElem?_eq_none o_];simp [val]
theorem val_takeN (B m:Nat) (T:List Nat) (i:Nat) (h:i≤T.length):val B (T.take (i+m))=val B (T.take i)+B ^ i*val B ((T.drop i).take m):=by rw [List.take_add,val_append,List.length_take,Nat.min_eq_left h]
theorem bit_val {ds:List Nat} (hD:Dig 256 ds) (k:Nat):ds.getD (k / 8) 0 / 2 ^ (k % 8) % 2=val 256 ds / 2 ^ k % 2:=by
 have h1:=val_digit hD o_ (k / 8);have h2:2 ^ k=256 ^ (k / 8)*2 ^ (k % 8):=by rw [show 256=2 ^ 8 from rfl,← Nat.pow_mul,← Nat.pow_add];congr 1;omega
 rw [h2,← Nat.div_div_eq_div_mul,← h1];generalize val 256 ds / 256 ^ (k / 8)=N;have hr:k % 8<8:=Nat.mod_lt _ o_;generalize k % 8=r at *
 have h3:N=N % 256+256*(N / 256):=(Nat.mod_add_div N 256).symm;have h4:256*(N / 256)=2 ^ r*(2*(2 ^ (7 - r)*(N / 256))):=by rw [← Nat.mul_assoc 2,← Nat.mul_assoc (2 ^ r)];congr 1;rw [← Nat.pow_succ',← Nat.pow_add,show r+(7 - r).succ=8 by omega]
 conv=>rhs;rw [h3,h4,Nat.add_mul_div_left _ _ (Nat.pow_pos o_),Nat.add_mul_mod_self_left]
end Go.Proofs.Bn
namespace Go.Proofs.YtebolidfbflkmaaGreat
open Go Go.RowKit Rg Hp Bn
theorem Lg (l:List Nat):Bi l++[.int .i64 0]=Bi (l++[0]):=D5 l 0
end Go.Proofs.YtebolidfbflkmaaGreat
namespace Go.Proofs.Bn
open Go Go.RowKit Hp
theorem mod_step (V i:Nat):V % 2 ^ (i+1)=V % 2 ^ i+2 ^ i*(V / 2 ^ i % 2):=by rw [Nat.pow_succ,Nat.mod_mul]
variable {V i:Nat}
theorem Nc {m:Nat} (h:m≤i):V % 2 ^ (i+1) / 2 ^ m=V % 2 ^ i / 2 ^ m+2 ^ (i - m)*(V / 2 ^ i % 2):=by
 rw [mod_step];have e:2 ^ i*(V / 2 ^ i % 2)=2 ^ m*(2 ^ (i - m)*(V / 2 ^ i % 2)):=by rw [← Nat.mul_assoc,← Nat.pow_add,show m+(i - m)=i by omega]
 rw [e,Nat.add_mul_div_left _ _ (Nat.pow_pos o_)]
theorem N5:(V % 2 ^ (i+1)≠0)↔(V % 2 ^ i≠0∨V / 2 ^ i % 2=1):=by
 rw [mod_step];have hp:=Nat.pow_pos (n:=i) (show 0<2 by omega);have hb:V / 2 ^ i % 2<2:=Nat.mod_lt _ o_;generalize V / 2 ^ i % 2=b at *
 rcases (show b=0∨b=1 by omega) with rfl|rfl
 ·simp
 ·first|(simp;done)|(simp;omega)
end Go.Proofs.Bn
namespace Go.Proofs.YtebolidfbflkmaaGreat
open Go Go.RowKit Rg Hp Bn
def shV (neg:Bool) (V p m:Nat):Nat:=2 ^ p*(V / 2 ^ m)+if neg && decide (V % 2 ^ m≠0) then 1 else 0
theorem U8 {neg:Bool} {V m M:Nat} (hV:V<2 ^ M) (hm:M≤m):O3 neg V m=O3 neg V M:=by unfold O3;have h2:V<2 ^ m:=Nat.lt_of_lt_of_le hV (Nat.pow_le_pow_right o_ hm);rw [Nat.div_eq_of_lt hV,Nat.div_eq_of_lt h2,Nat.mod_eq_of_lt hV,Nat.mod_eq_of_lt h2]
variable {i b c:Nat}
theorem Sn {k x a:Nat} (h1:i≤a) (h2:k≤b) (h3:x<2 ^ k) (h4:a+b≤8*c:=by decide):2 ^ i*x<256 ^ c:=by have h5:2 ^ i*x<2 ^ a*2 ^ b:=Nat.lt_of_le_of_lt (Nat.mul_le_mul (Lq h1) (Nat.le_refl _)) (Nat.mul_lt_mul_of_pos_left (Nat.lt_of_lt_of_le h3 (Lq h2)) (Nat.pow_pos o_));rw [← Nat.pow_add] at h5;refine Nat.lt_of_lt_of_le h5 ?_;rw [show 256=2 ^ 8 from rfl,← Nat.pow_mul];exact Lq h4
theorem getD_set_ne {l:List Nat} {j d:Nat} (h:j≠i):(l.set i d).getD j 0=l.getD j 0:=by simp only [List.getD_eq_getElem?_getD];rw [List.getElem?_set_ne (fun e=>h e.symm)]
theorem u32s_snoc (l:List Nat) (d:Nat):Aw l++[.int .u32 d]=Aw (l++[d]):=by simp [Aw]
variable {tmps:Array Value}{w':World}{x y v:Value}
theorem bRS {fn:Func} {p u:Tmp} (h:fn.results=#[.cell p 30,.tmp u]) (h4:tmps.getD p undef=.pointer (some ⟨b,0,none⟩)) (hb:w'.heap[b]?=some (.cells #[x,y] 30 (0,0))) (h5:tmps.getD u undef=v) :
  (results fn tmps).run Tryz.prog w'=.ok (.tuple #[.agg #[x,y],v]) w':=by
 rw [results_cell2 h,h4];simp only [asAddr,Sem.run_pure,Result.andThen];rw [run_loadVar_row w' b _ _ _ _ _ hb Tryz.underlying30 rfl k_];simp only [h5]
theorem Ai {fn:Func} {p:Tmp} (h:fn.results=#[.cell p 30]) (h4:tmps.getD p undef=.pointer (some ⟨b,0,none⟩)) (hb:w'.heap[b]?=some (.cells #[x,y] 30 (0,0))) :
  (results fn tmps).run Tryz.prog w'=.ok (.agg #[x,y]) w':=by
 rw [Et h,h4];simp only [asAddr,Sem.run_pure,Result.andThen];rw [run_loadVar_row w' b _ _ _ _ _ hb Tryz.underlying30 rfl k_]
theorem info_u32':(Tryz.prog.info? 75).map (fun i=>(i.zero,i.size,i.bytes))=some (some (.int .u32 0),1,4):=by kernel_rfl
theorem append_u32 {ops:Array Oper} {rest:List Oper} {o:Oper} {a:Act} {W:World} {Q:Exit→Act→World→Prop} (hgd:o.guard=none) {s x:Operand} (ho:o.op=.call { callee:=.builtin .append,args:=#[s,x],argTypes:=#[28,28] })
  {base:Nat} {n:Nat} {xs:List Value} (hs:a.eval s=v) (hown:W.ownsRow base 75 1 v n xs) {nb:Nat} {y:Int} (hx:a.eval x=.slice (some ⟨nb,0,none⟩) 1 c)
  (hnb:W.heap[nb]?=some (.cells #[.int .u32 y] 75 (0,0))) (hn:n≤4000000000000) (hbase:base≤W.heap.size)
  (h:∀ g cap w',w'.ownsRow base 75 1 (.slice (some ⟨g,0,none⟩) (n+1) cap) (n+1) (xs++[.int .u32 y])→(∀ b,b<W.heap.size→v.ownBlock≠some b→w'.heap[b]?=W.heap[b]?)→Fr v.ownBlock.toList W w'→(v.ownBlock=some g∨g=W.heap.size)→g<w'.heap.size →
   wpList Tryz.prog ops Q rest (a.put o.dst (.slice (some ⟨g,0,none⟩) (n+1) cap)) w'):wpList Tryz.prog ops Q (o::rest) a W :=
 Lk hgd ho Tryz.underlying28 info_u32' rfl (by decide) hs hown hx (news:=[.int .u32 y]) hnb rfl (by intro u hu;simp at hu;subst hu;rfl) (by unfold maxLen;omega) o_ hbase h
end Go.Proofs.YtebolidfbflkmaaGreat
