/- Own texts of this claim, part 3: no condition. -/
import Derived.Deep.MidRow
import Derived.Maps.OwnOps
import Derived.Test.YtebolidfbflkmaaGreatZN1
set_option linter.unusedVariables false
set_option linter.unusedSimpArgs false
section
namespace Go.Proofs.Rg
open Go
def again (P:Program) (ops:Array Oper) (k:Nat) (a:Act) (w:World):Prop :=
 ∀ o,ops[k]?=some o→Region.wanted o (yielded ops a.tmps)=true→∃ u,(execOp a.eval o).run P w=.ok (.value u) w∧(a.put o.dst u).tmps=a.tmps
def wpG (P:Program) (ops:Array Oper) (Q:Exit→Act→World→Prop) (chk:Nat→List Nat):List Nat→Act→World→Prop
 | [],a,w=>Q .normal a w
 | i::rest,a,w=>wpOp P ops Q i (fun a' w'=>(∀ k∈chk i,again P ops k a' w')∧wpG P ops Q chk rest a' w') a w
section
variable {P:Program} {ops:Array Oper} {K0:Act→World→Prop}
theorem put_put (a:Act) (d:Option Tmp) (v u:Value):(a.put d v).put d u=a.put d u:=by
 cases d with
 | none=>rfl
 | some d=>simp [Act.put]
theorem again_put {k:Nat} {o:Oper} (hk:ops[k]?=some o) {dst:Option Tmp} {v:Value} {a a':Act} {w:World} (ht:a'.tmps=(a.put dst v).tmps) (h1:∀ d,dst=some d→d∉o.looksAt ops) (h2:∀ d,dst=some d→o.dst≠some d)
  (hs:∀ cs b,o.op≠.select cs b):again P ops k a' w↔again P ops k a w:=by
 have he:execOp a'.eval o=execOp a.eval o:=execOp_congr o hs fun x hx=>by rw [eval_of_tmps ht,eval_put' h1 hx]
 have hw:Region.wanted o (yielded ops a'.tmps)=Region.wanted o (yielded ops a.tmps):=by rw [ht,wanted_put o a dst v h1]
 have hput:∀ u,(a'.put o.dst u).tmps=((a.put dst v).put o.dst u).tmps:=fun u=>by
  cases hd:o.dst with
  | none=>exact ht
  | some d=>simp only [Act.put,ht]
 have key:∀ u,(a'.put o.dst u).tmps=a'.tmps↔(a.put o.dst u).tmps=a.tmps:=fun u=>by
  rw [hput,ht,Act.put_comm a v u h2];cases dst with
  | none=>exact Iff.rfl
  | some d =>
   cases hd:o.dst with
   | none=>exact⟨fun _=>rfl,fun _=>rfl⟩
   | some e =>
    have hne:d≠e:=fun q=>h2 d rfl (by rw [hd,q]);simp only [Act.put];constructor;·
     intro h;apply Array.ext_getElem?;intro i;by_cases hi:i=d;·
      subst hi;rw [Array.getElem?_setIfInBounds_ne (fun q=>hne q.symm)]
     ·have:=congrArg (fun x:Array Value=>x[i]?) h;rwa [Array.getElem?_setIfInBounds_ne (fun q=>hi q.symm),Array.getElem?_setIfInBounds_ne (xs:=a.tmps) (fun q=>hi q.symm)] at this
    ·intro h;rw [h]
 unfold again;constructor;·
  intro h o' ho' hw';obtain rfl:o=o':=Option.some.inj (hk.symm.trans ho');obtain⟨u,hr,hp⟩:=h o hk (by rw [hw];exact hw');exact⟨u,by rw [← he];exact hr,(key u).1 hp⟩
 ·intro h o' ho' hw';obtain rfl:o=o':=Option.some.inj (hk.symm.trans ho');obtain⟨u,hr,hp⟩:=h o hk (by rw [← hw];exact hw');exact⟨u,by rw [he];exact hr,(key u).2 hp⟩
theorem put_eq_of_tmps {a:Act} {d:Option Tmp} {v u:Value} (h:((a.put d v).put d u).tmps=(a.put d v).tmps):a.put d u=a.put d v:=by
 rw [put_put] at h;cases d with
 | none=>rfl
 | some d=>simp only [Act.put] at h ⊢;rw [h]
theorem put_through {i:Nat} {ox oi:Oper} {v:Value} (hi:ops[i]?=some oi) (hap:ox.apart ops oi=true) (hsi:∀ cs b,oi.op≠.select cs b) {R:Act→World→Prop} {a:Act} {w:World}
  (h:wpOp P ops (Strict ops K0) i R (a.put ox.dst v) w):wpOp P ops (Strict ops K0) i (fun a1 w1=>R (a1.put ox.dst v) w1) a w:=by
 obtain⟨h1,h2,h3⟩:=Oper.apart_spec hap;have comm:∀ (a:Act) u,(a.put ox.dst v).put oi.dst u=(a.put oi.dst u).put ox.dst v:=fun a u=>Act.put_comm a v u h2;cases hw:Region.wanted oi (yielded ops a.tmps) with
 | false =>
  have hw':Region.wanted oi (yielded ops (a.put ox.dst v).tmps)=false:=by rw [wanted_put oi a ox.dst v h1];exact hw
  unfold wpOp at h ⊢;simp only [hi,hw,hw',Bool.false_eq_true,if_false] at h ⊢;rw [← comm];exact h
 | true =>
  have hw':Region.wanted oi (yielded ops (a.put ox.dst v).tmps)=true:=by rw [wanted_put oi a ox.dst v h1];exact hw
  obtain⟨h,_⟩:=ran hi hw' h;unfold wpOp;simp only [hi,hw,if_true];refine .inl ?_;unfold Oper.wp;rw [execOp_put oi hsi a ox.dst v h1] at h;generalize (execOp a.eval oi).run P w=r at h ⊢;cases r with
  | ok n w' =>
   cases n<;>simp only [Oper.upon] at h ⊢;case value u=>rw [← comm];exact h
   case skip=>rw [← comm];exact h
   case defer d =>rw [← Act.put_comm _ v undef h2,← Act.put_defers];exact h
   case enter f args =>
    refine Calls.mono h fun e w'' he=>?_;cases e with
    | returned u=>simp only at he ⊢;rw [← comm];exact he
    | panicked c=>exact he
    | outgrown=>exact he
   case row row args=>exact Rows.mono h fun u w'' he=>by rw [← comm];exact he
  | halt x w' =>cases x<;>simp only [Oper.upon] at h ⊢;case panic u=>exact h
theorem finalG {o:Oper} {chk:Nat→List Nat} {j:Nat} (hj:ops[j]?=some o):∀ (l:List Nat) (a:Act) (w:World),wpG P ops (Strict ops K0) chk l a w →
  (∀ k∈l,∀ ok,ops[k]?=some ok→writes ok (o.looksAt ops)=false)→dynWant ops o a=true
 | [],a,w,h,_=>by have h1:dynAll ops a=true:=h.1;exact List.all_eq_true.1 h1 o (by simpa using Array.mem_of_getElem? hj)
 | k::l,a,w,h,hl=>by
  unfold wpG at h;cases hk:ops[k]? with
  | none =>unfold wpOp at h;simp only [hk] at h;exact finalG hj l a w h.2 fun z hz=>hl z (List.mem_cons_of_mem _ hz)
  | some ok =>obtain⟨v,a',w',ht,h'⟩:=reach hk h;have:=finalG hj l a' w' h'.2 fun z hz=>hl z (List.mem_cons_of_mem _ hz);rw [dynWant_put ht (writes_spec (hl k i_ ok hk))] at this;exact this
theorem ext_of {i:Nat} {oi:Oper} (hi:ops[i]?=some oi) (hc:cl P oi.op=.load∨cl P oi.op=.alloc) {R:Act→World→Prop} {a:Act} {w:World} (hd:dynWant ops oi a=true) (h:wpOp P ops (Strict ops K0) i R a w) :
  wpOp P ops (Strict ops K0) i (fun a1 w1=>R a1 w1∧Ext w w1) a w:=by
 cases hw:Region.wanted oi (yielded ops a.tmps) with
 | false =>unfold wpOp at h ⊢;simp only [hi,hw,Bool.false_eq_true,if_false] at h ⊢;exact⟨h,Ext.refl _⟩
 | true =>
  obtain⟨h,n,w1,hr⟩:=ran hi hw h;have hg:Ext w w1∧∃ v,n=.value v:=by
   rcases hc with hc|hc
   ·obtain⟨hs,hv⟩:=exec_load (P:=P) (ρ:=a.eval) hc (by simpa [dynWant,hw] using hd);obtain⟨rfl,_⟩:=hs _ _ _ hr;exact⟨Ext.refl _,hv _ ⟨_,_,hr⟩⟩
   ·obtain⟨hs,hv⟩:=exec_alloc (P:=P) (ρ:=a.eval) hc;exact⟨hs _ _ _ hr,hv _ ⟨_,_,hr⟩⟩
  obtain⟨he,v,rfl⟩:=hg;unfold wpOp;simp only [hi,hw,if_true];refine .inl ?_;unfold Oper.wp;rw [hr] at h ⊢;exact⟨h,he⟩
theorem swapG {x i:Nat} {ox oi:Oper} (hx:ops[x]?=some ox) (hi:ops[i]?=some oi) (hap:ox.apart ops oi=true) (hsx:∀ cs b,ox.op≠.select cs b) (hsi:∀ cs b,oi.op≠.select cs b)
  {A B B' K:Act→World→Prop} (hcl:cl P ox.op=.pure∨cl P oi.op=.pure∨(cl P ox.op=.load∧(cl P oi.op=.load∨cl P oi.op=.alloc))∨(cl P ox.op=.load∧∀ a w,B a w→again P ops x a w))
  (hwx:trivialOp ox.op=true∨writes ox (ox.looksAt ops)=false) (hwi:trivialOp oi.op=true∨writes oi (oi.looksAt ops)=false) (hlx:cl P ox.op=.load→writes ox (ox.looksAt ops)=false)
  (hB:∀ a1 v w1,B (a1.put ox.dst v) w1→B' a1 w1) (hB2:cl P oi.op=.pure→∀ a w,B' a w) (hA1:cl P ox.op=.pure∨cl P ox.op=.load→∀ a w,A a w) (hA2:∀ a1 u w1,A a1 w1→A (a1.put oi.dst u) w1)
  (hK:∀ a w,K a w→dynWant ops ox a=true∧dynWant ops oi a=true) {a:Act} {w:World}
  (h:wpOp P ops (Strict ops K0) x (fun a w=>A a w∧wpOp P ops (Strict ops K0) i (fun a' w'=>B a' w'∧K a' w') a w) a w) :
  wpOp P ops (Strict ops K0) i (fun a' w'=>B' a' w'∧wpOp P ops (Strict ops K0) x (fun a'' w''=>A a'' w''∧K a'' w'') a' w') a w:=by
 obtain⟨h1,h2,h3⟩:=Oper.apart_spec hap;obtain⟨u,a1,w1,ht1,hr1⟩:=reach hx h;obtain⟨v,a2,w2,ht2,hr2⟩:=reach hi hr1.2;have hdx:dynWant ops ox a=true:=by
  rcases hwx with hwx|hwx
  ·unfold dynWant;rw [dynOp_trivial hwx];rfl
  ·have:=(hK _ _ hr2.2).1;rw [dynWant_put ht2 h3,dynWant_put ht1 (writes_spec hwx)] at this;exact this
 have hdi:dynWant ops oi a1=true:=by
  rcases hwi with hwi|hwi
  ·unfold dynWant;rw [dynOp_trivial hwi];rfl
  ·have:=(hK _ _ hr2.2).2;rw [dynWant_put ht2 (writes_spec hwi)] at this;exact this
 by_cases hci:cl P oi.op=.pure;·
  obtain⟨v,hy⟩:=yields_pure hi hci hdi hr1.2;have hy:Yields P ops oi v a:=by
   refine hy.of_same ?_ ?_;·
    refine execOp_congr oi hsi fun y hy=>?_;rw [eval_of_tmps ht1,eval_put' h1 hy]
   ·rw [ht1,wanted_put oi a ox.dst u h1]
  refine Yields.wpOp hi hy ⟨hB2 hci _ _,?_⟩;exact put_rev hx (apart_symm hap) hsx hsi hy (wpOp_mono (fun a1 w1 hh hy'=>⟨hA2 _ _ _ hh.1,(Yields.inv hi hy' hh.2).2⟩) h)
 ·-- x is calm or a load
  have hcx:cl P ox.op=.pure∨cl P ox.op=.load:=by
   rcases hcl with h|h|h|h
   ·exact .inl h
   ·exact absurd h hci
   ·exact .inr h.1
   ·exact .inr h.1
  have hA:=hA1 hcx;have viaYields:∀ v,Yields P ops ox v a→wpOp P ops (Strict ops K0) i (fun a' w'=>B' a' w'∧wpOp P ops (Strict ops K0) x (fun a'' w''=>A a'' w''∧K a'' w'') a' w') a w:=fun v hy=>by have h':=(Yields.inv hx hy h).2;refine wpOp_mono ?_ (wpOp_put hi hap hsx hsi (fun _ _ _ h=>h) hy h');rintro a' w' ⟨hy',hb,hk⟩;exact⟨hB _ _ _ hb,Yields.wpOp hx hy' ⟨hA _ _,hk⟩⟩
  by_cases hcp:cl P ox.op=.pure;·
   obtain⟨v,hy⟩:=yields_pure hx hcp hdx h;exact viaYields v hy
  ·have hcload:cl P ox.op=.load:=hcx.resolve_left hcp;cases hwa:Region.wanted ox (yielded ops a.tmps) with
   | false=>exact viaYields undef (.inr ⟨hwa,rfl⟩)
   | true =>
    obtain⟨hst,hval⟩:=exec_load (P:=P) (ρ:=a.eval) hcload (by simpa [dynWant,hwa] using hdx);obtain⟨hu,n,w1',hr⟩:=ran hx hwa h;obtain⟨y,rfl⟩:=hval n ⟨_,_,hr⟩;obtain⟨rfl,hlater⟩:=hst _ _ _ hr;rw [hr] at hu;have hu:=hu.2;have hlx:=writes_spec (hlx hcload)
    -- what i leaves of x
    have same:∀ (a1:Act) (w2:World),(∃ R,R)→True:=fun _ _ _=>trivial;have acts:∀ (o1:Act) (w2:World),execOp o1.eval ox=execOp a.eval ox→Region.wanted ox (yielded ops o1.tmps)=true→(execOp a.eval ox).run P w2=.ok (.value y) w2→K (o1.put ox.dst y) w2→wpOp P ops (Strict ops K0) x (fun a'' w''=>A a'' w''∧K a'' w'') o1 w2:=by intro o1 w2 he hw hrun hk;unfold wpOp;simp only [hx,hw,if_true];refine .inl ?_;unfold Oper.wp;rw [he,hrun];exact⟨hA _ _,hk⟩
    -- the acts that i leaves look alike to x
    have keep:wpOp P ops (Strict ops K0) i (fun a1 w1=>(execOp a1.eval ox=execOp a.eval ox∧Region.wanted ox (yielded ops a1.tmps)=true)∧(fun a' w'=>B a' w'∧K a' w') (a1.put ox.dst y) w1) a w1':=by
     have hh:=put_through hi hap hsi hu;have base:∀ (a1:Act) (u:Value),a1.tmps=(a.put oi.dst u).tmps→execOp a1.eval ox=execOp a.eval ox∧Region.wanted ox (yielded ops a1.tmps)=true:=fun a1 u ht=>by
      refine⟨execOp_congr ox hsx fun z hz=>?_,?_⟩;·rw [eval_of_tmps ht,eval_put' h3 hz]
      ·rw [ht,wanted_put ox a oi.dst u h3];exact hwa
     cases hwi':Region.wanted oi (yielded ops a.tmps) with
     | false =>unfold wpOp at hh ⊢;simp only [hi,hwi',Bool.false_eq_true,if_false] at hh ⊢;exact⟨base _ _ rfl,hh⟩
     | true =>
      obtain⟨hh,_⟩:=ran hi hwi' hh;unfold wpOp;simp only [hi,hwi',if_true];refine .inl ?_;unfold Oper.wp;generalize (execOp a.eval oi).run P w1'=r at hh ⊢;cases r with
      | ok n w' =>
       cases n<;>simp only [Oper.upon] at hh ⊢;case value u=>exact⟨base _ _ rfl,hh⟩
       case skip=>exact⟨base _ _ rfl,hh⟩
       case defer d=>exact⟨base _ undef (by cases oi.dst<;>rfl),hh⟩
       case enter f args =>
        refine Calls.mono hh fun e w'' he=>?_;cases e with
        | returned u=>exact⟨base _ _ rfl,he⟩
        | panicked c=>exact he
        | outgrown=>exact he
       case row row args=>exact Rows.mono hh fun u w'' he=>⟨base _ _ rfl,he⟩
      | halt z w' =>cases z<;>simp only [Oper.upon] at hh ⊢;case panic u=>exact hh
    rcases hcl with h|h|h|h
    ·exact absurd h hcp
    ·exact absurd h hci
    ·refine wpOp_mono ?_ (ext_of hi h.2 (by have hdi2:=hdi;rw [dynWant_put ht1 h1] at hdi2;exact hdi2) keep);rintro o1 w2 ⟨⟨⟨he,hw⟩,hb,hk⟩,hext⟩;exact⟨hB _ _ _ hb,acts o1 w2 he hw (hlater _ hext) hk⟩
    ·refine wpOp_mono ?_ keep;rintro o1 w2 ⟨⟨he,hw⟩,hb,hk⟩;refine⟨hB _ _ _ hb,?_⟩;obtain⟨u,hru,hpu⟩:=h.2 _ _ hb ox hx (by rw [wanted_put ox o1 ox.dst y hlx];exact hw);rw [execOp_put ox hsx o1 ox.dst y hlx,he] at hru;have heq:=put_eq_of_tmps hpu;have hy2:∀ u',K (o1.put ox.dst u') w2→(execOp a.eval ox).run P w2=.ok (.value u') w2→wpOp P ops (Strict ops K0) x (fun a'' w''=>A a'' w''∧K a'' w'') o1 w2:=by
      intro u' hk' hrun;unfold wpOp;simp only [hx,hw,if_true];refine .inl ?_;unfold Oper.wp;rw [he,hrun];exact⟨hA _ _,hk'⟩
     exact hy2 u (by rw [heq];exact hk) hru
end
def rank (π:List Nat) (i:Nat):Nat:=π.idxOf i
def clG (c:List Nat) (x:Nat) (a b:Cl):Bool:=clOK a b || (a == .load && c.contains x)
def bitOf (b:Array Nat) (j i:Nat):Bool:=decide (i<j) && (b.getD j 0).testBit i
def edgesG (π:List Nat) (o:Oper) (j:Nat):Bool:=o.after.all fun e=>!Region.binds .any e || (decide (e.on<j) && decide (rank π e.on<rank π j))
def lookG (ops:Array Oper) (π:List Nat) (b:Array Nat) (o:Oper) (j:Nat):Bool :=
 trivialOp o.op || (List.range ops.size).all fun z=>match ops[z]? with
  | some oz=>!writes oz (o.looksAt ops) || (decide (rank π z<rank π j) && bitOf b j z)
  | none=>true
def pairsG (P:Program) (ops:Array Oper) (π:List Nat) (b:Array Nat) (chk:Nat→List Nat) (o:Oper) (j:Nat):Bool :=
 π.all fun i=>!decide (rank π i<rank π j) || bitOf b j i || match ops[i]? with
  | some oi=>oi.apart ops o && clG (chk j) i (cl P oi.op) (cl P o.op)
  | none=>true
def againG (P:Program) (ops:Array Oper) (π:List Nat) (b:Array Nat) (j k:Nat):Bool :=
 match ops[k]? with
 | some ok=>cl P ok.op == .load && decide (rank π k<rank π j) && !writes ok (ok.looksAt ops) && (List.range ops.size).all fun z=>z == k || (match ops[z]? with
  | some oz=>!(writes oz (ok.looksAt ops) || writes oz ok.dst.toList) || (decide (rank π z<rank π k) && bitOf b k z)
  | none=>true)
 | none=>false
def selfG (P:Program) (ops:Array Oper) (o:Oper):Bool:=!(cl P o.op == .load) || !writes o (o.looksAt ops)
def orderOKb (P:Program) (ops:Array Oper) (π:List Nat) (chk:Nat→List Nat) (b:Array Nat):Bool :=
 Region.noSelect ops && decide (π.length=ops.size) && (List.range ops.size).all (fun j=>π.contains j) && π.all (fun j=>decide (j<ops.size)) && decide π.Nodup &&
 (List.range ops.size).all fun j=>match ops[j]? with
  | some o=>edgesG π o j && maskOK b o j && lookG ops π b o j && pairsG P ops π b chk o j && selfG P ops o && (chk j).all (againG P ops π b j) && ((chk j).isEmpty || cl P o.op == .any)
  | none=>true
def orderOK (P:Program) (ops:Array Oper) (π:List Nat) (chk:Nat→List Nat):Bool:=orderOKb P ops π chk (Region.before ops)
section
variable {P:Program} {ops:Array Oper} {K0:Act→World→Prop} {b:Array Nat} {π:List Nat} {chk:Nat→List Nat}
structure Ordered (P:Program) (ops:Array Oper) (π:List Nat) (chk:Nat→List Nat) (b:Array Nat):Prop where
 select:Region.noSelect ops=true
 len:π.length=ops.size
 all:∀ j:Nat,j<ops.size↔j∈π
 nodup:π.Nodup
 edges:∀ (j:Nat) (o:Oper),ops[j]?=some o→∀ e∈o.after,Region.binds .any e=true→e.on<j∧rank π e.on<rank π j
 mask:∀ (j:Nat) (o:Oper),ops[j]?=some o→maskOK b o j=true
 look:∀ (j:Nat) (o:Oper) (z:Nat) (oz:Oper),ops[j]?=some o→ops[z]?=some oz→¬ (rank π z<rank π j∧bitOf b j z=true)→trivialOp o.op=true∨writes oz (o.looksAt ops)=false
 pair:∀ (i j:Nat) (oi oj:Oper),ops[i]?=some oi→ops[j]?=some oj→rank π i<rank π j→bitOf b j i=false→oi.apart ops oj=true∧clG (chk j) i (cl P oi.op) (cl P oj.op)=true
 self:∀ (j:Nat) (o:Oper),ops[j]?=some o→cl P o.op=.load→writes o (o.looksAt ops)=false
 chkAny:∀ (j:Nat) (o:Oper),ops[j]?=some o→cl P o.op≠.any→chk j=[]
 chkLook:∀ (j:Nat) (o:Oper) (k:Nat),ops[j]?=some o→k∈chk j→∃ ok,ops[k]?=some ok∧rank π k<rank π j∧∀ (z:Nat) (oz:Oper),ops[z]?=some oz→z≠k→¬ (rank π z<rank π k∧bitOf b k z=true) →
  writes oz (ok.looksAt ops)=false∧writes oz ok.dst.toList=false
theorem Ordered.of (h:orderOKb P ops π chk b=true):Ordered P ops π chk b:=by
 unfold orderOKb at h;simp only [Bool.and_eq_true,decide_eq_true_eq] at h;obtain⟨⟨⟨⟨⟨h1,h2⟩,h3⟩,h4⟩,h5⟩,h6⟩:=h;have hall:∀ j o,ops[j]?=some o→edgesG π o j=true∧maskOK b o j=true∧lookG ops π b o j=true∧pairsG P ops π b chk o j=true∧selfG P ops o=true∧(chk j).all (againG P ops π b j)=true∧((chk j).isEmpty || cl P o.op == .any)=true:=fun j o hj=>by have:=List.all_eq_true.1 h6 j (List.mem_range.2 (Array.getElem?_eq_some_iff.1 hj).1);simp only [hj,Bool.and_eq_true] at this;obtain⟨⟨⟨⟨⟨⟨a1,a2⟩,a3⟩,a4⟩,a5⟩,a6⟩,a7⟩:=this;exact⟨a1,a2,a3,a4,a5,a6,a7⟩
 have hmem:∀ j,j<ops.size↔j∈π:=fun j=>⟨fun hj=>by simpa using List.all_eq_true.1 h3 j (List.mem_range.2 hj),fun hj=>by simpa using List.all_eq_true.1 h4 j hj⟩;have hlt:∀ {j o},ops[j]?=some o→j<ops.size:=fun hj=>(Array.getElem?_eq_some_iff.1 hj).1;refine⟨h1,h2,hmem,h5,fun j o hj e he hb=>?_,fun j o hj=>(hall j o hj).2.1,fun j o z oz hj hz hn=>?_,fun i j oi oj hi hj hr hb=>?_,fun j o hj hc=>?_,fun j o hj hc=>?_,fun j o k hj hk=>?_⟩;·
  have:=Array.all_eq_true_iff_forall_mem.1 (hall j o hj).1 e he;simpa [hb] using this
 ·have h:=(hall j o hj).2.2.1;unfold lookG at h;rw [Bool.or_eq_true] at h;rcases h with h|h
  ·exact .inl h
  ·right;have:=List.all_eq_true.1 h z (List.mem_range.2 (hlt hz));simp only [hz,Bool.or_eq_true,Bool.not_eq_true',Bool.and_eq_true,decide_eq_true_eq] at this;exact this.resolve_right hn
 ·have:=List.all_eq_true.1 (hall j oj hj).2.2.2.1 i ((hmem i).1 (hlt hi));simp only [hi,hr,hb,decide_true,Bool.not_true,Bool.false_or,Bool.and_eq_true] at this;exact this
 ·have:=(hall j o hj).2.2.2.2.1;simpa [selfG,hc] using this
 ·have:=(hall j o hj).2.2.2.2.2.2;simp only [Bool.or_eq_true,beq_iff_eq] at this;simpa using this.resolve_right hc
 ·have:=List.all_eq_true.1 (hall j o hj).2.2.2.2.2.1 k hk;unfold againG at this;split at this;·
   rename_i ok hok;simp only [Bool.and_eq_true,decide_eq_true_eq] at this;refine⟨ok,hok,this.1.1.2,fun z oz hz hne hn=>?_⟩;have h:=List.all_eq_true.1 this.2 z (List.mem_range.2 (hlt hz));simp only [hz,Bool.or_eq_true,beq_iff_eq,hne,false_or,Bool.not_eq_true',Bool.or_eq_false_iff,Bool.and_eq_true,decide_eq_true_eq] at h;exact h.resolve_right hn
  ·cases this
theorem writes_dst {oz ok:Oper} (h:writes oz ok.dst.toList=false):∀ d,oz.dst=some d→ok.dst≠some d:=fun d hd e=>by have:=writes_spec h d hd;rw [e] at this;simp at this
theorem Ordered.againPut (O:Ordered P ops π chk b) {j k z:Nat} {o oz:Oper} (hj:ops[j]?=some o) (hk:k∈chk j) (hz:ops[z]?=some oz) (hr:rank π k<rank π z) {a a':Act} {v:Value} {w:World} (ht:a'.tmps=(a.put oz.dst v).tmps) :
  again P ops k a' w↔again P ops k a w:=by
 obtain⟨ok,hok,_,hall⟩:=O.chkLook j o k hj hk;obtain⟨h1,h2⟩:=hall z oz hz (fun e=>by rw [e] at hr;omega) o_;exact again_put hok ht (writes_spec h1) (writes_dst h2) (Region.noSelect_spec O.select k ok · · hok)
theorem bubbleG (O:Ordered P ops π chk b) {i:Nat} {oi:Oper} (hi:ops[i]?=some oi) (l2:List Nat) (hl2:∀ z∈l2,rank π i<rank π z):∀ (l1:List Nat) (C:List Nat),(l1++i::l2).Pairwise (fun x y=>rank π x<rank π y) →
  (∀ z∈l1,z<ops.size)→(∀ z∈l1,bitOf b i z=false)→(∀ k∈C,k∈chk i∧∀ z∈l1,rank π k<rank π z)→∀ (a:Act) (w:World),wpG P ops (Strict ops K0) chk (l1++i::l2) a w →
  wpOp P ops (Strict ops K0) i (fun a w=>(∀ k∈C,again P ops k a w)∧wpG P ops (Strict ops K0) chk (l1++l2) a w) a w
 | [],C,_,_,_,hC,a,w,h=>by have h:wpOp P ops (Strict ops K0) i (fun a' w'=>(∀ k∈chk i,again P ops k a' w')∧wpG P ops (Strict ops K0) chk l2 a' w') a w:=h;exact wpOp_mono (fun a w h=>⟨fun k hk=>h.1 k (hC k hk).1,h.2⟩) h
 | x::l1,C,hs,hlt,hn,hC,a,w,h=>by
  simp only [List.cons_append] at h ⊢ hs;have hs':=List.pairwise_cons.1 hs;have h:wpOp P ops (Strict ops K0) x (fun a' w'=>(∀ k∈chk x,again P ops k a' w')∧wpG P ops (Strict ops K0) chk (l1++i::l2) a' w') a w:=h;let C':=if x∈chk i then x::C else C
  have hC':∀ k∈C',k∈chk i∧∀ z∈l1,rank π k<rank π z:=by
   intro k hk;by_cases hx:x∈chk i;·
    simp only [C',hx,if_true,List.mem_cons] at hk;rcases hk with rfl|hk
    ·exact⟨hx,fun z hz=>hs'.1 z (by simp [hz])⟩
    ·exact⟨(hC k hk).1,fun z hz=>(hC k hk).2 z (by simp [hz])⟩
   ·simp only [C',hx,if_false] at hk;exact⟨(hC k hk).1,fun z hz=>(hC k hk).2 z (by simp [hz])⟩
  have h:=wpOp_mono (fun a w h=>And.imp id (fun h=>bubbleG O hi l2 hl2 l1 C' hs'.2 (fun z hz=>hlt z (by simp [hz])) (fun z hz=>hn z (by simp [hz])) hC' a w h) h) h;obtain⟨ox,hx⟩:∃ ox,ops[x]?=some ox:=⟨_,Array.getElem?_eq_getElem (hlt x i_)⟩;have hxi:rank π x<rank π i:=hs'.1 i i_;obtain⟨hap,hcl⟩:=O.pair x i ox oi hx hi hxi (hn x i_);have hself:∀ {j o},ops[j]?=some o→trivialOp o.op=true∨writes o (o.looksAt ops)=false:=fun {j o} hj=>O.look j o j o hj hj o_;have hsx:=(Region.noSelect_spec O.select x ox · · hx);have hsi:=(Region.noSelect_spec O.select i oi · · hi);have fin:∀ {j o} {a w},ops[j]?=some o→(∀ z∈l1++l2,¬ (rank π z<rank π j∧bitOf b j z=true))→wpG P ops (Strict ops K0) chk (l1++l2) a w→dynWant ops o a=true:=fun {j o a w} hj hz hK=>by
   cases htr:trivialOp o.op with
   | true=>unfold dynWant;rw [dynOp_trivial htr];rfl
   | false=>exact finalG hj _ a w hK fun z hzm oz hoz=>(O.look j o z oz hj hoz (hz z hzm)).resolve_left (by rw [htr];exact Bool.false_ne_true)
  refine swapG hx hi hap hsx hsi (B:=fun a w=>∀ k∈C',again P ops k a w) (A:=fun a w=>∀ k∈chk x,again P ops k a w) ?_ (hself hx) (hself hi) (O.self x ox hx) ?_ ?_ ?_ ?_ (fun a w hK=>⟨fin hx (fun z hz hh=>?_) hK,fin hi (fun z hz hh=>?_) hK⟩) h;·
   unfold clG clOK at hcl;simp only [Bool.or_eq_true,Bool.and_eq_true,beq_iff_eq] at hcl;rcases hcl with ((h|h)|h)|h
   ·exact .inl h
   ·exact .inr (.inl h)
   ·exact .inr (.inr (.inl h))
   ·refine .inr (.inr (.inr ⟨h.1,fun a w hB=>hB x ?_⟩));have:x∈chk i:=(by simpa using h.2);simp [C',this]
  ·intro a1 v w1 hB k hk;have hkC:k∈C':=by by_cases hx:x∈chk i<;>simp [C',hx,hk]
   exact (O.againPut hi (hC k hk).1 hx ((hC k hk).2 x i_) rfl).1 (hB k hkC)
  ·intro hc a w k hk;have:=O.chkAny i oi hi (by rw [hc];exact fun h=>by cases h);have hk':=(hC k hk).1;rw [this] at hk';cases hk'
  ·intro hc a w k hk;have:=O.chkAny x ox hx (by rcases hc with hc|hc<;>rw [hc]<;>exact fun h=>by cases h);rw [this] at hk;cases hk
  ·intro a1 u w1 hA k hk;obtain⟨ok,hok,hrk,_⟩:=O.chkLook x ox k hx hk;exact (O.againPut hx hk hi o_ rfl).2 (hA k hk)
  ·have:rank π x<rank π z:=hs'.1 z (by rcases List.mem_append.1 hz with h|h<;>simp [h]);omega
  ·rcases List.mem_append.1 hz with hz|hz
   ·rw [hn z (by simp [hz])] at hh;cases hh.2
   ·have:=hl2 z hz;omega
theorem mask_listedG (O:Ordered P ops π chk b) {listed:Array Bool} (hc:Closed ops listed) (hsz:listed.size=ops.size):∀ (d j:Nat) (o:Oper),j=d→ops[j]?=some o →
  (∀ e∈o.after,Region.binds .any e=true→listed.getD e.on false=true)→∀ i,i<j→bitOf b j i=true→listed.getD i false=true:=by
 intro d
 induction d using Nat.strongRecOn with
 | _ d ih =>
  intro j o hd hj hall i hij hb;have hm:=O.mask j o hj;have:=List.all_eq_true.1 hm i (List.mem_range.2 hij);have hb:(b.getD j 0).testBit i=true:=by simp only [bitOf,Bool.and_eq_true] at hb;exact hb.2
  rw [hb] at this;simp only [Bool.not_true,Bool.false_or] at this;obtain⟨e,hem,h2⟩:=Array.any_eq_true'.1 this;simp only [Bool.and_eq_true,Bool.or_eq_true,beq_iff_eq,decide_eq_true_eq] at h2;have hon:=hall e hem h2.1;rcases h2.2 with h3|h3
  ·rw [← h3];exact hon
  ·have hej:=(O.edges j o hj e hem h2.1).1;have hlt:e.on<ops.size:=by
    have:=(Array.getElem?_eq_some_iff.1 hj).1;omega
   have hoe:ops[e.on]?=some ops[e.on]:=Array.getElem?_eq_getElem hlt;refine ih e.on o_ e.on _ rfl hoe (hc _ _ hoe ?_) i h3.1 (by simp only [bitOf,Bool.and_eq_true,decide_eq_true_eq];exact h3);have:e.on<listed.size:=o_;simp [this] at hon ⊢;exact hon
theorem any_of_G (O:Ordered P ops π chk b):∀ (fuel:Nat) (l:List Nat) (listed:Array Bool) (a:Act) (w:World),l.length=fuel→listed.size=ops.size→l.Pairwise (fun x y=>rank π x<rank π y) →
  (∀ k,k∈l↔k<ops.size∧listed.getD k true=false)→Closed ops listed→wpG P ops (Strict ops K0) chk l a w→wpAny P .any ops (Strict ops K0) fuel listed a w
 | 0,l,listed,a,w,hf,hsz,hs,hm,hc,h=>by obtain rfl:=List.eq_nil_of_length_eq_zero hf;refine⟨?_,h⟩;refine List.eq_nil_iff_forall_not_mem.2 fun j hj=>?_;obtain⟨h1,o,h2,_⟩:=mem_ready.1 hj;have:=(hm j).2 ⟨(Array.getElem?_eq_some_iff.1 h2).1,h1⟩;cases this
 | fuel+1,l,listed,a,w,hf,hsz,hs,hm,hc,h=>by
  refine⟨fun hr=>?_,fun i hi=>?_⟩;·
   exfalso;cases l with
   | nil=>cases hf
   | cons k l =>
    obtain⟨hk,hkl⟩:=(hm k).1 i_;have hok:ops[k]?=some ops[k]:=Array.getElem?_eq_getElem hk;have:k∈Region.ready .any ops listed:=mem_ready.2 ⟨hkl,_,hok,fun e he hbd=>by
     have hej:=O.edges k _ hok e he hbd
     cases hl:listed.getD e.on true with
     | true =>
      have hlt:e.on<listed.size:=o_
      simp [hlt] at hl ⊢;exact hl
     | false =>
      have:=(hm e.on).2 ⟨o_,hl⟩
      rcases List.mem_cons.1 this with h1|h1
      ·omega
      ·have:=(List.pairwise_cons.1 hs).1 _ h1;omega⟩
    rw [hr] at this;cases this
  ·obtain⟨h1,oi,h2,hall⟩:=mem_ready.1 hi;have hin:i<ops.size:=(Array.getElem?_eq_some_iff.1 h2).1;obtain⟨l1,l2,rfl⟩:=List.append_of_mem ((hm i).2 ⟨hin,h1⟩);have hpw:=List.pairwise_append.1 hs;have hnot1:i∉l1:=fun hx=>(by have:=hpw.2.2 i hx i i_;omega);have hnot2:i∉l2:=fun hx=>(by have:=(List.pairwise_cons.1 hpw.2.1).1 i hx;omega);refine wpOp_mono (fun a w h=>any_of_G O fuel (l1++l2) _ a w ?_ (by simp [hsz]) ?_ (fun k=>?_) ?_ h.2)
    (bubbleG O h2 l2 (fun z hz=>(List.pairwise_cons.1 hpw.2.1).1 z hz) l1 [] hs (fun z hz=>((hm z).1 (by simp [hz])).1) (fun z hz=>?_) i_ a w h)
   ·simp at hf ⊢;omega
   ·exact hs.sublist (List.Sublist.append (List.Sublist.refl _) (List.sublist_cons_self _ _))
   ·by_cases hki:k=i;·
     subst hki;have hlt:k<listed.size:=o_
     simp [hnot1,hnot2,hlt]
    ·rw [getD_set_ne true (fun e=>hki e.symm),← hm k];simp [hki]
   ·intro j o hj hl e he hbd;by_cases hji:j=i;·
     subst hji;have:o=oi:=Option.some.inj (hj.symm.trans h2);subst this;exact getD_set_true (hall e he hbd)
    ·rw [getD_set_ne true (fun e=>hji e.symm)] at hl;exact getD_set_true (hc j o hj hl e he hbd)
   ·cases ht:bitOf b i z with
    | false=>rfl
    | true =>
     exfalso;have h3:=mask_listedG O hc hsz i i oi rfl h2 hall z (by simp only [bitOf,Bool.and_eq_true,decide_eq_true_eq] at ht;exact ht.1) ht;have h4:=((hm z).1 (by simp [hz])).2;have hlt:z<listed.size:=by have:=((hm z).1 (by simp [hz])).1;omega
     simp [hlt] at h3 h4;rw [h3] at h4;cases h4
end
def pick (ops:Array Oper):List Nat→List Oper
 | []=>[]
 | i::l=>ops.getD i default::pick ops l
def Mid (K:Act→World→Prop):Exit→Act→World→Prop
 | .normal,a,w=>K a w
 | _,_,_=>False
theorem mD_ {K:Act→World→Prop} {a:Act} {w:World} (h:K a w):Mid K .normal a w:=h
def againAll (P:Program) (ops:Array Oper):List Nat→Act→World→Prop
 | [],_,_=>True
 | k::c,a,w=>again P ops k a w∧againAll P ops c a w
def wpSegs (P:Program) (ops:Array Oper) (K0:Act→World→Prop):List (List Nat×List Nat)→Act→World→Prop
 | [],a,w=>Strict ops K0 .normal a w
 | (l,c)::r,a,w=>wpList P ops (Mid fun a w=>againAll P ops c a w∧wpSegs P ops K0 r a w) (pick ops l) a w
def chkOf:List (List Nat×List Nat)→Nat→List Nat
 | [],_=>[]
 | (l,c)::r,i=>if l.getLast? == some i then c else chkOf r i
def orderOf:List (List Nat×List Nat)→List Nat
 | []=>[]
 | (l,_)::r=>l++orderOf r
def segsOK (chk:Nat→List Nat):List (List Nat×List Nat)→Bool
 | []=>true
 | (l,c)::r=>(match l.reverse with
  | []=>c.isEmpty
  | i::l'=>chk i == c && l'.all fun x=>(chk x).isEmpty) && segsOK chk r
section
variable {P:Program} {ops:Array Oper} {K0:Act→World→Prop}
theorem againAll_mem:∀ {c:List Nat} {a:Act} {w:World},againAll P ops c a w→∀ k∈c,again P ops k a w
 | [],_,_,_,k,hk=>by cases hk
 | x::c,a,w,h,k,hk=>by
  rcases List.mem_cons.1 hk with rfl|hk
  ·exact h.1
  ·exact againAll_mem h.2 k hk
theorem wpOp_post {Q Q':Exit→Act→World→Prop} (hp:∀ c a w,Q (.panic c) a w→Q' (.panic c) a w) (ho:LetsOut Q→LetsOut Q') {i:Nat} {K:Act→World→Prop} {a:Act} {w:World} (h:wpOp P ops Q i K a w):wpOp P ops Q' i K a w:=by
 unfold wpOp at h ⊢;split;·rename_i hi;simp only [hi] at h;exact h
 ·rename_i o hi;simp only [hi] at h;split;·
   rename_i hw;simp only [hw,if_true] at h;rcases h with h|h
   ·refine .inl ?_;unfold Oper.wp at h ⊢;generalize (execOp a.eval o).run P w=r at h ⊢;cases r with
    | ok n w' =>
     cases n<;>simp only [Oper.upon] at h ⊢<;>first|exact h|skip
     refine Calls.mono h fun e w'' he=>?_;cases e with
     | returned u=>exact he
     | panicked c=>exact hp _ _ _ he
     | outgrown=>exact ho he
    | halt z w' =>cases z<;>simp only [Oper.upon] at h ⊢<;>first|exact h|exact hp _ _ _ h
   ·exact .inr ⟨h.1,ho h.2⟩
  ·rename_i hw;simp only [hw] at h;exact h
theorem wpList_pick {Q:Exit→Act→World→Prop}:∀ (l:List Nat),(∀ i∈l,i<ops.size)→wpList P ops Q (pick ops l)=wpOps P ops Q l
 | [],_=>by funext a w;rfl
 | i::l,h=>by
  have hi:i<ops.size:=h i i_;have hg:ops[i]?=some (ops.getD i default):=by simp [hi]
  funext a w;simp only [pick,wpOps,hg,wpList];rw [wpList_pick l fun j hj=>h j (by simp [hj])]
theorem wpG_append {chk:Nat→List Nat} {c:List Nat} {K:Act→World→Prop} {r:List Nat} (hK:∀ a w,againAll P ops c a w∧K a w→(∀ k∈c,again P ops k a w)∧wpG P ops (Strict ops K0) chk r a w):∀ (l:List Nat) (a:Act) (w:World),
  (match l.reverse with|[]=>c.isEmpty|i::l'=>chk i == c && l'.all fun x=>(chk x).isEmpty)=true→wpOps P ops (Mid fun a w=>againAll P ops c a w∧K a w) l a w→wpG P ops (Strict ops K0) chk (l++r) a w
 | [],a,w,hc,h=>(hK a w h).2
 | i::l,a,w,hc,h=>by
  rw [wpOps_cons] at h;have h:=wpOp_post (Q':=Strict ops K0) (fun _ _ _ h=>h) (fun ⟨_,_,h⟩=>h.elim) h;show wpOp P ops (Strict ops K0) i _ a w;cases l with
  | nil =>simp only [List.reverse_cons,List.reverse_nil,List.nil_append,Bool.and_eq_true,beq_iff_eq] at hc;refine wpOp_mono (fun a w h=>?_) h;have:=hK a w h;rw [hc.1];exact this
  | cons j l =>
   have hci:chk i=[]∧(match (j::l).reverse with|[]=>c.isEmpty|i::l'=>chk i == c && l'.all fun x=>(chk x).isEmpty)=true:=by
    rw [List.reverse_cons] at hc;cases hr:(j::l).reverse with
    | nil=>simp at hr
    | cons z q =>rw [hr] at hc;simp only [List.cons_append,List.all_append,List.all_cons,List.all_nil,Bool.and_true,Bool.and_eq_true,List.isEmpty_iff] at hc ⊢;exact⟨hc.2.2,hc.1,hc.2.1⟩
   refine wpOp_mono (fun a w h=>⟨fun k hk=>?_,wpG_append hK (j::l) a w hci.2 h⟩) h;rw [hci.1] at hk;cases hk
theorem wpG_of_segs {chk:Nat→List Nat}:∀ (ss:List (List Nat×List Nat)) (a:Act) (w:World),segsOK chk ss=true→(∀ i∈orderOf ss,i<ops.size)→wpSegs P ops K0 ss a w→wpG P ops (Strict ops K0) chk (orderOf ss) a w
 | [],a,w,_,_,h=>h
 | (l,c)::r,a,w,hc,hlt,h=>by simp only [segsOK,Bool.and_eq_true] at hc;have h:wpList P ops (Mid fun a w=>againAll P ops c a w∧wpSegs P ops K0 r a w) (pick ops l) a w:=h;rw [wpList_pick l fun i hi=>hlt i (by simp [orderOf,hi])] at h;exact wpG_append (fun a w h=>⟨againAll_mem h.1,wpG_of_segs r a w hc.2 (fun i hi=>hlt i (by simp [orderOf,hi])) h.2⟩) l a w hc.1 h
end
def segsFit (P:Program) (ops:Array Oper) (ss:List (List Nat×List Nat)):Bool:=orderOK P ops (orderOf ss) (chkOf ss) && segsOK (chkOf ss) ss
theorem wRS {P:Program} {id:Nat} {l:List Oper} {Q:Exit→Act→World→Prop} {a:Act} {w:World} (ss:List (List Nat×List Nat)) (hm:P.follows .mixedOrders=true)
  (hc:segsFit P l.toArray ss=true) (h:wpSegs P l.toArray (Q .normal) ss a w.drew):(Code.region id l.toArray true).wp P Q a w:=by
 unfold segsFit at hc;rw [Bool.and_eq_true] at hc;have O:=Ordered.of hc.1;have hlen:(orderOf ss).length=l.length:=by simpa using O.len
 refine Code.wp_mono Strict.imp (wp_region_any hm (any_of_G O _ (orderOf ss) _ a _ (by simp [hlen]) i_ ?_ (fun k=>?_) ?_ ?_));·
  have hnd:=O.nodup;rw [List.pairwise_iff_getElem];intro i j hi hj hij;unfold rank;rw [hnd.idxOf_getElem i hi,hnd.idxOf_getElem j hj];exact hij
 ·rw [← O.all k];simp;intro hk;rw [Array.getElem?_replicate];simp [hk]
 ·intro j o hj hl;have hlt:j<l.length:=by have:=(Array.getElem?_eq_some_iff.1 hj).1;simpa using this
  rw [Array.getD_eq_getD_getElem?,Array.getElem?_replicate] at hl;simp [hlt] at hl
 ·exact wpG_of_segs ss a _ hc.2 (fun i hi=>(O.all i).2 hi) h
def flatDesc:TypeDesc→Bool
 | .struct _|.array _ _=>false
 | _=>true
theorem ac_ {P:Program} {ops:Array Oper} {k:Nat} {o:Oper} {a:Act} {w:World} {T:TypeId} {x:Operand} {ad:Addr} {v:Value} {d:TypeDesc} (hk:ops[k]?=some o) (ho:o.op=.load T x) (hx:a.eval x=.pointer (some ad))
  (hT:P.underlying T=some d) (hd:flatDesc d=true) (hc:w.cell? ad=some v) (hv:(a.put o.dst v).tmps=a.tmps):again P ops k a w:=by
 intro o' ho' _;obtain rfl:o=o':=Option.some.inj (hk.symm.trans ho');refine⟨v,?_,hv⟩;unfold execOp;simp only [ho,hx];unfold Instr.loadAt Go.loadVar Go.isAgg;have hu:(Go.underlying T).run P w=.ok d w:=by unfold Go.underlying;simp [hT]
 rw [Sem.run_bind,Sem.run_bind];show ((Result.ok ad w).andThen _).andThen _=_;simp only [Result.andThen_ok];rw [Sem.run_bind,Sem.run_bind,hu];cases d<;>first|(cases hd;done)|simp [hc]
theorem wS {P:Program}{id:Nat}{l:List Oper}{Q:Exit→Act→World→Prop}{a:Act}{w:World}(ss:List (List Nat×List Nat))(h:wpSegs P l.toArray (Q .normal) ss a w.drew)(hm:P.follows .mixedOrders=true:=by kernel_rfl)(hc:segsFit P l.toArray ss=true:=by kernel_rfl):(Code.region id l.toArray true).wp P Q a w:=wRS ss hm hc h
end Go.Proofs.Rg
end
section
namespace Go.Proofs.Rg
open Go
theorem aGR {P:Program} {ops:Array Oper} {k:Nat} {o:Oper} {a:Act} {w:World} {T:TypeId} {x:Operand} {b off:Nat} {cs:List Value} {d:TypeDesc} (hk:ops[k]?=some o) (ho:o.op=.load T x)
  (hx:a.eval x=.pointer (some ⟨b,off,none⟩)) (hT:P.underlying T=some d) (hd:d.isRow=true) (hi:(P.info? T).map (·.size)=some cs.length) (hc:w.rangeAt b off cs)
  (hv:(a.put o.dst (.agg cs.toArray)).tmps=a.tmps):again P ops k a w:=by
 intro o' ho' _;obtain rfl:o=o':=Option.some.inj (hk.symm.trans ho');refine⟨_,?_,hv⟩;unfold execOp;simp only [ho,hx,Sem.run_bind,run_loadAt_mid w b off T cs d hc hT hd hi,Result.andThen_ok];rfl
end Go.Proofs.Rg
end
section
namespace Go.Proofs.Mp
open Go
theorem wpList_run {P:Program} {ops:Array Oper} {rest:List Oper} {o:Oper} {a:Act} {w w':World} {v:Value} {Q:Exit→Act→World→Prop} (hg:o.guard=none)
  (hrun:(execOp a.eval o).run P w=.ok (.value v) w') (h:wpList P ops Q rest (a.put o.dst v) w'):wpList P ops Q (o::rest) a w :=
 wpList_plain hg fun K hK=>by unfold Oper.wp;rw [hrun];exact hK _ _ h
theorem wpList_run_skip {P:Program} {ops:Array Oper} {rest:List Oper} {o:Oper} {a:Act} {w w':World} {Q:Exit→Act→World→Prop} (hg:o.guard=none)
  (hrun:(execOp a.eval o).run P w=.ok .skip w') (h:wpList P ops Q rest (a.put o.dst undef) w'):wpList P ops Q (o::rest) a w :=
 wpList_plain hg fun K hK=>by unfold Oper.wp;rw [hrun];exact hK _ _ h
structure KeysBy (P:Program) (K:TypeId) {κ:Type} [DecidableEq κ] (f:κ→Value):Prop where
 check:∀ (e:Bool) (k:κ) (w:World),(Instr.checkKey e 10000 K (f k)).run P w=.ok () w
 find:∀ (k:κ) (es:List MapEntry) (ks:List κ) (w:World),es.map (·.key)=ks.map f→(Instr.findKey K (f k) es).run P w=.ok ((ks.idxOf? k).bind fun i=>(es[i]?).map fun e=>(i,e.val)) w
 same:∀ k,Instr.sameBits 10000 (f k) (f k)=true
section
variable {P:Program} {κ:Type} [DecidableEq κ] {f:κ→Value}
theorem idxOf?_cons (k x:κ) (l:List κ):(x::l).idxOf? k=if x=k then some 0 else (l.idxOf? k).map (·+1):=by
 rw [List.idxOf?_cons];by_cases h:x=k;·simp [h]
 ·simp [h]
theorem findAsking_eq {K:TypeId} (heq:∀ a b w,(Op.equal K (f a) (f b)).run P w=.ok (decide (a=b)) w) (k:κ):∀ (es:List MapEntry) (ks:List κ) (i:Nat) (w:World),es.map (·.key)=ks.map f →
  (Instr.findAsking K (f k) es i).run P w=.ok ((ks.idxOf? k).bind fun j=>(es[j]?).map fun e=>(i+j,e.val)) w
 | [],ks,i,w,h=>by
  cases ks with
  | nil=>rfl
  | cons=>simp at h
 | e::es,ks,i,w,h=>by
  cases ks with
  | nil=>simp at h
  | cons x ks =>
   simp only [List.map_cons,List.cons.injEq] at h;unfold Instr.findAsking;rw [Sem.run_bind,h.1,heq];simp only [Result.andThen_ok];rw [idxOf?_cons];by_cases hx:k=x;·subst hx;simp
   ·have hx':¬ x=k:=fun e=>hx e.symm;simp only [hx,hx',decide_false,Bool.false_eq_true,if_false];rw [findAsking_eq heq k es ks (i+1) w h.2];cases ks.idxOf? k with
    | none=>rfl
    | some j=>simp [Nat.add_assoc,Nat.add_comm 1 j]
theorem KeysBy.deep {K:TypeId} {d:TypeDesc} (hu:P.underlying K=some d) (hnow:∀ k v,Instr.sameNow d (f k) v=none) (heq:∀ a b w,(Op.equal K (f a) (f b)).run P w=.ok (decide (a=b)) w)
  (hcheck:∀ (e:Bool) (k:κ) (w:World),(Instr.checkKey e 10000 K (f k)).run P w=.ok () w) (hsame:∀ k,Instr.sameBits 10000 (f k) (f k)=true):KeysBy P K f where
 check:=hcheck
 same:=hsame
 find:=fun k es ks w h=>by
  unfold Instr.findKey;have hr:(Go.underlying K).run P w=.ok d w:=by unfold Go.underlying;simp [hu]
  rw [Sem.run_bind,hr];simp only [Result.andThen_ok];cases es with
  | nil =>
   cases ks with
   | nil=>rfl
   | cons=>simp at h
  | cons e es =>simp only [Instr.findNow,hnow];have:=findAsking_eq heq k (e::es) ks 0 w h;simpa using this
theorem findNow_eq {d:TypeDesc} (hnow:∀ a b,Instr.sameNow d (f a) (f b)=some (decide (a=b))) (k:κ):∀ (es:List MapEntry) (ks:List κ) (i:Nat),es.map (·.key)=ks.map f →
  Instr.findNow d (f k) es i=some ((ks.idxOf? k).bind fun j=>(es[j]?).map fun e=>(i+j,e.val))
 | [],ks,i,h=>by
  cases ks with
  | nil=>rfl
  | cons=>simp at h
 | e::es,ks,i,h=>by
  cases ks with
  | nil=>simp at h
  | cons x ks =>
   simp only [List.map_cons,List.cons.injEq] at h;unfold Instr.findNow;rw [h.1,hnow,idxOf?_cons];by_cases hx:k=x;·subst hx;simp
   ·have hx':¬ x=k:=fun e=>hx e.symm;simp only [hx,hx',decide_false,if_false];rw [findNow_eq hnow k es ks (i+1) h.2];cases ks.idxOf? k with
    | none=>rfl
    | some j=>simp [Nat.add_assoc,Nat.add_comm 1 j]
theorem KeysBy.now {K:TypeId} {d:TypeDesc} (hu:P.underlying K=some d) (hnow:∀ a b,Instr.sameNow d (f a) (f b)=some (decide (a=b)))
  (hcheck:∀ (e:Bool) (k:κ) (w:World),(Instr.checkKey e 10000 K (f k)).run P w=.ok () w) (hsame:∀ k,Instr.sameBits 10000 (f k) (f k)=true):KeysBy P K f where
 check:=hcheck
 same:=hsame
 find:=fun k es ks w h=>by
  unfold Instr.findKey;have hr:(Go.underlying K).run P w=.ok d w:=by unfold Go.underlying;simp [hu]
  rw [Sem.run_bind,hr];simp only [Result.andThen_ok];rw [findNow_eq hnow k es ks 0 h];simp
theorem KeysBy.int {K:TypeId} {q:IntKind} (hu:P.underlying K=some (.int q)):KeysBy P K (fun n:Int=>Value.int q n):=by
 refine KeysBy.now hu (fun a b=>?_) (fun e k w=>?_) fun k=>?_;·
  show (if q=q then some (a == b) else none)=_;rw [if_pos rfl];congr 1
 ·unfold Instr.checkKey Go.underlying;simp [hu]
 ·simp [Instr.sameBits]
end
section
variable {κ ν:Type} {f:κ→Value} {g:ν→Value}
def MapIs (w:World) (b:Nat) (f:κ→Value) (g:ν→Value) (l:List (κ×ν)):Prop :=
 ∃ es clock,w.heap[b]?=some (.map es clock)∧es.toList.map (fun e=>(e.key,e.val))=l.map fun p=>(f p.1,g p.2)
theorem MapIs.keys {es:Array MapEntry} {l:List (κ×ν)} (h:es.toList.map (fun e=>(e.key,e.val))=l.map fun p=>(f p.1,g p.2)):es.toList.map (·.key)=(l.map (·.1)).map f:=by have:=congrArg (List.map Prod.fst) h;simpa [List.map_map,Function.comp_def] using this
theorem MapIs.val {es:Array MapEntry} {l:List (κ×ν)} (h:es.toList.map (fun e=>(e.key,e.val))=l.map fun p=>(f p.1,g p.2)) (i:Nat):(es.toList[i]?).map (·.val)=(l[i]?).map fun p=>g p.2:=by have:=congrArg (fun x:List (Value×Value)=>(x[i]?).map Prod.snd) h;simpa [List.getElem?_map,Option.map_map,Function.comp_def] using this
theorem MapIs.made (w:World):MapIs { w with heap:=w.heap.push (.map #[] 0) } w.heap.size f g []:=⟨#[],0,i_,rfl⟩
theorem MapIs.of_block {w w':World} {b:Nat} {l:List (κ×ν)} (h:MapIs w b f g l) (he:w'.heap[b]?=w.heap[b]?):MapIs w' b f g l:=by obtain⟨es,clock,hb,hl⟩:=h;exact⟨es,clock,he.trans hb,hl⟩
theorem MapIs.lt {w:World} {b:Nat} {l:List (κ×ν)} (h:MapIs w b f g l):b<w.heap.size:=by obtain⟨es,clock,hb,hl⟩:=h;exact (Array.getElem?_eq_some_iff.1 hb).1
end
section
variable {P:Program} {κ:Type} [DecidableEq κ] {f:κ→Value} {ν:Type} {g:ν→Value}
def put (l:List (κ×ν)) (k:κ) (v:ν):List (κ×ν) :=
 match (l.map (·.1)).idxOf? k with
 | some i=>l.set i (k,v)
 | none=>l++[(k,v)]
def get? (l:List (κ×ν)) (k:κ):Option ν:=((l.map (·.1)).idxOf? k).bind fun i=>(l[i]?).map (·.2)
theorem MapIs.lookup {T K E:TypeId} {w:World} {b:Nat} {l:List (κ×ν)} (h:MapIs w b f g l) (hT:P.underlying T=some (.map K E)) (hK:KeysBy P K f) {z:Value}
  (hz:(zeroValue E).run P w=.ok z w) (k:κ) (c:Bool) :
  (Instr.lookup T (.map (some b)) (f k) c).run P w=.ok (if c then .tuple #[((get? l k).map g).getD z,.bool (get? l k).isSome] else ((get? l k).map g).getD z) w:=by
 obtain⟨es,clock,hb,hl⟩:=h;unfold Instr.lookup;have hr:(Go.underlying T).run P w=.ok (.map K E) w:=by unfold Go.underlying;simp [hT]
 have hg:(Go.getObj b).run P w=.ok (.map es clock) w:=by simp [Go.getObj,Sem.run,hb]
 rw [Sem.run_bind,hr];simp only [Result.andThen_ok];rw [Sem.run_bind,hg];simp only [Result.andThen_ok];rw [Sem.run_bind,Sem.run_pure];simp only [Result.andThen_ok];rw [Sem.run_bind,hK.check];simp only [Result.andThen_ok];rw [Sem.run_bind,hK.find k es.toList (l.map (·.1)) w (MapIs.keys hl)];simp only [Result.andThen_ok];unfold get?;cases hi:(l.map (·.1)).idxOf? k with
 | none=>simp [hz]
 | some i =>
  have hv:=MapIs.val hl i;cases he:es.toList[i]? with
  | none =>
   rw [he] at hv;cases hli:l[i]? with
   | none=>simp only [Option.bind_some,he,hli,Option.map_none];rw [Sem.run_bind,hz];simp
   | some p=>rw [hli] at hv;simp at hv
  | some e =>
   rw [he] at hv;cases hli:l[i]? with
   | none=>rw [hli] at hv;simp at hv
   | some p=>rw [hli] at hv;simp at hv;simp only [Option.bind_some,he,hli,Option.map_some];simp [hv]
theorem MapIs.update {T K E:TypeId} {w:World} {b:Nat} {l:List (κ×ν)} (h:MapIs w b f g l) (hT:P.underlying T=some (.map K E)) (hK:KeysBy P K f) (k:κ) (v:ν) :
  ∃ w',(Instr.mapUpdate T (.map (some b)) (f k) (g v)).run P w=.ok () w'∧MapIs w' b f g (put l k v)∧(∃ o,w'={ w with heap:=w.heap.setIfInBounds b o }):=by
 obtain⟨es,clock,hb,hl⟩:=h;have hlt:b<w.heap.size:=(Array.getElem?_eq_some_iff.1 hb).1;unfold Instr.mapUpdate;have hr:(Go.underlying T).run P w=.ok (.map K E) w:=by unfold Go.underlying;simp [hT]
 have hg:(Go.getObj b).run P w=.ok (.map es clock) w:=by simp [Go.getObj,Sem.run,hb]
 have hset:∀ o,(Go.setObj b o).run P w=.ok () { w with heap:=w.heap.setIfInBounds b o }:=fun o=>by simp [Go.setObj,Sem.run,hb]
 rw [Sem.run_bind,hr];simp only [Result.andThen_ok];rw [Sem.run_bind,hg];simp only [Result.andThen_ok];rw [Sem.run_bind,hK.check];simp only [Result.andThen_ok];rw [Sem.run_bind,hK.find k es.toList (l.map (·.1)) w (MapIs.keys hl)];simp only [Result.andThen_ok];have push:∃ w',(Go.setObj b (.map (es.push { key:=f k,val:=g v,born:=clock }) (clock+1))).run P w=.ok () w'∧MapIs w' b f g (l++[(k,v)])∧(∃ o,w'={ w with heap:=w.heap.setIfInBounds b o }):=by refine⟨_,hset _,⟨_,_,by rw [Array.getElem?_setIfInBounds_self_of_lt hlt],?_⟩,_,rfl⟩;simp [hl]
 unfold put;cases hi:(l.map (·.1)).idxOf? k with
 | none=>exact push
 | some i =>
  have hkeys:=MapIs.keys hl;have hsz:es.size=l.length:=by have:=congrArg List.length hl;simpa using this
  obtain⟨hil,hki⟩:∃ h:i<l.length,(l[i]).1=k:=by rw [List.idxOf?_eq_some_iff] at hi;obtain⟨h1,h2,_⟩:=hi;simp at h1 h2;exact⟨h1,h2⟩
  have hil':i<es.toList.length:=by simpa [hsz] using hil
  have he:es.toList[i]?=some es.toList[i]:=List.getElem?_eq_getElem hil';have hke:(es.toList[i]).key=f k:=by have:=congrArg (fun x:List Value=>x[i]?) hkeys;simp only [List.getElem?_map,he] at this;simp [hil,hki] at this;simpa using this
  simp only [Option.bind_some,he,Option.map_some];have hke':((es[i]?).map (·.key)).getD (f k)=f k:=by have hi3:i<es.size:=o_;simp [hi3];have:=hke;simpa using this
  rw [Sem.run_bind,hke'];unfold Instr.keyThatStays;rw [if_pos (hK.same k)];simp only [Sem.run_pure,Result.andThen_ok];refine⟨_,hset _,⟨_,_,by rw [Array.getElem?_setIfInBounds_self_of_lt hlt],?_⟩,_,rfl⟩;simp only [Array.toList_modify,List.map_set];apply List.ext_getElem?;intro j;have hj:=congrArg (fun x:List (Value×Value)=>x[j]?) hl;simp only [List.getElem?_map] at hj ⊢;rw [List.getElem?_modify,List.getElem?_set];by_cases hij:i=j;·
   subst hij;have hi3:i<es.size:=o_
   simp [hil,hi3]
  ·simp only [hij,if_false];simp only [List.getElem?_map];simpa using hj
end
section
variable {P:Program} {κ ν:Type} {f:κ→Value} {g:ν→Value}
theorem MapIs.len {w:World} {b:Nat} {l:List (κ×ν)} (h:MapIs w b f g l) {T K E:TypeId} (hT:P.underlying T=some (.map K E)) (ty:TypeId) :
  (Builtin.len_ #[T] ty #[.map (some b)]).run P w=.ok (.int .i64 l.length) w:=by
 obtain⟨es,clock,hb,hl⟩:=h;have hsz:es.size=l.length:=by have:=congrArg List.length hl;simpa using this
 have hg:(Go.getObj b).run P w=.ok (.map es clock) w:=by simp [Go.getObj,Sem.run,hb]
 have hr:(Go.underlying T).run P w=.ok (.map K E) w:=by unfold Go.underlying;simp [hT]
 unfold Builtin.len_;show Sem.run P (Go.underlying T >>= _) w=_;rw [Sem.run_bind,hr];simp only [Result.andThen_ok];show Sem.run P (Go.getObj b >>= _) w=_;rw [Sem.run_bind,hg];simp [goInt,hsz]
end
section
variable {P:Program} {κ:Type} [DecidableEq κ] {f:κ→Value} {ν:Type} {g:ν→Value} {ops:Array Oper} {rest:List Oper} {o:Oper} {a:Act} {w:World} {Q:Exit→Act→World→Prop}
theorem exec_lookup {ρ:Operand→Value} {T:TypeId} {m x:Operand} {c:Bool} (ho:o.op=.lookup T m x c):(execOp ρ o).run P w=((Instr.lookup T (ρ m) (ρ x) c).run P w).andThen fun v w'=>.ok (.value v) w':=by unfold execOp;simp only [ho,Sem.run_bind];rfl
theorem wpList_lookup_hit {T K E:TypeId} {m x:Operand} {b:Nat} {l:List (κ×ν)} {k:κ} {v:ν} {z:Value} {c:Bool} (hg:o.guard=none) (ho:o.op=.lookup T m x c) (hm:a.eval m=.map (some b)) (hx:a.eval x=f k) (h:MapIs w b f g l)
  (hT:P.underlying T=some (.map K E)) (hK:KeysBy P K f) (hz:(zeroValue E).run P w=.ok z w) (hv:get? l k=some v) (hnext:wpList P ops Q rest (a.put o.dst (if c then .tuple #[g v,.bool true] else g v)) w):wpList P ops Q (o::rest) a w:=by
 refine wpList_run hg ?_ hnext;rw [exec_lookup ho,hm,hx,h.lookup hT hK hz k c,hv];rfl
theorem wpList_lookup_miss {T K E:TypeId} {m x:Operand} {b:Nat} {l:List (κ×ν)} {k:κ} {z:Value} {c:Bool} (hg:o.guard=none) (ho:o.op=.lookup T m x c) (hm:a.eval m=.map (some b)) (hx:a.eval x=f k) (h:MapIs w b f g l)
  (hT:P.underlying T=some (.map K E)) (hK:KeysBy P K f) (hz:(zeroValue E).run P w=.ok z w) (hv:get? l k=none) (hnext:wpList P ops Q rest (a.put o.dst (if c then .tuple #[z,.bool false] else z)) w):wpList P ops Q (o::rest) a w:=by
 refine wpList_run hg ?_ hnext;rw [exec_lookup ho,hm,hx,h.lookup hT hK hz k c,hv];rfl
theorem wpList_update_is {T K E:TypeId} {m x u:Operand} {b:Nat} {l:List (κ×ν)} {k:κ} {v:ν} (hg:o.guard=none) (ho:o.op=.mapUpdate T m x u) (hm:a.eval m=.map (some b)) (hx:a.eval x=f k) (hu:a.eval u=g v) (h:MapIs w b f g l)
  (hT:P.underlying T=some (.map K E)) (hK:KeysBy P K f) (hnext:∀ q,MapIs { w with heap:=w.heap.setIfInBounds b q } b f g (put l k v)→wpList P ops Q rest (a.put o.dst undef) { w with heap:=w.heap.setIfInBounds b q }):wpList P ops Q (o::rest) a w:=by
 obtain⟨w',hr,hi,q,rfl⟩:=h.update hT hK k v;refine wpList_run_skip hg ?_ (hnext q hi);unfold execOp;simp only [ho,hm,hx,hu,Sem.run_bind,hr];rfl
end
end Go.Proofs.Mp
end
