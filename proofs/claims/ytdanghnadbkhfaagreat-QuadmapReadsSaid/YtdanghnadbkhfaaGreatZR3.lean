/- Own texts of this claim, part 4: no condition. -/
import Derived.Test.YtdanghnadbkhfaaGreatZR1
import Derived.Test.YtdanghnadbkhfaaGreatZR2
set_option linter.unusedVariables false
set_option linter.unusedSimpArgs false
section
namespace Go.Proofs.Rg
open Go
def again (P:Program) (ops:Array Oper) (k:Nat) (a:Act) (w:World):Prop :=
 ∀ o,ops[k]?=some o→Region.wanted o (yielded ops a.tmps)=true→∃ u,(execOp a.eval o).run P w=.ok (.value u) w∧(a.put o.dst u).tmps=a.tmps
def wpG (P:Program) (ops:Array Oper) (Q:Exit→Act→World→Prop) (chk:Nat→List Nat):List Nat→Act→World→Prop
 | [],a,w=>Q .normal a w
 | i::rest,a,w=>wpOp P ops Q i (fun a' w'=>(∀ k∈chk i,again P ops k a' w')∧wpG P ops Q chk rest a' w') a w
section
variable {P:Program} {ops:Array Oper} {K0:Act→World→Prop}
theorem put_put (a:Act) (d:Option Tmp) (v u:Value):(a.put d v).put d u=a.put d u:=by
 cases d with
 | none=>rfl
 | some d=>simp [Act.put]
theorem again_put {k:Nat} {o:Oper} (hk:ops[k]?=some o) {dst:Option Tmp} {v:Value} {a a':Act} {w:World} (ht:a'.tmps=(a.put dst v).tmps) (h1:∀ d,dst=some d→d∉o.looksAt ops) (h2:∀ d,dst=some d→o.dst≠some d)
  (hs:∀ cs b,o.op≠.select cs b):again P ops k a' w↔again P ops k a w:=by
 have he:execOp a'.eval o=execOp a.eval o:=execOp_congr o hs fun x hx=>by rw [eval_of_tmps ht,eval_put' h1 hx]
 have hw:Region.wanted o (yielded ops a'.tmps)=Region.wanted o (yielded ops a.tmps):=by rw [ht,wanted_put o a dst v h1]
 have hput:∀ u,(a'.put o.dst u).tmps=((a.put dst v).put o.dst u).tmps:=fun u=>by
  cases hd:o.dst with
  | none=>exact ht
  | some d=>simp only [Act.put,ht]
 have key:∀ u,(a'.put o.dst u).tmps=a'.tmps↔(a.put o.dst u).tmps=a.tmps:=fun u=>by
  rw [hput,ht,Act.put_comm a v u h2]
  cases dst with
  | none=>exact Iff.rfl
  | some d =>
   cases hd:o.dst with
   | none=>exact⟨fun _=>rfl,fun _=>rfl⟩
   | some e =>
    have hne:d≠e:=fun q=>h2 d rfl (by rw [hd,q])
    simp only [Act.put]
    constructor
    ·intro h
     apply Array.ext_getElem?
     intro i
     by_cases hi:i=d
     ·subst hi
      rw [Array.getElem?_setIfInBounds_ne (fun q=>hne q.symm)]
     ·have:=congrArg (fun x:Array Value=>x[i]?) h
      rwa [Array.getElem?_setIfInBounds_ne (fun q=>hi q.symm),Array.getElem?_setIfInBounds_ne (xs:=a.tmps) (fun q=>hi q.symm)] at this
    ·intro h;rw [h]
 unfold again
 constructor
 ·intro h o' ho' hw'
  obtain rfl:o=o':=Option.some.inj (hk.symm.trans ho')
  obtain⟨u,hr,hp⟩:=h o hk (by rw [hw];exact hw')
  exact⟨u,by rw [← he];exact hr,(key u).1 hp⟩
 ·intro h o' ho' hw'
  obtain rfl:o=o':=Option.some.inj (hk.symm.trans ho')
  obtain⟨u,hr,hp⟩:=h o hk (by rw [← hw];exact hw')
  exact⟨u,by rw [he];exact hr,(key u).2 hp⟩
theorem put_eq_of_tmps {a:Act} {d:Option Tmp} {v u:Value} (h:((a.put d v).put d u).tmps=(a.put d v).tmps):a.put d u=a.put d v:=by
 rw [put_put] at h
 cases d with
 | none=>rfl
 | some d=>simp only [Act.put] at h ⊢;rw [h]
theorem put_through {i:Nat} {ox oi:Oper} {v:Value} (hi:ops[i]?=some oi) (hap:ox.apart ops oi=true) (hsi:∀ cs b,oi.op≠.select cs b) {R:Act→World→Prop} {a:Act} {w:World}
  (h:wpOp P ops (Strict ops K0) i R (a.put ox.dst v) w):wpOp P ops (Strict ops K0) i (fun a1 w1=>R (a1.put ox.dst v) w1) a w:=by
 obtain⟨h1,h2,h3⟩:=Oper.apart_spec hap
 have comm:∀ (a:Act) u,(a.put ox.dst v).put oi.dst u=(a.put oi.dst u).put ox.dst v:=fun a u=>Act.put_comm a v u h2
 cases hw:Region.wanted oi (yielded ops a.tmps) with
 | false =>
  have hw':Region.wanted oi (yielded ops (a.put ox.dst v).tmps)=false:=by rw [wanted_put oi a ox.dst v h1];exact hw
  unfold wpOp at h ⊢
  simp only [hi,hw,hw',Bool.false_eq_true,if_false] at h ⊢
  rw [← comm];exact h
 | true =>
  have hw':Region.wanted oi (yielded ops (a.put ox.dst v).tmps)=true:=by rw [wanted_put oi a ox.dst v h1];exact hw
  obtain⟨h,_⟩:=ran hi hw' h
  unfold wpOp
  simp only [hi,hw,if_true]
  refine .inl ?_
  unfold Oper.wp
  rw [execOp_put oi hsi a ox.dst v h1] at h
  generalize (execOp a.eval oi).run P w=r at h ⊢
  cases r with
  | ok n w' =>
   cases n<;>simp only [Oper.upon] at h ⊢
   case value u=>rw [← comm];exact h
   case skip=>rw [← comm];exact h
   case defer d =>
    rw [← Act.put_comm _ v undef h2,← Act.put_defers]
    exact h
   case enter f args =>
    refine Calls.mono h fun e w'' he=>?_
    cases e with
    | returned u=>simp only at he ⊢;rw [← comm];exact he
    | panicked c=>exact he
    | outgrown=>exact he
   case row row args=>exact Rows.mono h fun u w'' he=>by rw [← comm];exact he
  | halt x w' =>
   cases x<;>simp only [Oper.upon] at h ⊢
   case panic u=>exact h
theorem finalG {o:Oper} {chk:Nat→List Nat} {j:Nat} (hj:ops[j]?=some o):∀ (l:List Nat) (a:Act) (w:World),wpG P ops (Strict ops K0) chk l a w →
  (∀ k∈l,∀ ok,ops[k]?=some ok→writes ok (o.looksAt ops)=false)→dynWant ops o a=true
 | [],a,w,h,_=>by
  have h1:dynAll ops a=true:=h.1
  exact List.all_eq_true.1 h1 o (by simpa using Array.mem_of_getElem? hj)
 | k::l,a,w,h,hl=>by
  unfold wpG at h
  cases hk:ops[k]? with
  | none =>
   unfold wpOp at h
   simp only [hk] at h
   exact finalG hj l a w h.2 fun z hz=>hl z (List.mem_cons_of_mem _ hz)
  | some ok =>
   obtain⟨v,a',w',ht,h'⟩:=reach hk h
   have:=finalG hj l a' w' h'.2 fun z hz=>hl z (List.mem_cons_of_mem _ hz)
   rw [dynWant_put ht (writes_spec (hl k (by simp) ok hk))] at this
   exact this
theorem ext_of {i:Nat} {oi:Oper} (hi:ops[i]?=some oi) (hc:cl P oi.op=.load∨cl P oi.op=.alloc) {R:Act→World→Prop} {a:Act} {w:World} (hd:dynWant ops oi a=true) (h:wpOp P ops (Strict ops K0) i R a w) :
  wpOp P ops (Strict ops K0) i (fun a1 w1=>R a1 w1∧Ext w w1) a w:=by
 cases hw:Region.wanted oi (yielded ops a.tmps) with
 | false =>
  unfold wpOp at h ⊢
  simp only [hi,hw,Bool.false_eq_true,if_false] at h ⊢
  exact⟨h,Ext.refl _⟩
 | true =>
  obtain⟨h,n,w1,hr⟩:=ran hi hw h
  have hg:Ext w w1∧∃ v,n=.value v:=by
   rcases hc with hc|hc
   ·obtain⟨hs,hv⟩:=exec_load (P:=P) (ρ:=a.eval) hc (by simpa [dynWant,hw] using hd)
    obtain⟨rfl,_⟩:=hs _ _ _ hr
    exact⟨Ext.refl _,hv _ ⟨_,_,hr⟩⟩
   ·obtain⟨hs,hv⟩:=exec_alloc (P:=P) (ρ:=a.eval) hc
    exact⟨hs _ _ _ hr,hv _ ⟨_,_,hr⟩⟩
  obtain⟨he,v,rfl⟩:=hg
  unfold wpOp
  simp only [hi,hw,if_true]
  refine .inl ?_
  unfold Oper.wp
  rw [hr] at h ⊢
  exact⟨h,he⟩
theorem swapG {x i:Nat} {ox oi:Oper} (hx:ops[x]?=some ox) (hi:ops[i]?=some oi) (hap:ox.apart ops oi=true) (hsx:∀ cs b,ox.op≠.select cs b) (hsi:∀ cs b,oi.op≠.select cs b)
  {A B B' K:Act→World→Prop} (hcl:cl P ox.op=.pure∨cl P oi.op=.pure∨(cl P ox.op=.load∧(cl P oi.op=.load∨cl P oi.op=.alloc))∨(cl P ox.op=.load∧∀ a w,B a w→again P ops x a w))
  (hwx:trivialOp ox.op=true∨writes ox (ox.looksAt ops)=false) (hwi:trivialOp oi.op=true∨writes oi (oi.looksAt ops)=false) (hlx:cl P ox.op=.load→writes ox (ox.looksAt ops)=false)
  (hB:∀ a1 v w1,B (a1.put ox.dst v) w1→B' a1 w1) (hB2:cl P oi.op=.pure→∀ a w,B' a w) (hA1:cl P ox.op=.pure∨cl P ox.op=.load→∀ a w,A a w) (hA2:∀ a1 u w1,A a1 w1→A (a1.put oi.dst u) w1)
  (hK:∀ a w,K a w→dynWant ops ox a=true∧dynWant ops oi a=true) {a:Act} {w:World}
  (h:wpOp P ops (Strict ops K0) x (fun a w=>A a w∧wpOp P ops (Strict ops K0) i (fun a' w'=>B a' w'∧K a' w') a w) a w) :
  wpOp P ops (Strict ops K0) i (fun a' w'=>B' a' w'∧wpOp P ops (Strict ops K0) x (fun a'' w''=>A a'' w''∧K a'' w'') a' w') a w:=by
 obtain⟨h1,h2,h3⟩:=Oper.apart_spec hap
 obtain⟨u,a1,w1,ht1,hr1⟩:=reach hx h
 obtain⟨v,a2,w2,ht2,hr2⟩:=reach hi hr1.2
 have hdx:dynWant ops ox a=true:=by
  rcases hwx with hwx|hwx
  ·unfold dynWant;rw [dynOp_trivial hwx];rfl
  ·have:=(hK _ _ hr2.2).1
   rw [dynWant_put ht2 h3,dynWant_put ht1 (writes_spec hwx)] at this
   exact this
 have hdi:dynWant ops oi a1=true:=by
  rcases hwi with hwi|hwi
  ·unfold dynWant;rw [dynOp_trivial hwi];rfl
  ·have:=(hK _ _ hr2.2).2
   rw [dynWant_put ht2 (writes_spec hwi)] at this
   exact this
 by_cases hci:cl P oi.op=.pure
 ·obtain⟨v,hy⟩:=yields_pure hi hci hdi hr1.2
  have hy:Yields P ops oi v a:=by
   refine hy.of_same ?_ ?_
   ·refine execOp_congr oi hsi fun y hy=>?_
    rw [eval_of_tmps ht1,eval_put' h1 hy]
   ·rw [ht1,wanted_put oi a ox.dst u h1]
  refine Yields.wpOp hi hy ⟨hB2 hci _ _,?_⟩
  exact put_rev hx (apart_symm hap) hsx hsi hy (wpOp_mono (fun a1 w1 hh hy'=>⟨hA2 _ _ _ hh.1,(Yields.inv hi hy' hh.2).2⟩) h)
 ·-- x is calm or a load
  have hcx:cl P ox.op=.pure∨cl P ox.op=.load:=by
   rcases hcl with h|h|h|h
   ·exact .inl h
   ·exact absurd h hci
   ·exact .inr h.1
   ·exact .inr h.1
  have hA:=hA1 hcx
  have viaYields:∀ v,Yields P ops ox v a→wpOp P ops (Strict ops K0) i (fun a' w'=>B' a' w'∧wpOp P ops (Strict ops K0) x (fun a'' w''=>A a'' w''∧K a'' w'') a' w') a w:=fun v hy=>by
   have h':=(Yields.inv hx hy h).2
   refine wpOp_mono ?_ (wpOp_put hi hap hsx hsi (fun _ _ _ h=>h) hy h')
   rintro a' w' ⟨hy',hb,hk⟩
   exact⟨hB _ _ _ hb,Yields.wpOp hx hy' ⟨hA _ _,hk⟩⟩
  by_cases hcp:cl P ox.op=.pure
  ·obtain⟨v,hy⟩:=yields_pure hx hcp hdx h
   exact viaYields v hy
  ·have hcload:cl P ox.op=.load:=hcx.resolve_left hcp
   cases hwa:Region.wanted ox (yielded ops a.tmps) with
   | false=>exact viaYields undef (.inr ⟨hwa,rfl⟩)
   | true =>
    obtain⟨hst,hval⟩:=exec_load (P:=P) (ρ:=a.eval) hcload (by simpa [dynWant,hwa] using hdx)
    obtain⟨hu,n,w1',hr⟩:=ran hx hwa h
    obtain⟨y,rfl⟩:=hval n ⟨_,_,hr⟩
    obtain⟨rfl,hlater⟩:=hst _ _ _ hr
    rw [hr] at hu
    have hu:=hu.2
    have hlx:=writes_spec (hlx hcload)
    -- what i leaves of x
    have same:∀ (a1:Act) (w2:World),(∃ R,R)→True:=fun _ _ _=>trivial
    have acts:∀ (o1:Act) (w2:World),execOp o1.eval ox=execOp a.eval ox→Region.wanted ox (yielded ops o1.tmps)=true→(execOp a.eval ox).run P w2=.ok (.value y) w2→K (o1.put ox.dst y) w2→wpOp P ops (Strict ops K0) x (fun a'' w''=>A a'' w''∧K a'' w'') o1 w2:=by
     intro o1 w2 he hw hrun hk
     unfold wpOp
     simp only [hx,hw,if_true]
     refine .inl ?_
     unfold Oper.wp
     rw [he,hrun]
     exact⟨hA _ _,hk⟩
    -- the acts that i leaves look alike to x
    have keep:wpOp P ops (Strict ops K0) i (fun a1 w1=>(execOp a1.eval ox=execOp a.eval ox∧Region.wanted ox (yielded ops a1.tmps)=true)∧(fun a' w'=>B a' w'∧K a' w') (a1.put ox.dst y) w1) a w1':=by
     have hh:=put_through hi hap hsi hu
     have base:∀ (a1:Act) (u:Value),a1.tmps=(a.put oi.dst u).tmps→execOp a1.eval ox=execOp a.eval ox∧Region.wanted ox (yielded ops a1.tmps)=true:=fun a1 u ht=>by
      refine⟨execOp_congr ox hsx fun z hz=>?_,?_⟩
      ·rw [eval_of_tmps ht,eval_put' h3 hz]
      ·rw [ht,wanted_put ox a oi.dst u h3];exact hwa
     cases hwi':Region.wanted oi (yielded ops a.tmps) with
     | false =>
      unfold wpOp at hh ⊢
      simp only [hi,hwi',Bool.false_eq_true,if_false] at hh ⊢
      exact⟨base _ _ rfl,hh⟩
     | true =>
      obtain⟨hh,_⟩:=ran hi hwi' hh
      unfold wpOp
      simp only [hi,hwi',if_true]
      refine .inl ?_
      unfold Oper.wp
      generalize (execOp a.eval oi).run P w1'=r at hh ⊢
      cases r with
      | ok n w' =>
       cases n<;>simp only [Oper.upon] at hh ⊢
       case value u=>exact⟨base _ _ rfl,hh⟩
       case skip=>exact⟨base _ _ rfl,hh⟩
       case defer d=>exact⟨base _ undef (by cases oi.dst<;>rfl),hh⟩
       case enter f args =>
        refine Calls.mono hh fun e w'' he=>?_
        cases e with
        | returned u=>exact⟨base _ _ rfl,he⟩
        | panicked c=>exact he
        | outgrown=>exact he
       case row row args=>exact Rows.mono hh fun u w'' he=>⟨base _ _ rfl,he⟩
      | halt z w' =>
       cases z<;>simp only [Oper.upon] at hh ⊢
       case panic u=>exact hh
    rcases hcl with h|h|h|h
    ·exact absurd h hcp
    ·exact absurd h hci
    ·refine wpOp_mono ?_ (ext_of hi h.2 (by have hdi2:=hdi;rw [dynWant_put ht1 h1] at hdi2;exact hdi2) keep)
     rintro o1 w2 ⟨⟨⟨he,hw⟩,hb,hk⟩,hext⟩
     exact⟨hB _ _ _ hb,acts o1 w2 he hw (hlater _ hext) hk⟩
    ·refine wpOp_mono ?_ keep
     rintro o1 w2 ⟨⟨he,hw⟩,hb,hk⟩
     refine⟨hB _ _ _ hb,?_⟩
     obtain⟨u,hru,hpu⟩:=h.2 _ _ hb ox hx (by rw [wanted_put ox o1 ox.dst y hlx];exact hw)
     rw [execOp_put ox hsx o1 ox.dst y hlx,he] at hru
     have heq:=put_eq_of_tmps hpu
     have hy2:∀ u',K (o1.put ox.dst u') w2→(execOp a.eval ox).run P w2=.ok (.value u') w2→wpOp P ops (Strict ops K0) x (fun a'' w''=>A a'' w''∧K a'' w'') o1 w2:=by
      intro u' hk' hrun
      unfold wpOp
      simp only [hx,hw,if_true]
      refine .inl ?_
      unfold Oper.wp
      rw [he,hrun]
      exact⟨hA _ _,hk'⟩
     exact hy2 u (by rw [heq];exact hk) hru
end
def rank (π:List Nat) (i:Nat):Nat:=π.idxOf i
def clG (c:List Nat) (x:Nat) (a b:Cl):Bool:=clOK a b || (a == .load && c.contains x)
def bitOf (b:Array Nat) (j i:Nat):Bool:=decide (i<j) && (b.getD j 0).testBit i
def edgesG (π:List Nat) (o:Oper) (j:Nat):Bool:=o.after.all fun e=>!Region.binds .any e || (decide (e.on<j) && decide (rank π e.on<rank π j))
def lookG (ops:Array Oper) (π:List Nat) (b:Array Nat) (o:Oper) (j:Nat):Bool :=
 trivialOp o.op || (List.range ops.size).all fun z=>match ops[z]? with
  | some oz=>!writes oz (o.looksAt ops) || (decide (rank π z<rank π j) && bitOf b j z)
  | none=>true
def pairsG (P:Program) (ops:Array Oper) (π:List Nat) (b:Array Nat) (chk:Nat→List Nat) (o:Oper) (j:Nat):Bool :=
 π.all fun i=>!decide (rank π i<rank π j) || bitOf b j i || match ops[i]? with
  | some oi=>oi.apart ops o && clG (chk j) i (cl P oi.op) (cl P o.op)
  | none=>true
def againG (P:Program) (ops:Array Oper) (π:List Nat) (b:Array Nat) (j k:Nat):Bool :=
 match ops[k]? with
 | some ok=>cl P ok.op == .load && decide (rank π k<rank π j) && !writes ok (ok.looksAt ops) && (List.range ops.size).all fun z=>z == k || (match ops[z]? with
  | some oz=>!(writes oz (ok.looksAt ops) || writes oz ok.dst.toList) || (decide (rank π z<rank π k) && bitOf b k z)
  | none=>true)
 | none=>false
def selfG (P:Program) (ops:Array Oper) (o:Oper):Bool:=!(cl P o.op == .load) || !writes o (o.looksAt ops)
def orderOKb (P:Program) (ops:Array Oper) (π:List Nat) (chk:Nat→List Nat) (b:Array Nat):Bool :=
 Region.noSelect ops && decide (π.length=ops.size) && (List.range ops.size).all (fun j=>π.contains j) && π.all (fun j=>decide (j<ops.size)) && decide π.Nodup &&
 (List.range ops.size).all fun j=>match ops[j]? with
  | some o=>edgesG π o j && maskOK b o j && lookG ops π b o j && pairsG P ops π b chk o j && selfG P ops o && (chk j).all (againG P ops π b j) && ((chk j).isEmpty || cl P o.op == .any)
  | none=>true
def orderOK (P:Program) (ops:Array Oper) (π:List Nat) (chk:Nat→List Nat):Bool:=orderOKb P ops π chk (Region.before ops)
section
variable {P:Program} {ops:Array Oper} {K0:Act→World→Prop} {b:Array Nat} {π:List Nat} {chk:Nat→List Nat}
structure Ordered (P:Program) (ops:Array Oper) (π:List Nat) (chk:Nat→List Nat) (b:Array Nat):Prop where
 select:Region.noSelect ops=true
 len:π.length=ops.size
 all:∀ j:Nat,j<ops.size↔j∈π
 nodup:π.Nodup
 edges:∀ (j:Nat) (o:Oper),ops[j]?=some o→∀ e∈o.after,Region.binds .any e=true→e.on<j∧rank π e.on<rank π j
 mask:∀ (j:Nat) (o:Oper),ops[j]?=some o→maskOK b o j=true
 look:∀ (j:Nat) (o:Oper) (z:Nat) (oz:Oper),ops[j]?=some o→ops[z]?=some oz→¬ (rank π z<rank π j∧bitOf b j z=true)→trivialOp o.op=true∨writes oz (o.looksAt ops)=false
 pair:∀ (i j:Nat) (oi oj:Oper),ops[i]?=some oi→ops[j]?=some oj→rank π i<rank π j→bitOf b j i=false→oi.apart ops oj=true∧clG (chk j) i (cl P oi.op) (cl P oj.op)=true
 self:∀ (j:Nat) (o:Oper),ops[j]?=some o→cl P o.op=.load→writes o (o.looksAt ops)=false
 chkAny:∀ (j:Nat) (o:Oper),ops[j]?=some o→cl P o.op≠.any→chk j=[]
 chkLook:∀ (j:Nat) (o:Oper) (k:Nat),ops[j]?=some o→k∈chk j→∃ ok,ops[k]?=some ok∧rank π k<rank π j∧∀ (z:Nat) (oz:Oper),ops[z]?=some oz→z≠k→¬ (rank π z<rank π k∧bitOf b k z=true) →
  writes oz (ok.looksAt ops)=false∧writes oz ok.dst.toList=false
theorem Ordered.of (h:orderOKb P ops π chk b=true):Ordered P ops π chk b:=by
 unfold orderOKb at h
 simp only [Bool.and_eq_true,decide_eq_true_eq] at h
 obtain⟨⟨⟨⟨⟨h1,h2⟩,h3⟩,h4⟩,h5⟩,h6⟩:=h
 have hall:∀ j o,ops[j]?=some o→edgesG π o j=true∧maskOK b o j=true∧lookG ops π b o j=true∧pairsG P ops π b chk o j=true∧selfG P ops o=true∧(chk j).all (againG P ops π b j)=true∧((chk j).isEmpty || cl P o.op == .any)=true:=fun j o hj=>by
  have:=List.all_eq_true.1 h6 j (List.mem_range.2 (Array.getElem?_eq_some_iff.1 hj).1)
  simp only [hj,Bool.and_eq_true] at this
  obtain⟨⟨⟨⟨⟨⟨a1,a2⟩,a3⟩,a4⟩,a5⟩,a6⟩,a7⟩:=this
  exact⟨a1,a2,a3,a4,a5,a6,a7⟩
 have hmem:∀ j,j<ops.size↔j∈π:=fun j=>⟨fun hj=>by simpa using List.all_eq_true.1 h3 j (List.mem_range.2 hj),fun hj=>by simpa using List.all_eq_true.1 h4 j hj⟩
 have hlt:∀ {j o},ops[j]?=some o→j<ops.size:=fun hj=>(Array.getElem?_eq_some_iff.1 hj).1
 refine⟨h1,h2,hmem,h5,fun j o hj e he hb=>?_,fun j o hj=>(hall j o hj).2.1,fun j o z oz hj hz hn=>?_,fun i j oi oj hi hj hr hb=>?_,fun j o hj hc=>?_,fun j o hj hc=>?_,fun j o k hj hk=>?_⟩
 ·have:=Array.all_eq_true_iff_forall_mem.1 (hall j o hj).1 e he
  simpa [hb] using this
 ·have h:=(hall j o hj).2.2.1
  unfold lookG at h
  rw [Bool.or_eq_true] at h
  rcases h with h|h
  ·exact .inl h
  ·right
   have:=List.all_eq_true.1 h z (List.mem_range.2 (hlt hz))
   simp only [hz,Bool.or_eq_true,Bool.not_eq_true',Bool.and_eq_true,decide_eq_true_eq] at this
   exact this.resolve_right hn
 ·have:=List.all_eq_true.1 (hall j oj hj).2.2.2.1 i ((hmem i).1 (hlt hi))
  simp only [hi,hr,hb,decide_true,Bool.not_true,Bool.false_or,Bool.and_eq_true] at this
  exact this
 ·have:=(hall j o hj).2.2.2.2.1
  simpa [selfG,hc] using this
 ·have:=(hall j o hj).2.2.2.2.2.2
  simp only [Bool.or_eq_true,beq_iff_eq] at this
  simpa using this.resolve_right hc
 ·have:=List.all_eq_true.1 (hall j o hj).2.2.2.2.2.1 k hk
  unfold againG at this
  split at this
  ·rename_i ok hok
   simp only [Bool.and_eq_true,decide_eq_true_eq] at this
   refine⟨ok,hok,this.1.1.2,fun z oz hz hne hn=>?_⟩
   have h:=List.all_eq_true.1 this.2 z (List.mem_range.2 (hlt hz))
   simp only [hz,Bool.or_eq_true,beq_iff_eq,hne,false_or,Bool.not_eq_true',Bool.or_eq_false_iff,Bool.and_eq_true,decide_eq_true_eq] at h
   exact h.resolve_right hn
  ·cases this
theorem writes_dst {oz ok:Oper} (h:writes oz ok.dst.toList=false):∀ d,oz.dst=some d→ok.dst≠some d:=fun d hd e=>by
 have:=writes_spec h d hd
 rw [e] at this
 simp at this
theorem Ordered.againPut (O:Ordered P ops π chk b) {j k z:Nat} {o oz:Oper} (hj:ops[j]?=some o) (hk:k∈chk j) (hz:ops[z]?=some oz) (hr:rank π k<rank π z) {a a':Act} {v:Value} {w:World} (ht:a'.tmps=(a.put oz.dst v).tmps) :
  again P ops k a' w↔again P ops k a w:=by
 obtain⟨ok,hok,_,hall⟩:=O.chkLook j o k hj hk
 obtain⟨h1,h2⟩:=hall z oz hz (fun e=>by rw [e] at hr;omega) (by omega)
 exact again_put hok ht (writes_spec h1) (writes_dst h2) (Region.noSelect_spec O.select k ok · · hok)
theorem bubbleG (O:Ordered P ops π chk b) {i:Nat} {oi:Oper} (hi:ops[i]?=some oi) (l2:List Nat) (hl2:∀ z∈l2,rank π i<rank π z):∀ (l1:List Nat) (C:List Nat),(l1++i::l2).Pairwise (fun x y=>rank π x<rank π y) →
  (∀ z∈l1,z<ops.size)→(∀ z∈l1,bitOf b i z=false)→(∀ k∈C,k∈chk i∧∀ z∈l1,rank π k<rank π z)→∀ (a:Act) (w:World),wpG P ops (Strict ops K0) chk (l1++i::l2) a w →
  wpOp P ops (Strict ops K0) i (fun a w=>(∀ k∈C,again P ops k a w)∧wpG P ops (Strict ops K0) chk (l1++l2) a w) a w
 | [],C,_,_,_,hC,a,w,h=>by
  have h:wpOp P ops (Strict ops K0) i (fun a' w'=>(∀ k∈chk i,again P ops k a' w')∧wpG P ops (Strict ops K0) chk l2 a' w') a w:=h
  exact wpOp_mono (fun a w h=>⟨fun k hk=>h.1 k (hC k hk).1,h.2⟩) h
 | x::l1,C,hs,hlt,hn,hC,a,w,h=>by
  simp only [List.cons_append] at h ⊢ hs
  have hs':=List.pairwise_cons.1 hs
  have h:wpOp P ops (Strict ops K0) x (fun a' w'=>(∀ k∈chk x,again P ops k a' w')∧wpG P ops (Strict ops K0) chk (l1++i::l2) a' w') a w:=h
  let C':=if x∈chk i then x::C else C
  have hC':∀ k∈C',k∈chk i∧∀ z∈l1,rank π k<rank π z:=by
   intro k hk
   by_cases hx:x∈chk i
   ·simp only [C',hx,if_true,List.mem_cons] at hk
    rcases hk with rfl|hk
    ·exact⟨hx,fun z hz=>hs'.1 z (by simp [hz])⟩
    ·exact⟨(hC k hk).1,fun z hz=>(hC k hk).2 z (by simp [hz])⟩
   ·simp only [C',hx,if_false] at hk
    exact⟨(hC k hk).1,fun z hz=>(hC k hk).2 z (by simp [hz])⟩
  have h:=wpOp_mono (fun a w h=>And.imp id (fun h=>bubbleG O hi l2 hl2 l1 C' hs'.2 (fun z hz=>hlt z (by simp [hz])) (fun z hz=>hn z (by simp [hz])) hC' a w h) h) h
  obtain⟨ox,hx⟩:∃ ox,ops[x]?=some ox:=⟨_,Array.getElem?_eq_getElem (hlt x (by simp))⟩
  have hxi:rank π x<rank π i:=hs'.1 i (by simp)
  obtain⟨hap,hcl⟩:=O.pair x i ox oi hx hi hxi (hn x (by simp))
  have hself:∀ {j o},ops[j]?=some o→trivialOp o.op=true∨writes o (o.looksAt ops)=false:=fun {j o} hj=>O.look j o j o hj hj (by omega)
  have hsx:=(Region.noSelect_spec O.select x ox · · hx)
  have hsi:=(Region.noSelect_spec O.select i oi · · hi)
  have fin:∀ {j o} {a w},ops[j]?=some o→(∀ z∈l1++l2,¬ (rank π z<rank π j∧bitOf b j z=true))→wpG P ops (Strict ops K0) chk (l1++l2) a w→dynWant ops o a=true:=fun {j o a w} hj hz hK=>by
   cases htr:trivialOp o.op with
   | true=>unfold dynWant;rw [dynOp_trivial htr];rfl
   | false=>exact finalG hj _ a w hK fun z hzm oz hoz=>(O.look j o z oz hj hoz (hz z hzm)).resolve_left (by rw [htr];exact Bool.false_ne_true)
  refine swapG hx hi hap hsx hsi (B:=fun a w=>∀ k∈C',again P ops k a w) (A:=fun a w=>∀ k∈chk x,again P ops k a w) ?_ (hself hx) (hself hi) (O.self x ox hx) ?_ ?_ ?_ ?_ (fun a w hK=>⟨fin hx (fun z hz hh=>?_) hK,fin hi (fun z hz hh=>?_) hK⟩) h
  ·unfold clG clOK at hcl
   simp only [Bool.or_eq_true,Bool.and_eq_true,beq_iff_eq] at hcl
   rcases hcl with ((h|h)|h)|h
   ·exact .inl h
   ·exact .inr (.inl h)
   ·exact .inr (.inr (.inl h))
   ·refine .inr (.inr (.inr ⟨h.1,fun a w hB=>hB x ?_⟩))
    have:x∈chk i:=by simpa using h.2
    simp [C',this]
  ·intro a1 v w1 hB k hk
   have hkC:k∈C':=by by_cases hx:x∈chk i<;>simp [C',hx,hk]
   exact (O.againPut hi (hC k hk).1 hx ((hC k hk).2 x (by simp)) rfl).1 (hB k hkC)
  ·intro hc a w k hk
   have:=O.chkAny i oi hi (by rw [hc];exact fun h=>by cases h)
   have hk':=(hC k hk).1
   rw [this] at hk';cases hk'
  ·intro hc a w k hk
   have:=O.chkAny x ox hx (by rcases hc with hc|hc<;>rw [hc]<;>exact fun h=>by cases h)
   rw [this] at hk;cases hk
  ·intro a1 u w1 hA k hk
   obtain⟨ok,hok,hrk,_⟩:=O.chkLook x ox k hx hk
   exact (O.againPut hx hk hi (by omega) rfl).2 (hA k hk)
  ·have:rank π x<rank π z:=hs'.1 z (by rcases List.mem_append.1 hz with h|h<;>simp [h])
   omega
  ·rcases List.mem_append.1 hz with hz|hz
   ·rw [hn z (by simp [hz])] at hh;cases hh.2
   ·have:=hl2 z hz;omega
theorem mask_listedG (O:Ordered P ops π chk b) {listed:Array Bool} (hc:Closed ops listed) (hsz:listed.size=ops.size):∀ (d j:Nat) (o:Oper),j=d→ops[j]?=some o →
  (∀ e∈o.after,Region.binds .any e=true→listed.getD e.on false=true)→∀ i,i<j→bitOf b j i=true→listed.getD i false=true:=by
 intro d
 induction d using Nat.strongRecOn with
 | _ d ih =>
  intro j o hd hj hall i hij hb
  have hm:=O.mask j o hj
  have:=List.all_eq_true.1 hm i (List.mem_range.2 hij)
  have hb:(b.getD j 0).testBit i=true:=by simp only [bitOf,Bool.and_eq_true] at hb;exact hb.2
  rw [hb] at this
  simp only [Bool.not_true,Bool.false_or] at this
  obtain⟨e,hem,h2⟩:=Array.any_eq_true'.1 this
  simp only [Bool.and_eq_true,Bool.or_eq_true,beq_iff_eq,decide_eq_true_eq] at h2
  have hon:=hall e hem h2.1
  rcases h2.2 with h3|h3
  ·rw [← h3];exact hon
  ·have hej:=(O.edges j o hj e hem h2.1).1
   have hlt:e.on<ops.size:=by
    have:=(Array.getElem?_eq_some_iff.1 hj).1;omega
   have hoe:ops[e.on]?=some ops[e.on]:=Array.getElem?_eq_getElem hlt
   refine ih e.on (by omega) e.on _ rfl hoe (hc _ _ hoe ?_) i h3.1 (by simp only [bitOf,Bool.and_eq_true,decide_eq_true_eq];exact h3)
   have:e.on<listed.size:=by omega
   simp [this] at hon ⊢;exact hon
theorem any_of_G (O:Ordered P ops π chk b):∀ (fuel:Nat) (l:List Nat) (listed:Array Bool) (a:Act) (w:World),l.length=fuel→listed.size=ops.size→l.Pairwise (fun x y=>rank π x<rank π y) →
  (∀ k,k∈l↔k<ops.size∧listed.getD k true=false)→Closed ops listed→wpG P ops (Strict ops K0) chk l a w→wpAny P .any ops (Strict ops K0) fuel listed a w
 | 0,l,listed,a,w,hf,hsz,hs,hm,hc,h=>by
  obtain rfl:=List.eq_nil_of_length_eq_zero hf
  refine⟨?_,h⟩
  refine List.eq_nil_iff_forall_not_mem.2 fun j hj=>?_
  obtain⟨h1,o,h2,_⟩:=mem_ready.1 hj
  have:=(hm j).2 ⟨(Array.getElem?_eq_some_iff.1 h2).1,h1⟩
  cases this
 | fuel+1,l,listed,a,w,hf,hsz,hs,hm,hc,h=>by
  refine⟨fun hr=>?_,fun i hi=>?_⟩
  ·exfalso
   cases l with
   | nil=>cases hf
   | cons k l =>
    obtain⟨hk,hkl⟩:=(hm k).1 (by simp)
    have hok:ops[k]?=some ops[k]:=Array.getElem?_eq_getElem hk
    have:k∈Region.ready .any ops listed:=mem_ready.2 ⟨hkl,_,hok,fun e he hbd=>by
     have hej:=O.edges k _ hok e he hbd
     cases hl:listed.getD e.on true with
     | true =>
      have hlt:e.on<listed.size:=by omega
      simp [hlt] at hl ⊢;exact hl
     | false =>
      have:=(hm e.on).2 ⟨by omega,hl⟩
      rcases List.mem_cons.1 this with h1|h1
      ·omega
      ·have:=(List.pairwise_cons.1 hs).1 _ h1;omega⟩
    rw [hr] at this
    cases this
  ·obtain⟨h1,oi,h2,hall⟩:=mem_ready.1 hi
   have hin:i<ops.size:=(Array.getElem?_eq_some_iff.1 h2).1
   obtain⟨l1,l2,rfl⟩:=List.append_of_mem ((hm i).2 ⟨hin,h1⟩)
   have hpw:=List.pairwise_append.1 hs
   have hnot1:i∉l1:=fun hx=>by have:=hpw.2.2 i hx i (by simp);omega
   have hnot2:i∉l2:=fun hx=>by have:=(List.pairwise_cons.1 hpw.2.1).1 i hx;omega
   refine wpOp_mono (fun a w h=>any_of_G O fuel (l1++l2) _ a w ?_ (by simp [hsz]) ?_ (fun k=>?_) ?_ h.2)
    (bubbleG O h2 l2 (fun z hz=>(List.pairwise_cons.1 hpw.2.1).1 z hz) l1 [] hs (fun z hz=>((hm z).1 (by simp [hz])).1) (fun z hz=>?_) (by simp) a w h)
   ·simp at hf ⊢;omega
   ·exact hs.sublist (List.Sublist.append (List.Sublist.refl _) (List.sublist_cons_self _ _))
   ·by_cases hki:k=i
    ·subst hki
     have hlt:k<listed.size:=by omega
     simp [hnot1,hnot2,hlt]
    ·rw [getD_set_ne true (fun e=>hki e.symm),← hm k]
     simp [hki]
   ·intro j o hj hl e he hbd
    by_cases hji:j=i
    ·subst hji
     have:o=oi:=Option.some.inj (hj.symm.trans h2)
     subst this
     exact getD_set_true (hall e he hbd)
    ·rw [getD_set_ne true (fun e=>hji e.symm)] at hl
     exact getD_set_true (hc j o hj hl e he hbd)
   ·cases ht:bitOf b i z with
    | false=>rfl
    | true =>
     exfalso
     have h3:=mask_listedG O hc hsz i i oi rfl h2 hall z (by simp only [bitOf,Bool.and_eq_true,decide_eq_true_eq] at ht;exact ht.1) ht
     have h4:=((hm z).1 (by simp [hz])).2
     have hlt:z<listed.size:=by have:=((hm z).1 (by simp [hz])).1;omega
     simp [hlt] at h3 h4
     rw [h3] at h4;cases h4
end
def pick (ops:Array Oper):List Nat→List Oper
 | []=>[]
 | i::l=>ops.getD i default::pick ops l
def Mid (K:Act→World→Prop):Exit→Act→World→Prop
 | .normal,a,w=>K a w
 | _,_,_=>False
theorem Mid.intro {K:Act→World→Prop} {a:Act} {w:World} (h:K a w):Mid K .normal a w:=h
def againAll (P:Program) (ops:Array Oper):List Nat→Act→World→Prop
 | [],_,_=>True
 | k::c,a,w=>again P ops k a w∧againAll P ops c a w
def wpSegs (P:Program) (ops:Array Oper) (K0:Act→World→Prop):List (List Nat×List Nat)→Act→World→Prop
 | [],a,w=>Strict ops K0 .normal a w
 | (l,c)::r,a,w=>wpList P ops (Mid fun a w=>againAll P ops c a w∧wpSegs P ops K0 r a w) (pick ops l) a w
def chkOf:List (List Nat×List Nat)→Nat→List Nat
 | [],_=>[]
 | (l,c)::r,i=>if l.getLast? == some i then c else chkOf r i
def orderOf:List (List Nat×List Nat)→List Nat
 | []=>[]
 | (l,_)::r=>l++orderOf r
def segsOK (chk:Nat→List Nat):List (List Nat×List Nat)→Bool
 | []=>true
 | (l,c)::r=>(match l.reverse with
  | []=>c.isEmpty
  | i::l'=>chk i == c && l'.all fun x=>(chk x).isEmpty) && segsOK chk r
section
variable {P:Program} {ops:Array Oper} {K0:Act→World→Prop}
theorem againAll_mem:∀ {c:List Nat} {a:Act} {w:World},againAll P ops c a w→∀ k∈c,again P ops k a w
 | [],_,_,_,k,hk=>by cases hk
 | x::c,a,w,h,k,hk=>by
  rcases List.mem_cons.1 hk with rfl|hk
  ·exact h.1
  ·exact againAll_mem h.2 k hk
theorem wpOp_post {Q Q':Exit→Act→World→Prop} (hp:∀ c a w,Q (.panic c) a w→Q' (.panic c) a w) (ho:LetsOut Q→LetsOut Q') {i:Nat} {K:Act→World→Prop} {a:Act} {w:World} (h:wpOp P ops Q i K a w):wpOp P ops Q' i K a w:=by
 unfold wpOp at h ⊢
 split
 ·rename_i hi;simp only [hi] at h;exact h
 ·rename_i o hi
  simp only [hi] at h
  split
  ·rename_i hw
   simp only [hw,if_true] at h
   rcases h with h|h
   ·refine .inl ?_
    unfold Oper.wp at h ⊢
    generalize (execOp a.eval o).run P w=r at h ⊢
    cases r with
    | ok n w' =>
     cases n<;>simp only [Oper.upon] at h ⊢<;>first|exact h|skip
     refine Calls.mono h fun e w'' he=>?_
     cases e with
     | returned u=>exact he
     | panicked c=>exact hp _ _ _ he
     | outgrown=>exact ho he
    | halt z w' =>
     cases z<;>simp only [Oper.upon] at h ⊢<;>first|exact h|exact hp _ _ _ h
   ·exact .inr ⟨h.1,ho h.2⟩
  ·rename_i hw
   simp only [hw] at h
   exact h
theorem wpList_pick {Q:Exit→Act→World→Prop}:∀ (l:List Nat),(∀ i∈l,i<ops.size)→wpList P ops Q (pick ops l)=wpOps P ops Q l
 | [],_=>by funext a w;rfl
 | i::l,h=>by
  have hi:i<ops.size:=h i (by simp)
  have hg:ops[i]?=some (ops.getD i default):=by simp [hi]
  funext a w
  simp only [pick,wpOps,hg,wpList]
  rw [wpList_pick l fun j hj=>h j (by simp [hj])]
theorem wpG_append {chk:Nat→List Nat} {c:List Nat} {K:Act→World→Prop} {r:List Nat} (hK:∀ a w,againAll P ops c a w∧K a w→(∀ k∈c,again P ops k a w)∧wpG P ops (Strict ops K0) chk r a w):∀ (l:List Nat) (a:Act) (w:World),
  (match l.reverse with|[]=>c.isEmpty|i::l'=>chk i == c && l'.all fun x=>(chk x).isEmpty)=true→wpOps P ops (Mid fun a w=>againAll P ops c a w∧K a w) l a w→wpG P ops (Strict ops K0) chk (l++r) a w
 | [],a,w,hc,h=>(hK a w h).2
 | i::l,a,w,hc,h=>by
  rw [wpOps_cons] at h
  have h:=wpOp_post (Q':=Strict ops K0) (fun _ _ _ h=>h) (fun ⟨_,_,h⟩=>h.elim) h
  show wpOp P ops (Strict ops K0) i _ a w
  cases l with
  | nil =>
   simp only [List.reverse_cons,List.reverse_nil,List.nil_append,Bool.and_eq_true,beq_iff_eq] at hc
   refine wpOp_mono (fun a w h=>?_) h
   have:=hK a w h
   rw [hc.1]
   exact this
  | cons j l =>
   have hci:chk i=[]∧(match (j::l).reverse with|[]=>c.isEmpty|i::l'=>chk i == c && l'.all fun x=>(chk x).isEmpty)=true:=by
    rw [List.reverse_cons] at hc
    cases hr:(j::l).reverse with
    | nil=>simp at hr
    | cons z q =>
     rw [hr] at hc
     simp only [List.cons_append,List.all_append,List.all_cons,List.all_nil,Bool.and_true,Bool.and_eq_true,List.isEmpty_iff] at hc ⊢
     exact⟨hc.2.2,hc.1,hc.2.1⟩
   refine wpOp_mono (fun a w h=>⟨fun k hk=>?_,wpG_append hK (j::l) a w hci.2 h⟩) h
   rw [hci.1] at hk;cases hk
theorem wpG_of_segs {chk:Nat→List Nat}:∀ (ss:List (List Nat×List Nat)) (a:Act) (w:World),segsOK chk ss=true→(∀ i∈orderOf ss,i<ops.size)→wpSegs P ops K0 ss a w→wpG P ops (Strict ops K0) chk (orderOf ss) a w
 | [],a,w,_,_,h=>h
 | (l,c)::r,a,w,hc,hlt,h=>by
  simp only [segsOK,Bool.and_eq_true] at hc
  have h:wpList P ops (Mid fun a w=>againAll P ops c a w∧wpSegs P ops K0 r a w) (pick ops l) a w:=h
  rw [wpList_pick l fun i hi=>hlt i (by simp [orderOf,hi])] at h
  exact wpG_append (fun a w h=>⟨againAll_mem h.1,wpG_of_segs r a w hc.2 (fun i hi=>hlt i (by simp [orderOf,hi])) h.2⟩) l a w hc.1 h
end
def segsFit (P:Program) (ops:Array Oper) (ss:List (List Nat×List Nat)):Bool:=orderOK P ops (orderOf ss) (chkOf ss) && segsOK (chkOf ss) ss
theorem wRS {P:Program} {id:Nat} {l:List Oper} {Q:Exit→Act→World→Prop} {a:Act} {w:World} (ss:List (List Nat×List Nat)) (hm:P.follows .mixedOrders=true)
  (hc:segsFit P l.toArray ss=true) (h:wpSegs P l.toArray (Q .normal) ss a w.drew):(Code.region id l.toArray true).wp P Q a w:=by
 unfold segsFit at hc
 rw [Bool.and_eq_true] at hc
 have O:=Ordered.of hc.1
 have hlen:(orderOf ss).length=l.length:=by simpa using O.len
 refine Code.wp_mono Strict.imp (wp_region_any hm (any_of_G O _ (orderOf ss) _ a _ (by simp [hlen]) (by simp) ?_ (fun k=>?_) ?_ ?_))
 ·have hnd:=O.nodup
  rw [List.pairwise_iff_getElem]
  intro i j hi hj hij
  unfold rank
  rw [hnd.idxOf_getElem i hi,hnd.idxOf_getElem j hj]
  exact hij
 ·rw [← O.all k]
  simp
  intro hk
  rw [Array.getElem?_replicate]
  simp [hk]
 ·intro j o hj hl
  have hlt:j<l.length:=by have:=(Array.getElem?_eq_some_iff.1 hj).1;simpa using this
  rw [Array.getD_eq_getD_getElem?,Array.getElem?_replicate] at hl
  simp [hlt] at hl
 ·exact wpG_of_segs ss a _ hc.2 (fun i hi=>(O.all i).2 hi) h
def flatDesc:TypeDesc→Bool
 | .struct _|.array _ _=>false
 | _=>true
theorem again_cell {P:Program} {ops:Array Oper} {k:Nat} {o:Oper} {a:Act} {w:World} {T:TypeId} {x:Operand} {ad:Addr} {v:Value} {d:TypeDesc} (hk:ops[k]?=some o) (ho:o.op=.load T x) (hx:a.eval x=.pointer (some ad))
  (hT:P.underlying T=some d) (hd:flatDesc d=true) (hc:w.cell? ad=some v) (hv:(a.put o.dst v).tmps=a.tmps):again P ops k a w:=by
 intro o' ho' _
 obtain rfl:o=o':=Option.some.inj (hk.symm.trans ho')
 refine⟨v,?_,hv⟩
 unfold execOp
 simp only [ho,hx]
 unfold Instr.loadAt Go.loadVar Go.isAgg
 have hu:(Go.underlying T).run P w=.ok d w:=by unfold Go.underlying;simp [hT]
 rw [Sem.run_bind,Sem.run_bind]
 show ((Result.ok ad w).andThen _).andThen _=_
 simp only [Result.andThen_ok]
 rw [Sem.run_bind,Sem.run_bind,hu]
 cases d<;>first|(cases hd;done)|simp [hc]
end Go.Proofs.Rg
end
section
namespace Go.Proofs.YtdanghnadbkhfaaGreat
open Go Go.RowKit Rg Mp Hp Qs
set_option maxHeartbeats 1000000 in
theorem New_bad (s:Int) (w:World) (h:s<2∨8<s) :
  Calls Tryz.prog 34 #[.int .i64 s] w fun e w'=>e=.returned (.tuple #[.pointer none,.int .i64 2])∧w=w':=by
 rcases h with h|h
 ·go_enter Tryz.func34,Tryz.ntmps34
  go_wp2
  go_ret2
  exact⟨rfl,rfl⟩
 ·have h':¬ s<2:=by omega
  go_enter Tryz.func34,Tryz.ntmps34
  go_wp2
  go_ret2
  exact⟨rfl,rfl⟩
set_option maxHeartbeats 1000000 in
theorem New_ok (s:Int) (w:World) (h:2≤s) (h':s≤8) :
  Calls Tryz.prog 34 #[.int .i64 s] w fun e w'=>∃ b F,e=.returned (.tuple #[.pointer (some ⟨b,0,none⟩),.int .i64 0])∧StoreAt w' b s [] F∧Fr [] w w'∧∀ x∈F,w.heap.size≤x:=by
 have hmm:=@run_makeMap Tryz.prog
 go_enter Tryz.func34,Tryz.ntmps34
 go_wp2
 go_ret2
 have hb:((w.alloc (.map #[] 0)).alloc (.cells #[.int .i64 s,.slice none 0 0,.slice none 0 0,.map (some w.heap.size)] 137)).heap[w.heap.size+1]?=some (.cells #[.int .i64 s,.slice none 0 0,.slice none 0 0,.map (some w.heap.size)] 137 (0,0)):=by
  rw [hAC,hAz,if_pos rfl]
 refine⟨w.heap.size+1,foot (w.heap.size+1) (.slice none 0 0) (.slice none 0 0) w.heap.size,rfl,⟨GoodQ.nil h h',_,_,w.heap.size,⟨hb,World.ownsRow_nil _ _ _ _,World.ownsRow_nil _ _ _ _,?_,by omega,by simp [Value.ownBlock],by simp [Value.ownBlock],by simp [Value.ownBlock],by simp [Value.ownBlock],by simp [Value.ownBlock]⟩,rfl⟩,((Fr.refl _ _).alloc _).alloc _,?_⟩
 ·refine (MapIs.made w).of_block ?_
  rw [hAC,hAz,if_neg (by omega)]
  rfl
 ·intro x hx
  simp [foot,Value.ownBlock] at hx
  omega
def kidsOf (s:Int) (ns:List K4) (id:Int):K4×Bool:=if id<s then (⟨0,0,0,0⟩,false) else match ns[(id - s).toNat]? with
 | some k=>(k,true)
 | none=>(⟨0,0,0,0⟩,false)
theorem flat_get {ns:List K4} {i:Nat} {k:K4} (h:ns[i]?=some k):(flat ns)[4*i]?=some (.int .i64 k.a)∧(flat ns)[4*i+1]?=some (.int .i64 k.b)∧(flat ns)[4*i+2]?=some (.int .i64 k.c)∧(flat ns)[4*i+3]?=some (.int .i64 k.d):=by
 induction ns generalizing i with
 | nil=>simp at h
 | cons x ns ih =>
  cases i with
  | zero=>simp at h;subst h;simp [flat]
  | succ i =>
   simp at h
   have:=ih h
   rw [show 4*(i+1)=4*i+4 by omega]
   simpa [flat] using this
theorem flat_length (ns:List K4):(flat ns).length=ns.length*4:=by
 induction ns with
 | nil=>rfl
 | cons x ns ih=>simp [flat] at ih ⊢;omega
theorem lvl_pos {s:Int} {ns:List K4} (h:GoodQ s ns) {i:Nat} {k:K4} (hi:ns[i]?=some k):∃ l,(levs s ns)[i]?=some l∧1≤l∧l≤256∧l=lvl s (levs s (ns.take i)) k.a+1:=by
 have hlt:i<ns.length:=(List.getElem?_eq_some_iff.1 hi).1
 have hf:=h.2.2.2.2 i k hi
 have ht:ns.take (i+1)=ns.take i++[k]:=by rw [List.take_add_one,hi];rfl
 have h1:(levs s ns).take (i+1)=levs s (ns.take i)++[lvl s (levs s (ns.take i)) k.a+1]:=by rw [levs_take,ht,levs_snoc]
 have h2:(levs s ns)[i]?=some (lvl s (levs s (ns.take i)) k.a+1):=by
  have:=congrArg (fun l:List Int=>l[i]?) h1
  simp only [List.getElem?_take,Nat.lt_succ_self,if_true] at this
  have hln:(levs s (ns.take i)).length=i:=by rw [levs_length,List.length_take];omega
  rw [this,List.getElem?_append_right (by omega),hln]
  simp
 exact⟨_,h2,by have:=hf.1;omega,by have:=hf.2.1;omega,rfl⟩
set_option maxHeartbeats 1000000 in
theorem Kids_no (b:Nat) (id l:Int) (w:World) (hl:l<1) (hL:∀ w1,Fr [] w w1→Calls Tryz.prog 39 #[.pointer (some ⟨b,0,none⟩),.int .i64 id] w1 fun e w'=>e=.returned (.int .i64 l)∧Drew w1 w') :
  Calls Tryz.prog 40 #[.pointer (some ⟨b,0,none⟩),.int .i64 id] w fun e w'=>e=.returned (.tuple #[.agg #[.int .i64 0,.int .i64 0,.int .i64 0,.int .i64 0],.bool false])∧Fr [] w w':=by
 go_enter Tryz.func40,Tryz.ntmps40
 go_wp2_with fail
 refine (hL _ ?_).mono ?_
 ·repeat (first|exact Fr.refl _ _|apply Fr.drewN|apply Fr.drew|apply Fr.alloc)
 rintro e w' ⟨rfl,n1,rfl⟩
 go_wp2
 exact bodyPost_ret (v:=.tuple #[.agg #[.int .i64 0,.int .i64 0,.int .i64 0,.int .i64 0],.bool false]) (by simp [results,Tryz.results40,go_sem]) rfl
  ⟨rfl,by repeat (first|exact Fr.refl _ _|apply Fr.drewN|apply Fr.drew|apply Fr.alloc|refine Fr.setCell ?_ (Or.inr (by simp)) _)⟩
set_option maxHeartbeats 1000000 in
theorem Kids_yes (b:Nat) (s l:Int) (i:Nat) (n nc g:Nat) (k:K4) (w:World) (hl:1≤l) (hb:b<w.heap.size) (hg:g<w.heap.size) (h0:w.cell? ⟨b,0,none⟩=some (.int .i64 s)) (h1:w.cell? ⟨b,1,none⟩=some (.slice (some ⟨g,0,none⟩) n nc))
  (_:0≤s) (_:s≤8) (hn:n≤1048576) (hi:i<n)
  (e0:w.cell? ⟨g,i*4,none⟩=some (.int .i64 k.a)) (e1:w.cell? ⟨g,i*4+1,none⟩=some (.int .i64 k.b)) (e2:w.cell? ⟨g,i*4+2,none⟩=some (.int .i64 k.c)) (e3:w.cell? ⟨g,i*4+3,none⟩=some (.int .i64 k.d))
  (hL:∀ w1,Fr [] w w1→Calls Tryz.prog 39 #[.pointer (some ⟨b,0,none⟩),.int .i64 (s+i)] w1 fun e w'=>e=.returned (.int .i64 l)∧Drew w1 w') :
  Calls Tryz.prog 40 #[.pointer (some ⟨b,0,none⟩),.int .i64 (s+i)] w fun e w'=>e=.returned (.tuple #[kv k,.bool true])∧Fr [] w w':=by
 have hw1:IntKind.i64.wrap (s+↑i - s)=↑i:=IntWalk.i64_in _ (by omega) |>.trans (by omega)
 unfold kv
 go_enter Tryz.func40,Tryz.ntmps40
 go_wp2_with fail
 refine (hL _ ?_).mono ?_
 ·repeat (first|exact Fr.refl _ _|apply Fr.drewN|apply Fr.drew|apply Fr.alloc)
 rintro e w' ⟨rfl,n1,rfl⟩
 go_wp2
 refine wRT (by kernel_rfl) (by kernel_rfl) ?_
 go_wp2
 refine Strict.intro rfl ?_
 go_wp2
 exact bodyPost_ret (v:=.tuple #[.agg #[.int .i64 k.a,.int .i64 k.b,.int .i64 k.c,.int .i64 k.d],.bool true]) (by simp [results,Tryz.results40,go_sem]) rfl
  ⟨rfl,by repeat (first|exact Fr.refl _ _|apply Fr.drewN|apply Fr.drew|apply Fr.alloc|refine Fr.setCell ?_ (Or.inr (by simp)) _)⟩
theorem lvl_far {s:Int} {ns:List K4} {id:Int} (hs:0≤s) (h:s+ns.length≤id):lvl s (levs s ns) id=-1:=by
 unfold lvl
 rw [if_neg (by omega),if_neg (by omega),List.getD_eq_getElem?_getD,List.getElem?_eq_none (by rw [levs_length];omega)]
 rfl
theorem Kids_calls {w:World} {b:Nat} {s:Int} {ns:List K4} {F:List Nat} (hS:StoreAt w b s ns F) (id:Int) :
  Calls Tryz.prog 40 #[.pointer (some ⟨b,0,none⟩),.int .i64 id] w fun e w'=>e=.returned (.tuple #[kv (kidsOf s ns id).1,.bool (kidsOf s ns id).2])∧Fr [] w w':=by
 have hL:∀ w1,Fr [] w w1→Calls Tryz.prog 39 #[.pointer (some ⟨b,0,none⟩),.int .i64 id] w1 fun e w'=>e=.returned (.int .i64 (lvl s (levs s ns) id))∧Drew w1 w':=fun w1 hf=>Level_calls (hS.fr hf (by simp)) id
 obtain⟨hgood,nv,lv,mb,hI,rfl⟩:=hS
 have hs:2≤s:=hgood.1
 unfold kidsOf
 by_cases hst:id<s
 ·rw [if_pos hst]
  refine Kids_no b id _ w ?_ hL
  unfold lvl
  by_cases h:id<0
  ·rw [if_pos h];omega
  ·rw [if_neg h,if_pos hst];omega
 ·rw [if_neg hst]
  by_cases hfar:s+ns.length≤id
  ·rw [List.getElem?_eq_none (by omega)]
   exact Kids_no b id _ w (by rw [lvl_far (by omega) hfar];omega) hL
  ·obtain⟨i,rfl⟩:∃ i:Nat,id=s+i:=⟨(id - s).toNat,by omega⟩
   have hi:i<ns.length:=by omega
   rw [show (s+(i:Int) - s).toNat=i by omega,List.getElem?_eq_getElem hi]
   obtain⟨l,hl,hl1,_,_⟩:=lvl_pos hgood (List.getElem?_eq_getElem hi)
   have hlv:lvl s (levs s ns) (s+i)=l:=by
    unfold lvl
    rw [if_neg (by omega),if_neg (by omega),show (s+(i:Int) - s).toNat=i by omega,List.getD_eq_getElem?_getD,hl];rfl
   rw [hlv] at hL
   obtain⟨na,nc,rfl,hna,_⟩:=oFM hI.nodes
   obtain⟨g,rfl⟩:=hna (by omega)
   obtain⟨f0,f1,f2,f3⟩:=flat_get (List.getElem?_eq_getElem hi)
   rw [Nat.mul_comm] at f0 f1 f2 f3
   exact Kids_yes b s l i ns.length nc g _ w hl1 (lBk hI.blk) (oLT hI.nodes rfl) (hEC hI.blk 0) (hEC hI.blk 1) (by omega) hgood.2.1 (by have:=hgood.2.2.1;omega) hi
    (owns_cell hI.nodes rfl f0) (owns_cell hI.nodes rfl f1) (owns_cell hI.nodes rfl f2) (owns_cell hI.nodes rfl f3) hL
end Go.Proofs.YtdanghnadbkhfaaGreat
end
section
namespace Go.Proofs.Hp
open Go Go.RowKit
theorem owns_set {w:World} {base e size n:Nat} {v:Value} {xs:List Value} {g cap j:Nat} (h:w.ownsRow base e size v n xs) (hv:v=.slice (some ⟨g,0,none⟩) n cap) (hj:j<xs.length) (u:Value):(w.setCell ⟨g,j,none⟩ u).ownsRow base e size v n (xs.set j u):=by
 obtain⟨h1,h2⟩:=h
 refine⟨by rw [List.length_set];exact h1,?_⟩
 rcases h2 with ⟨h2,_⟩|⟨g',cap',cur,hv',hb,hh,hn,hm,hs,ht⟩
 ·rw [h2] at hv;cases hv
 ·rw [hv'] at hv
  cases hv
  refine .inr ⟨g,cap,cur.setIfInBounds j u,hv',hb,heap_setCell_here hh j u,hn,hm,by simpa using hs,?_⟩
  rw [Array.toList_setIfInBounds,List.take_set,ht]
theorem owns_frozen {w:World} {base e size n:Nat} {v:Value} {xs:List Value} {g cap:Nat} (h:w.ownsRow base e size v n xs) (hv:v=.slice (some ⟨g,0,none⟩) n cap) (j:Nat):w.frozen? ⟨g,j,none⟩=false:=by
 rcases h.2 with ⟨h2,_⟩|⟨g',cap',cur,hv',_,hh,_⟩
 ·rw [h2] at hv;cases hv
 ·rw [hv'] at hv
  cases hv
  exact hEF hh j
theorem fr_append {w wr w9:World} {e size n:Nat} {v:Value} {xs:List Value} (hf:Fr [] w wr) (ho:wr.ownsRow w.heap.size e size v n xs) {o:Obj} (h:Fr v.ownBlock.toList (wr.alloc o) w9):Fr [] w w9 :=
 (hf.alloc o).trans h fun x hx=>.inr (owns_ge ho (by simpa using hx))
theorem sCE (w:World) (a:Addr) (u:Value) {k:Nat} (h:k≠a.block):(w.setCell a u).heap[k]?=w.heap[k]?:=Below.heap_setCell _ _ _ _ h
end Go.Proofs.Hp
end
section
namespace Go.Proofs.Hp
open Go Go.RowKit
def Reads (w:World) (v:Value) (n size:Nat) (xs:List Value):Prop :=
 xs.length=n*size∧∃ a c,v=.slice a n c∧(0<n→∃ g off,a=some ⟨g,off,none⟩∧g<w.heap.size∧∀ j u,xs[j]?=some u→w.cell? ⟨g,off+j,none⟩=some u)
theorem Reads.keep {w w':World} {v:Value} {n size:Nat} {xs:List Value} (h:Reads w v n size xs) (hk:∀ x,v.ownBlock=some x→x<w.heap.size→w'.heap[x]?=w.heap[x]?):Reads w' v n size xs:=by
 obtain⟨h1,a,c,rfl,h2⟩:=h
 refine⟨h1,a,c,rfl,fun hn=>?_⟩
 obtain⟨g,off,rfl,hg,hc⟩:=h2 hn
 have hb:=hk g rfl hg
 refine⟨g,off,rfl,?_,fun j u hj=>?_⟩
 ·have:w.heap[g]?=some w.heap[g]:=Array.getElem?_eq_getElem hg
  exact lBk (hb.trans this)
 ·rw [World.cell?_of_block (w:=w) (a:=⟨g,off+j,none⟩) hb];exact hc j u hj
theorem Reads.fr {w w':World} {v:Value} {n size:Nat} {xs:List Value} (h:Reads w v n size xs) (hf:Fr [] w w'):Reads w' v n size xs:=h.keep fun x _ hx=>hf.block x hx (by simp)
theorem Reads.of_owns {w:World} {base e n size:Nat} {v:Value} {xs:List Value} (h:w.ownsRow base e size v n xs):Reads w v n size xs:=by
 refine⟨h.1,?_⟩
 obtain⟨a,c,rfl,ha,_⟩:=oFM h
 refine⟨a,c,rfl,fun hn=>?_⟩
 obtain⟨g,rfl⟩:=ha hn
 exact⟨g,0,rfl,oLT h rfl,fun j u hj=>by rw [Nat.zero_add];exact owns_cell h rfl hj⟩
theorem reads_blk {w:World} {b n size c:Nat} {cs:List Value} {t:TypeId} {fr:Nat×Nat} (h:w.heap[b]?=some (.cells cs.toArray t fr)) (hl:cs.length=n*size):Reads w (.slice (some ⟨b,0,none⟩) n c) n size cs :=
 ⟨hl,_,_,rfl,fun _=>⟨b,0,rfl,lBk h,fun j u hj=>by rw [Nat.zero_add,hEC h];simpa using hj⟩⟩
end Go.Proofs.Hp
end
