/- Own texts of this claim, part 1: no condition. -/
import Derived.Orders
import Derived.Tactics
import Derived.Laws.Sem
import Derived.Laws.World
import Derived.KernelRfl
set_option linter.unusedVariables false
set_option linter.unusedSimpArgs false
set_option maxHeartbeats 16000000
set_option maxRecDepth 100000
theorem t_ {p:Prop}(h:p:=by simp;try omega):p:=h
theorem u_' {p:Prop}(h:p:=by simp;omega):p:=h
theorem f_' {p:Prop}(h:p:=by first|(simp;done)|(simp;omega)):p:=h
theorem o_ {p:Prop}(h:p:=by omega):p:=h
theorem i_ {p:Prop}(h:p:=by simp):p:=h
theorem k_ {p:Prop}(h:p:=by kernel_rfl):p:=h
namespace Go.Proofs.Bn
def val (B:Nat):List Nat→Nat
 | []=>0
 | d::l=>d+B*val B l
def Dig (B:Nat) (l:List Nat):Prop:=∀ d∈l,d<B
theorem val_append (B:Nat):∀ (l m:List Nat),val B (l++m)=val B l+B ^ l.length*val B m
 | [],m=>by simp [val]
 | d::l,m=>by rw [List.cons_append,val,val,val_append B l m,List.length_cons,Nat.pow_succ];rw [Nat.mul_add,Nat.add_assoc];congr 2;rw [← Nat.mul_assoc,Nat.mul_comm B]
theorem Ck (B:Nat) (l:List Nat) (d:Nat):val B (l++[d])=val B l+B ^ l.length*d:=by rw [val_append];simp [val]
variable {B d:Nat}{l:List Nat}
theorem Dig.tail (h:Dig B (d::l)):Dig B l:=fun x hx=>h x (by simp [hx])
theorem Dig.head (h:Dig B (d::l)):d<B:=h d i_
theorem Dig.take {B:Nat} {l:List Nat} (h:Dig B l) (i:Nat):Dig B (l.take i):=fun x hx=>h x (List.mem_of_mem_take hx)
theorem Dig.drop {B:Nat} {l:List Nat} (h:Dig B l) (i:Nat):Dig B (l.drop i):=fun x hx=>h x (List.mem_of_mem_drop hx)
theorem Dig.append {m:List Nat} (h:Dig B l) (k:Dig B m):Dig B (l++m):=fun x hx=>by
 rw [List.mem_append] at hx;rcases hx with hx|hx
 ·exact h x hx
 ·exact k x hx
theorem Dig.set {B:Nat} {l:List Nat} (h:Dig B l) {i d:Nat} (hd:d<B):Dig B (l.set i d):=fun x hx=>by
 rcases List.mem_or_eq_of_mem_set hx with hx|rfl
 ·exact h x hx
 ·exact hd
theorem Dig.getD {B:Nat} {l:List Nat} (h:Dig B l) (hB:0<B) (i:Nat):l.getD i 0<B:=by
 rw [List.getD_eq_getElem?_getD];by_cases hi:i<l.length;·rw [List.getElem?_eq_getElem hi];exact h _ (List.getElem_mem _)
 ·rw [List.getElem?_eq_none o_];exact hB
theorem Dig.replicate {B:Nat} (hB:0<B) (n:Nat):Dig B (List.replicate n 0):=fun x hx=>by rw [List.mem_replicate] at hx;omega
theorem Dig.nil:Dig B []:=fun x hx=>by cases hx
theorem Ce {B:Nat}:∀ {l:List Nat},Dig B l→val B l<B ^ l.length
 | [],_=>by simp [val]
 | d::l,h=>by
  have h1:=h.head;have h2:=Ce h.tail;rw [val,List.length_cons,Nat.pow_succ];have:B*val B l+B≤B*B ^ l.length:=by rw [← Nat.mul_succ];exact Nat.mul_le_mul_left _ h2
  rw [Nat.mul_comm (B ^ l.length)];omega
theorem En (B n:Nat):val B (List.replicate n 0)=0:=by
 induction n with
 | zero=>rfl
 | succ n ih=>rw [List.replicate_succ,val,ih];simp
theorem D9 (B:Nat) (l:List Nat) (i:Nat) (h:i≤l.length):val B l=val B (l.take i)+B ^ i*val B (l.drop i):=by have:=val_append B (l.take i) (l.drop i);rw [List.take_append_drop,List.length_take,Nat.min_eq_left h] at this;exact this
theorem Am (B:Nat) (l:List Nat) (i:Nat):val B (l.take (i+1))=val B (l.take i)+B ^ i*l.getD i 0:=by
 by_cases h:i<l.length;·rw [List.take_add_one,List.getElem?_eq_getElem h,Option.toList_some,Ck,List.length_take,Nat.min_eq_left o_,List.getD_eq_getElem?_getD,List.getElem?_eq_getElem h];rfl
 ·rw [List.take_of_length_le o_,List.take_of_length_le o_,List.getD_eq_getElem?_getD,List.getElem?_eq_none o_];simp
theorem Gx (B:Nat) (l:List Nat) (i:Nat):val B (l.drop i)=l.getD i 0+B*val B (l.drop (i+1)):=by
 by_cases h:i<l.length;·rw [List.drop_eq_getElem_cons h,val,List.getD_eq_getElem?_getD,List.getElem?_eq_getElem h];rfl
 ·rw [List.drop_eq_nil_of_le o_,List.drop_eq_nil_of_le o_,List.getD_eq_getElem?_getD,List.getElem?_eq_none o_];simp [val]
variable {i:Nat}
theorem Uw (h:Dig B l) (hi:i≤l.length):val B l / B ^ i=val B (l.drop i):=by have h1:=D9 B l i hi;have h2:=Ce (h.take i);rw [List.length_take,Nat.min_eq_left hi] at h2;rw [h1,Nat.add_mul_div_left _ _ o_,Nat.div_eq_of_lt h2,Nat.zero_add]
theorem val_digit (h:Dig B l) (hB:0<B) (i:Nat):val B l / B ^ i % B=l.getD i 0:=by
 by_cases hi:i≤l.length;·rw [Uw h hi,Gx,Nat.add_mul_mod_self_left,Nat.mod_eq_of_lt (h.getD hB i)]
 ·have:=Ce h;rw [List.getD_eq_getElem?_getD,List.getElem?_eq_none o_,Nat.div_eq_of_lt (Nat.lt_of_lt_of_le this (Nat.pow_le_pow_right hB o_))];simp
theorem val_of_digits {X:Nat} (hB:0<B):∀ {l:List Nat},(∀ i,i<l.length→l.getD i 0=X / B ^ i % B)→val B l=X % B ^ l.length:=by
 intro l;have key:∀ i,i≤l.length→(∀ i,i<l.length→l.getD i 0=X / B ^ i % B)→val B (l.take i)=X % B ^ i:=by
  intro i
  induction i with
  | zero=>intro _ _;simp [val,Nat.mod_one]
  | succ i ih =>intro hi h;rw [Am,ih o_ h,h i o_,Nat.pow_succ,Nat.mod_mul]
 intro h;have:=key l.length (Nat.le_refl _) h;rwa [List.take_length] at this
def Canon (l:List Nat):Prop:=l.getLast?≠some 0
instance (l:List Nat):Decidable (Canon l):=by unfold Canon;exact inferInstance
def dg (B n:Nat):List Nat:=if h:n=0∨B<2 then [] else n % B::dg B (n / B)
termination_by n
decreasing_by exact Nat.div_lt_self o_ o_
theorem Bd (B:Nat):dg B 0=[]:=by rw [dg,dif_pos (.inl rfl)]
variable {n:Nat}
theorem dg_succ (hB:2≤B) (hn:n≠0):dg B n=n % B::dg B (n / B):=by rw [dg,dif_neg o_]
theorem Gn (hB:2≤B) (n:Nat):val B (dg B n)=n:=by
 induction n using Nat.strongRecOn with
 | ind n ih =>
  by_cases hn:n=0;·subst hn;rw [Bd];rfl
  ·rw [dg_succ hB hn,val,ih _ (Nat.div_lt_self o_ o_),Nat.mod_add_div]
theorem Jw (hB:2≤B) (n:Nat):Dig B (dg B n):=by
 induction n using Nat.strongRecOn with
 | ind n ih =>
  by_cases hn:n=0;·subst hn;rw [Bd];exact Dig.nil
  ·rw [dg_succ hB hn];intro d hd;rcases List.mem_cons.1 hd with rfl|hd
   ·exact Nat.mod_lt _ o_
   ·exact ih _ (Nat.div_lt_self o_ o_) d hd
theorem Dp (hB:2≤B):dg B n=[]↔n=0:=by
 constructor;·
  intro h;have:=Gn hB n;rw [h] at this;exact this.symm
 ·rintro rfl;exact Bd B
theorem Q1 (hB:2≤B) (n:Nat):Canon (dg B n):=by
 induction n using Nat.strongRecOn with
 | ind n ih =>
  by_cases hn:n=0;·subst hn;rw [Bd];unfold Canon;simp
  ·have ih':=ih _ (Nat.div_lt_self o_ o_:n / B<n);rw [dg_succ hB hn];unfold Canon at *
   by_cases h:dg B (n / B)=[];·
    rw [h];rw [Dp hB] at h;simp only [List.getLast?_singleton,ne_eq,Option.some.injEq];intro hz;have:=Nat.mod_add_div n B;rw [h,hz] at this;simp at this;omega
   ·rwa [List.getLast?_cons,List.getLast?_eq_some_getLast h,Option.getD_some,← List.getLast?_eq_some_getLast h]
theorem Q6 (h:Canon (d::l)):Canon l:=by
 unfold Canon at *
 cases l with
 | nil=>simp
 | cons x l=>rwa [List.getLast?_cons_cons] at h
theorem Fx {B:Nat} (hB:0<B):∀ {l:List Nat},Canon l→l≠[]→0<val B l
 | [],_,h=>absurd rfl h
 | [d],h,_=>by unfold Canon at h;simp at h;rw [val];omega
 | d::x::l,h,_=>by have:=Fx hB (Q6 h) i_;rw [val];have:=Nat.mul_pos hB this;omega
theorem Q0 {B:Nat} (hB:2≤B):∀ {l:List Nat},Dig B l→Canon l→dg B (val B l)=l
 | [],_,_=>Bd B
 | d::l,h,c=>by
  have hp:=Fx (by omega:0<B) c i_;have h1:=h.head;have ih:=Q0 hB h.tail (Q6 c);rw [dg_succ hB o_];have e1:val B (d::l) % B=d:=by rw [val,Nat.add_mul_mod_self_left,Nat.mod_eq_of_lt h1]
  have e2:val B (d::l) / B=val B l:=by rw [val,Nat.add_mul_div_left _ _ o_,Nat.div_eq_of_lt h1,Nat.zero_add]
  rw [e1,e2,ih]
theorem Az (hB:2≤B) (k:Nat):∀ {n:Nat},(dg B n).length≤k↔n<B ^ k:=by
 induction k with
 | zero =>intro n;rw [Nat.pow_zero,Nat.le_zero,List.length_eq_zero_iff,Dp hB];omega
 | succ k ih =>
  intro n;by_cases hn:n=0;·
   subst hn;rw [Bd];simp;exact Nat.pow_pos o_
  ·rw [dg_succ hB hn,List.length_cons,Nat.add_le_add_iff_right,ih,Nat.pow_succ,Nat.div_lt_iff_lt_mul o_]
theorem Uc (hB:2≤B) (h:Dig B l) (c:Canon l) (hl:l≠[]):B ^ (l.length - 1)≤val B l:=by
 have h1:=Q0 hB h c;rcases Nat.lt_or_ge (val B l) (B ^ (l.length - 1)) with hlt|hge
 ·have:=(Az hB (l.length - 1)).2 hlt;rw [h1] at this;have:=List.length_pos_iff.2 hl;omega
 ·exact hge
def Eu (B:Nat) (l:List Nat):List Nat:=dg B (val B l)
theorem L6 (l:List Nat):Eu B (l++[0])=Eu B l:=by unfold Eu;rw [Ck];simp
theorem Qm (B:Nat):Eu B []=[]:=Bd B
theorem Q7 (h:d≠0):Canon (l++[d]):=by unfold Canon;simpa using h
theorem Jd (hB:2≤B) (h:Dig B l) (c:Canon l):Eu B l=l:=Q0 hB h c
theorem Io {B:Nat} (hB:2≤B):∀ (n:Nat) {l:List Nat},l.length=n→Dig B l→∃ k,k≤l.length∧Eu B l=l.take k
 | 0,l,hn,h=>by obtain rfl:=List.eq_nil_of_length_eq_zero hn;exact⟨0,i_,Bd B⟩
 | n+1,l,hn,h=>by
  have hl:l≠[]:=fun e=>by rw [e] at hn;cases hn
  by_cases c:Canon l;·exact⟨l.length,Nat.le_refl _,by rw [List.take_length];exact Jd hB h c⟩
  ·have hz:l.getLast?=some 0:=(by unfold Canon at c;exact Classical.not_not.1 c);have hs:l.take n++[0]=l:=by
    have h2:=List.dropLast_concat_getLast hl;rw [List.getLast?_eq_some_getLast hl] at hz;rw [Option.some.inj hz] at h2;rw [← h2];congr 1;rw [List.dropLast_eq_take,hn];simp;rw [List.take_append_of_le_length u_',List.take_take];simp
   obtain⟨k,hk,hp⟩:=Io hB n (l:=l.take n) (by rw [List.length_take];omega) (h.take n);rw [List.length_take] at hk;refine⟨k,o_,?_⟩;rw [← hs,L6,hp,List.take_append_of_le_length (by rw [List.length_take];omega)]
variable {a b:List Nat}
theorem Im (hB:2≤B) (ha:Dig B a) (hb:Dig B b) (cb:Canon b) (h:a.length<b.length):val B a<val B b:=by have h1:=Ce ha;have h2:=Uc hB hb cb (fun e=>by rw [e] at h;cases h);exact Nat.lt_of_lt_of_le h1 (Nat.le_trans (Nat.pow_le_pow_right o_ o_) h2)
theorem Ov (hB:0<B) (ha:Dig B a) (hb:Dig B b) (hi:i<a.length) (hl:a.length=b.length) (hd:a.drop (i+1)=b.drop (i+1)) (h:a.getD i 0<b.getD i 0):val B a<val B b:=by
 rw [D9 B a i o_,D9 B b i o_,Gx B a i,Gx B b i,hd];have h1:=Ce (ha.take i);rw [List.length_take,Nat.min_eq_left o_] at h1;have h2:B ^ i*(a.getD i 0+B*val B (b.drop (i+1)))+B ^ i≤B ^ i*(b.getD i 0+B*val B (b.drop (i+1))):=by rw [← Nat.mul_succ];exact Nat.mul_le_mul_left _ o_
 omega
theorem drop_eq_succ (hi:i<a.length) (hl:a.length=b.length) (hd:a.drop (i+1)=b.drop (i+1)) (h:a.getD i 0=b.getD i 0):a.drop i=b.drop i:=by rw [List.drop_eq_getElem_cons hi,List.drop_eq_getElem_cons (by omega:i<b.length),hd];congr 1;rw [List.getD_eq_getElem?_getD,List.getD_eq_getElem?_getD,List.getElem?_eq_getElem hi,List.getElem?_eq_getElem o_] at h;exact h
variable {va vb vo c x y P:Nat}
theorem Oy {s:Nat} (hB:0<B) (h:vo+P*c=va+vb) (hs:s=c+x+y):vo+P*(s % B)+P*B*(s / B)=va+P*x+(vb+P*y):=by
 have h1:=Nat.mod_add_div s B;have h2:P*(s % B)+P*B*(s / B)=P*s:=by rw [Nat.mul_assoc,← Nat.mul_add,h1]
 have h3:P*s=P*c+P*x+P*y:=by rw [hs,Nat.mul_add,Nat.mul_add]
 omega
theorem diff_step {c':Nat} (h:vo+vb=va+P*c) (hd:d+y+c=x+B*c'):vo+P*d+(vb+P*y)=va+P*x+P*B*c':=by
 have h1:P*d+P*y+P*c=P*x+P*B*c':=by rw [← Nat.mul_add,← Nat.mul_add,hd,Nat.mul_add,Nat.mul_assoc]
 omega
theorem Rr {B:Nat}:∀ {l:List Nat} {i:Nat} (d:Nat),i<l.length→val B (l.set i d)+B ^ i*l.getD i 0=val B l+B ^ i*d
 | x::l,0,d,_=>by simp [val];omega
 | x::l,i+1,d,h=>by
  have ih:=Rr (B:=B) (l:=l) (i:=i) d (by simpa using h);rw [List.set_cons_succ,val,val,List.getD_cons_succ,Nat.pow_succ];have e1:B ^ i*B*l.getD i 0=B*(B ^ i*l.getD i 0):=by rw [Nat.mul_comm (B ^ i) B,Nat.mul_assoc]
  have e2:B ^ i*B*d=B*(B ^ i*d):=by rw [Nat.mul_comm (B ^ i) B,Nat.mul_assoc]
  rw [e1,e2,Nat.add_assoc,Nat.add_assoc,← Nat.mul_add,← Nat.mul_add,ih]
 | [],_,d,h=>by simp at h
theorem canon_of_ge (hD:Dig B l) (h:B ^ (l.length - 1)≤val B l):Canon l:=by
 unfold Canon;intro hz;have hl:l≠[]:=fun e=>by rw [e] at hz;cases hz
 have h2:=List.dropLast_concat_getLast hl;rw [List.getLast?_eq_some_getLast hl] at hz;rw [Option.some.inj hz] at h2;have h3:=Ce (hD.take (l.length - 1));rw [← List.dropLast_eq_take,List.length_dropLast] at h3;have h4:val B l=val B l.dropLast:=by conv=>lhs;rw [← h2,Ck];simp
 omega
end Go.Proofs.Bn
namespace Go.Proofs.Rg
open Go
def Ext (w w2:World):Prop:=∀ b:Nat,b<w.heap.size→w2.heap[b]?=w.heap[b]?
theorem Ext.refl (w:World):Ext w w:=fun _ _=>rfl
theorem Ext.size {w w2:World} (h:Ext w w2):w.heap.size≤w2.heap.size:=by
 rcases Nat.lt_or_ge w2.heap.size w.heap.size with hlt|hge
 ·have:=h w2.heap.size hlt;rw [Array.getElem?_eq_none (Nat.le_refl _),Array.getElem?_eq_getElem hlt] at this;cases this
 ·exact hge
theorem Ext.trans {a b c:World} (h:Ext a b) (k:Ext b c):Ext a c:=fun i hi =>
 (k i (Nat.lt_of_lt_of_le hi h.size)).trans (h i hi)
def Calm (P:Program) {α:Type} (s:Sem α):Prop:=∀ w a w',s.run P w=.ok a w'→w'=w∧∀ w2,s.run P w2=.ok a w2
def Stable (P:Program) {α:Type} (s:Sem α):Prop:=∀ w a w',s.run P w=.ok a w'→w'=w∧∀ w2,Ext w w2→s.run P w2=.ok a w2
def Grows (P:Program) {α:Type} (s:Sem α):Prop:=∀ w a w',s.run P w=.ok a w'→Ext w w'
def Dead (P:Program) {α:Type} (s:Sem α):Prop:=∀ w a w',s.run P w≠.ok a w'
def Gives (P:Program) {α:Type} (s:Sem α) (a:α):Prop:=∃ w w',s.run P w=.ok a w'
section
variable {P:Program} {α β:Type}
theorem run_bind_ok {x:Sem α} {f:α→Sem β} {w w':World} {b:β} (h:(x >>= f).run P w=.ok b w') :
  ∃ a w1,x.run P w=.ok a w1∧(f a).run P w1=.ok b w':=by
 rw [Sem.run_bind] at h;cases hx:x.run P w with
 | ok a w1=>rw [hx] at h;exact⟨a,w1,rfl,h⟩
 | halt x w1=>rw [hx] at h;cases h
theorem Np {x:Sem α} {f:α→Sem β} {w w1:World} {a:α} (h:x.run P w=.ok a w1) :
  (x >>= f).run P w=(f a).run P w1:=by rw [Sem.run_bind,h];rfl
theorem Calm.pure (a:α):Calm P (Pure.pure a:Sem α):=fun w b w' h=>by have h':Result.ok a w=.ok b w':=h;cases h';exact⟨rfl,fun _=>rfl⟩
theorem Dead.calm {s:Sem α} (h:Dead P s):Calm P s:=fun w a w' hr=>absurd hr (h w a w')
theorem Dead.halt (h:Halt):Dead P (.halt h:Sem α):=fun w a w' hr=>by cases hr
theorem Calm.halt (h:Halt):Calm P (.halt h:Sem α):=(Dead.halt h).calm
theorem Calm.stuck (s:String):Calm P (Go.stuck s:Sem α):=Calm.halt _
theorem Calm.unsupported (s:Unsupported):Calm P (Go.unsupported s:Sem α):=Calm.halt _
theorem Calm.bind {x:Sem α} {f:α→Sem β} (hx:Calm P x) (hf:∀ a,Gives P x a→Calm P (f a)):Calm P (x >>= f):=fun w b w' h=>by obtain⟨a,w1,h1,h2⟩:=run_bind_ok h;obtain⟨rfl,h3⟩:=hx w a w1 h1;obtain⟨rfl,h4⟩:=hf a ⟨_,_,h1⟩ _ b _ h2;exact⟨rfl,fun w2=>by rw [Np (h3 w2)];exact h4 w2⟩
theorem Dead.bind_left {x:Sem α} (f:α→Sem β) (hx:Dead P x):Dead P (x >>= f):=fun w b w' h=>by obtain⟨a,w1,h1,_⟩:=run_bind_ok h;exact hx _ _ _ h1
theorem Dead.bind_right (x:Sem α) {f:α→Sem β} (hf:∀ a,Dead P (f a)):Dead P (x >>= f):=fun w b w' h=>by obtain⟨a,w1,_,h2⟩:=run_bind_ok h;exact hf _ _ _ _ h2
theorem Calm.program:Calm P Go.program:=fun w a w' h=>by have h':Result.ok P w=.ok a w':=h;cases h';exact⟨rfl,fun _=>rfl⟩
theorem Gives.program {p:Program} (h:Gives P Go.program p):p=P:=by obtain⟨w,w',h⟩:=h;have h':Result.ok P w=.ok p w':=h;cases h';rfl
theorem Gives.pure {a b:α} (h:Gives P (Pure.pure a:Sem α) b):b=a:=by obtain⟨w,w',h⟩:=h;have h':Result.ok a w=.ok b w':=h;cases h';rfl
theorem Gives.bind {x:Sem α} {f:α→Sem β} {b:β} (h:Gives P (x >>= f) b):∃ a,Gives P x a∧Gives P (f a) b:=by obtain⟨w,w',h⟩:=h;obtain⟨a,w1,h1,h2⟩:=run_bind_ok h;exact⟨a,⟨_,_,h1⟩,⟨_,_,h2⟩⟩
theorem Gives.dead {s:Sem α} {a:α} (h:Gives P s a) (hd:Dead P s):False:=by obtain⟨w,w',h⟩:=h;exact hd _ _ _ h
theorem Calm.map {x:Sem α} (f:α→β) (hx:Calm P x):Calm P (f <$> x):=Calm.bind hx fun a _=>Calm.pure (f a)
theorem Calm.stable {s:Sem α} (h:Calm P s):Stable P s:=fun w a w' hr=>⟨(h w a w' hr).1,fun w2 _=>(h w a w' hr).2 w2⟩
theorem Stable.bind {x:Sem α} {f:α→Sem β} (hx:Stable P x) (hf:∀ a,Stable P (f a)):Stable P (x >>= f):=fun w b w' h=>by obtain⟨a,w1,h1,h2⟩:=run_bind_ok h;obtain⟨rfl,h3⟩:=hx w a w1 h1;obtain⟨rfl,h4⟩:=hf a _ b _ h2;exact⟨rfl,fun w2 he=>by rw [Np (h3 w2 he)];exact h4 w2 he⟩
theorem Stable.grows {s:Sem α} (h:Stable P s):Grows P s:=fun w a w' hr=>by rw [(h w a w' hr).1];exact Ext.refl _
theorem Calm.grows {s:Sem α} (h:Calm P s):Grows P s:=h.stable.grows
theorem Grows.bind {x:Sem α} {f:α→Sem β} (hx:Grows P x) (hf:∀ a,Grows P (f a)):Grows P (x >>= f):=fun w b w' h=>by obtain⟨a,w1,h1,h2⟩:=run_bind_ok h;exact (hx w a w1 h1).trans (hf a w1 b w' h2)
theorem Grows.new (o:Obj):Grows P (Go.newObj o):=fun w a w' h=>by have h':Result.ok w.heap.size { w with heap:=w.heap.push o }=.ok a w':=h;cases h';intro b hb;show (w.heap.push o)[b]?=_;rw [Array.getElem?_push,if_neg o_]
theorem seen_ok {w:World} {at_:Addr} {u:TypeId} {k:Addr} {m:Bool} {r:Array Value×TypeId×(Nat×Nat)×Nat×Value×List (Nat×Nat×List UInt8)}
  (h:w.seen P at_ u k m=.ok r):at_.block<w.heap.size:=by
 rcases Nat.lt_or_ge at_.block w.heap.size with h'|h'
 ·exact h'
 ·exfalso;unfold World.seen at h;rw [Array.getElem?_eq_none h'] at h;simp only [bind,Except.bind,throwThe,MonadExceptOf.throw,MonadExcept.throw] at h
  repeat' (split at h)
  all_goals first|cases h|(simp at h)
theorem seen_ext {w w2:World} (he:Ext w w2) {at_:Addr} {u:TypeId} {k:Addr} {m:Bool} {r:Array Value×TypeId×(Nat×Nat)×Nat×Value×List (Nat×Nat×List UInt8)}
  (h:w.seen P at_ u k m=.ok r):w2.seen P at_ u k m=.ok r:=by
 have hb:=seen_ok h;unfold World.seen at h ⊢;rw [he _ hb];exact h
theorem viewLoad_ext {w w2:World} (he:Ext w w2) {at_:Addr} {u:TypeId} {k:Addr} {m:Bool} {r:Value×List Addr}
  (h:w.viewLoad P at_ u k m=.ok r):w2.viewLoad P at_ u k m=.ok r:=by
 unfold World.viewLoad at h ⊢;cases hs:w.seen P at_ u k m with
 | error e=>rw [hs] at h;cases h
 | ok q=>rw [seen_ext he hs];rw [hs] at h;exact h
theorem Stable.load (a:Addr):Stable P (Go.load a):=fun w v w' h=>by
 rw [run_load] at h;have hlt:∀ o,w.heap[a.block]?=some o→a.block<w.heap.size:=fun o ho=>(Array.getElem?_eq_some_iff.1 ho).1;cases hc:w.cell? a with
 | some u =>
  rw [hc] at h;cases h;refine⟨rfl,fun w2 he=>?_⟩;have hc2:w2.cell? a=some v:=by
   unfold World.cell? at hc ⊢;cases ho:w.heap[a.block]? with
   | none=>rw [ho] at hc;cases hc
   | some o=>rw [he _ (hlt o ho),ho];rw [ho] at hc;exact hc
  rw [run_load,hc2]
 | none =>
  rw [hc] at h;cases hf:w.farLoad P a (Mode.plain == .atomic) with
  | error e=>simp only [hf] at h;cases h
  | ok r =>
   simp only [hf] at h;cases h;refine⟨rfl,fun w2 he=>?_⟩;unfold World.farLoad at hf;cases ho:w.heap[a.block]? with
   | none=>rw [ho] at hf;cases hf
   | some o =>
    have ho2:w2.heap[a.block]?=some o:=(he _ (hlt o ho)).trans ho;rw [ho] at hf;cases o with
    | view at_ u =>
     simp only at hf;have hc2:w2.cell? a=none:=(by unfold World.cell?;rw [ho2]);rw [run_load,hc2];unfold World.farLoad;rw [ho2];simp only;cases hvl:w.viewLoad P at_ u a (Mode.plain == .atomic) with
     | ok q=>rw [viewLoad_ext he hvl];rw [hvl] at hf;cases hf;rfl
     | error q=>rw [hvl] at hf;cases hf
    | _=>simp only at hf;cases hf
end
section
variable {P:Program}
theorem Dead.runtimePanic {α:Type} (e:RuntimeError):Dead P (Go.runtimePanic e:Sem α):=by unfold Go.runtimePanic;refine Dead.bind_right _ fun p=>?_;cases e<;>first|exact Dead.halt _|(refine Dead.bind_right _ fun _=>Dead.bind_right _ fun _=>Dead.halt _)
theorem Dead.boundsPanic {α:Type} (k:IntKind) (x y:Int) (c:BoundsCode):Dead P (Go.boundsPanic k x y c:Sem α):=by unfold Go.boundsPanic;dsimp only;split<;>exact Dead.bind_right _ fun _=>Dead.runtimePanic _
theorem Calm.typeInfo (t:TypeId):Calm P (Go.typeInfo t):=by
 unfold Go.typeInfo;refine Calm.bind Calm.program fun p _=>?_;split;·exact Calm.pure _
 ·exact Calm.stuck _
theorem Calm.underlying (t:TypeId):Calm P (Go.underlying t):=by
 unfold Go.underlying;refine Calm.bind Calm.program fun p _=>?_;split;·exact Calm.pure _
 ·exact Calm.stuck _
theorem Gives.underlying {t:TypeId} {d:TypeDesc} (h:Gives P (Go.underlying t) d):P.underlying t=some d:=by
 unfold Go.underlying at h;obtain⟨p,h1,h2⟩:=h.bind;obtain rfl:=h1.program;split at h2;·rw [h2.pure];assumption
 ·exact (h2.dead (Dead.halt _)).elim
theorem Gives.typeInfo {t:TypeId} {d:TypeInfo} (h:Gives P (Go.typeInfo t) d):P.info? t=some d:=by
 unfold Go.typeInfo at h;obtain⟨p,h1,h2⟩:=h.bind;obtain rfl:=h1.program;split at h2;·rw [h2.pure];assumption
 ·exact (h2.dead (Dead.halt _)).elim
theorem Gives.sizeOf {t:TypeId} {d:Nat} (h:Gives P (Go.sizeOf t) d):P.cellsOf t=d:=by unfold Go.sizeOf at h;obtain⟨i,h1,h2⟩:=h.bind;rw [h2.pure];simp [Program.cellsOf,h1.typeInfo]
theorem Calm.zeroValue (t:TypeId):Calm P (Go.zeroValue t):=by
 unfold Go.zeroValue;refine Calm.bind (Calm.typeInfo _) fun p _=>?_;split;·exact Calm.pure _
 ·exact Calm.unsupported _
theorem Calm.sizeOf (t:TypeId):Calm P (Go.sizeOf t):=Calm.bind (Calm.typeInfo _) fun _ _=>Calm.pure _
theorem Calm.isAgg (t:TypeId):Calm P (Go.isAgg t):=by unfold Go.isAgg;refine Calm.bind (Calm.underlying _) fun p _=>?_;split<;>exact Calm.pure _
theorem Calm.asBool (v:Value):Calm P (Go.asBool v):=by
 unfold Go.asBool;split;·exact Calm.pure _
 ·exact Calm.stuck _
theorem Calm.asIntOf (v:Value):Calm P (Go.asIntOf v):=by
 unfold Go.asIntOf;split;·exact Calm.pure _
 ·exact Calm.unsupported _
 ·exact Calm.stuck _
theorem Calm.asAgg (v:Value):Calm P (Go.asAgg v):=by
 unfold Go.asAgg;split;·exact Calm.pure _
 ·exact Calm.stuck _
theorem Calm.asAddr (v:Value):Calm P (Go.asAddr v):=by
 unfold Go.asAddr;split;·exact Calm.pure _
 ·exact (Dead.runtimePanic _).calm
 ·exact Calm.stuck _
theorem Calm.sureAddr (v:Value):Calm P (Go.Instr.sureAddr v):=by
 unfold Go.Instr.sureAddr;split;·exact Calm.pure _
 ·exact Calm.stuck _
theorem Calm.part (t:TypeId) (cs:Array Value) (off:Nat):Calm P (Go.part t cs off):=by
 unfold Go.part;refine Calm.bind (Calm.isAgg _) fun b _=>?_;split;·exact Calm.bind (Calm.sizeOf _) fun _ _=>Calm.pure _
 ·split;·exact Calm.pure _
  ·exact Calm.stuck _
theorem Calm.forIn_list {α σ:Type} (l:List α):∀ (init:σ) (f:α→σ→Sem (ForInStep σ)) (hf:∀ a s,Calm P (f a s)),Calm P (forIn l init f):=by
 induction l with
 | nil=>intro init f _;exact Calm.pure _
 | cons x l ih =>
  intro init f hf;rw [List.forIn_cons];refine Calm.bind (hf _ _) fun r _=>?_;cases r;·exact Calm.pure _
  ·exact ih _ f hf
theorem Calm.forIn_array {α σ:Type} (l:Array α) (init:σ) (f:α→σ→Sem (ForInStep σ)) (hf:∀ a s,Calm P (f a s)):Calm P (forIn l init f):=by rw [← Array.forIn_toList];exact Calm.forIn_list _ _ _ hf
theorem Calm.forIn_range {σ:Type} (l:Std.Legacy.Range) (init:σ) (f:Nat→σ→Sem (ForInStep σ)) (hf:∀ a s,Calm P (f a s)):Calm P (forIn l init f):=by rw [Std.Legacy.Range.forIn_eq_forIn_range'];exact Calm.forIn_list _ _ _ hf
theorem Calm.eqGuardIn:∀ (d:Nat) (t:TypeId) (x y:Value),Calm P (Op.eqGuardIn d t x y)
 | 0,t,x,y=>Calm.unsupported _
 | d+1,t,x,y=>by
  unfold Op.eqGuardIn;refine Calm.bind (Calm.underlying _) fun u _=>?_;split;·exact Calm.pure _
  ·refine Calm.bind (Calm.forIn_array _ _ _ fun f s=>?_) fun r _=>?_;·
    split;·exact Calm.bind (Calm.part _ _ _) fun _ _=>Calm.bind (Calm.part _ _ _) fun _ _=>Calm.bind (Calm.eqGuardIn d _ _ _) fun b _=>by split<;>exact Calm.pure _
    ·exact Calm.pure _
   ·rcases r with ⟨_|r,_⟩<;>exact Calm.pure _
  ·refine Calm.bind (Calm.sizeOf _) fun n _=>Calm.bind (Calm.forIn_range _ _ _ fun f s=>?_) fun r _=>?_;·exact Calm.bind (Calm.part _ _ _) fun _ _=>Calm.bind (Calm.part _ _ _) fun _ _=>Calm.bind (Calm.eqGuardIn d _ _ _) fun b _=>by split<;>exact Calm.pure _
   ·rcases r with ⟨_|r,_⟩<;>exact Calm.pure _
  ·exact Calm.pure _
def plainCell:Value→Bool
 | .int ..|.bool _|.string _=>true
 | _=>false
def Ec (v:Value):Bool:=match v with
 | .int ..|.bool _|.string _=>true
 | .agg cs=>cs.toList.all plainCell
 | _=>false
theorem plainV_of_cell {v:Value} (h:plainCell v=true):Ec v=true:=by cases v<;>first|exact h|cases h
theorem Gives.part {t:TypeId} {cs:Array Value} {off:Nat} {v:Value} (h:Gives P (Go.part t cs off) v) (hc:cs.toList.all plainCell=true):Ec v=true:=by
 rw [List.all_eq_true] at hc;unfold Go.part at h;obtain⟨b,_,h⟩:=h.bind;split at h;·
  obtain⟨n,_,h⟩:=h.bind;rw [h.pure];show (cs.extract off (off+n)).toList.all plainCell=true;rw [List.all_eq_true];intro x hx;exact hc x (by
   rw [Array.mem_toList_iff] at hx ⊢
   rw [Array.mem_extract_iff_getElem] at hx
   obtain⟨k,hk,rfl⟩:=hx
   exact Array.getElem_mem _)
 ·split at h;·
   rename_i u hu;rw [h.pure];exact plainV_of_cell (hc u (Array.mem_toList_iff.2 (Array.mem_of_getElem? hu)))
  ·exact (h.dead (Dead.halt _)).elim
def eqOK:Value→Value→Bool
 | .pointer none,.pointer _|.pointer _,.pointer none=>true
 | .slice none _ _,.slice ..|.slice ..,.slice none _ _=>true
 | .map none,.map _|.map _,.map none=>true
 | .nilFunc,.func ..|.func ..,.nilFunc|.nilFunc,.nilFunc=>true
 | x,y=>Ec x && Ec y
theorem Calm.equalPlain:∀ (d:Nat) (t:TypeId) (x y:Value),Ec x=true→Ec y=true→Calm P (Op.equalIn d t x y)
 | 0,t,x,y=>fun _ _=>Calm.unsupported _
 | d+1,t,x,y=>fun hx hy=>by
  unfold Op.equalIn;refine Calm.bind (Calm.underlying _) fun u _=>?_;split;all_goals first
   | exact Calm.pure _
   | exact Calm.stuck _
   | exact Calm.unsupported _
   | (exfalso;simp only [Ec] at hx;cases hx;done)
   | (exfalso;simp only [Ec] at hy;cases hy;done)
   | (split<;>first|exact Calm.pure _|exact Calm.stuck _)
   | skip
  ·rename_i fields xs ys hg;refine Calm.bind Calm.program fun p _=>?_;split;·exact Calm.unsupported _
   ·refine Calm.bind (Calm.forIn_array _ _ _ fun f s=>?_) fun r _=>?_;·
     split;·exact Calm.bind (Calm.part _ _ _) fun a ha=>Calm.bind (Calm.part _ _ _) fun b hb=>Calm.bind (Calm.equalPlain d _ _ _ (ha.part hx) (hb.part hy)) fun b _=>by split<;>exact Calm.pure _
     ·exact Calm.pure _
    ·rcases r with ⟨_|r,_⟩<;>exact Calm.pure _
  ·refine Calm.bind (Calm.sizeOf _) fun n _=>Calm.bind (Calm.forIn_range _ _ _ fun f s=>?_) fun r _=>?_;·exact Calm.bind (Calm.part _ _ _) fun a ha=>Calm.bind (Calm.part _ _ _) fun b hb=>Calm.bind (Calm.equalPlain d _ _ _ (ha.part hx) (hb.part hy)) fun b _=>by split<;>exact Calm.pure _
   ·rcases r with ⟨_|r,_⟩<;>exact Calm.pure _
theorem Calm.same_none_left (a:Option Addr):Calm P (samePointer none a):=by cases a<;>exact Calm.pure _
theorem Calm.same_none_right (a:Option Addr):Calm P (samePointer a none):=by cases a<;>exact Calm.pure _
theorem Calm.equal (t:TypeId) (x y:Value) (h:eqOK x y=true):Calm P (Op.equal t x y):=by
 unfold Op.equal Op.maxDepth;by_cases hp:Ec x=true∧Ec y=true;·exact Calm.equalPlain _ t x y hp.1 hp.2
 ·unfold Op.equalIn;refine Calm.bind (Calm.underlying _) fun u _=>?_;unfold eqOK at h;split at h;all_goals first
   | (simp only [Bool.and_eq_true] at h;exact absurd h hp)
   | (split<;>first|exact Calm.pure _|exact Calm.stuck _|exact Calm.unsupported _|(simp_all;done)|skip)
  ·rename_i e1 e2 _;cases e1;cases e2;exact Calm.same_none_left _
  ·rename_i e1 e2 _;cases e1;cases e2;exact Calm.same_none_right _
end
end Go.Proofs.Rg
namespace Go.Proofs.Rg
open Go
section
variable {P:Program}
def Ia (P:Program) (s f:Nat):Bool :=
 match P.underlying s with
 | some (.struct fs)=>match fs[f]? with
  | some fd=>P.cellsOf fd.type != 0
  | none=>true
 | _=>true
inductive Cl where
 | pure|load|alloc|any
 deriving DecidableEq
def clB:Builtin→Cl
 | .len|.cap|.min|.max=>.pure
 | _=>.any
def Tw (P:Program) (t:TypeId):Bool :=
 match P.underlying t with
 | some (.map k _)=>(match P.underlying k with|some (.int _)=>true|_=>false)
 | _=>false
def N3:Value→Bool
 | .pointer _=>false
 | _=>true
def cl (P:Program):Op→Cl
 | .move _|.assign _|.pick ..|.build ..|.field ..|.indexAddr ..|.index ..|.extract ..|.unOp ..|.binOp ..|.convert ..|.slice ..|.nilCheck _=>.pure
 | .fieldAddr s _ f=>if Ia P s f then .pure else .any
 | .call { callee:=.builtin b,.. }=>clB b
 | .load ..=>.load
 | .lookup t _ _ _=>if Tw P t then .load else .any
 | .alloc _|.box ..|.buildSlice ..=>.alloc
 | _=>.any
def sized:Value→Bool
 | .slice ..|.string _=>true
 | _=>false
def isInt:Value→Bool
 | .int ..=>true
 | _=>false
def dynB (b:Builtin) (args:List Value):Bool :=
 match b with
 | .len|.cap=>args.all sized
 | .min|.max=>args.all isInt
 | _=>true
def Pz (op:BinOp) (x y:Value):Bool :=
 match x,y with
 | .int ..,.int ..=>true
 | .string _,.string _=>true
 | x,y=>(match op with|.eql|.neq=>true|_=>false) && eqOK x y
def Mf (ρ:Operand→Value):Op→Bool
 | .nilCheck x=>match ρ x with|.pointer _=>true|_=>false
 | .binOp op _ x y _=>Pz op (ρ x) (ρ y)
 | .convert _ _ x=>isInt (ρ x)
 | .lookup _ _ x _=>N3 (ρ x)
 | .call { callee:=.builtin b,args,.. }=>dynB b (args.toList.map ρ)
 | _=>true
theorem Calm.shift (op:BinOp) (k:IntKind) (a:Int) (yk:IntKind) (b:Int):Calm P (Op.shift op k a yk b):=by
 unfold Op.shift;dsimp only;split;·exact (Dead.runtimePanic _).calm
 ·split<;>first|exact Calm.pure _|exact Calm.stuck _
theorem Calm.intArith (op:BinOp) (k:IntKind) (a b:Int):Calm P (Op.intArith op k a b):=by unfold Op.intArith;split<;>first|exact Calm.pure _|exact Calm.stuck _
theorem Calm.intDiv (op:BinOp) (k:IntKind) (a b:Int):Calm P (Op.intDiv op k a b):=by
 unfold Op.intDiv;split;·exact (Dead.runtimePanic _).calm
 ·split<;>first|exact Calm.pure _|exact Calm.stuck _
theorem Calm.intBits (op:BinOp) (k:IntKind) (a b:Int):Calm P (Op.intBits op k a b):=by unfold Op.intBits;dsimp only;split<;>first|exact Calm.pure _|exact Calm.stuck _
theorem Calm.intCmp (op:BinOp) (a b:Int):Calm P (Op.intCmp op a b):=by unfold Op.intCmp;split<;>first|exact Calm.pure _|exact Calm.stuck _
theorem Calm.stringOp (op:BinOp) (a b:ByteArray):Calm P (Op.stringOp op a b):=by
 unfold Op.stringOp;dsimp only;split;·
  split;·exact Calm.unsupported _
  ·exact Calm.pure _
 all_goals first|exact Calm.pure _|exact Calm.stuck _
theorem Calm.guarded (u:Unsupported) (b:Sem Bool) (hb:Calm P b):Calm P (b >>= fun q=>if q=true then Go.unsupported u else Pure.pure ()) :=
 Calm.bind hb fun q _=>by
  cases q;·exact Calm.pure _
  ·exact Calm.unsupported _
theorem Calm.guarded2 (u:Unsupported) (p:Program) (t:TypeId) (b:Sem Bool) (hb:Calm P b) :
  Calm P (if (!p.eqGuardType p.depth t)=true then (Pure.pure ():Sem Unit) else b >>= fun q=>if q=true then Go.unsupported u else Pure.pure ()):=by
 by_cases h:(!p.eqGuardType p.depth t)=true;·rw [if_pos h];exact Calm.pure _
 ·rw [if_neg h];exact Calm.guarded u b hb
theorem Calm.guarded3 (u:Unsupported) (c:Prop) [Decidable c] (b:Sem Bool) (hb:Calm P b) :
  Calm P (if c then (Pure.pure ():Sem Unit) else b >>= fun q=>if q=true then Go.unsupported u else Pure.pure ()):=by
 by_cases h:c;·rw [if_pos h];exact Calm.pure _
 ·rw [if_neg h];exact Calm.guarded u b hb
theorem Calm.guardBody (t:TypeId) (x y:Operand) (a b:Value):Calm P (Go.eqGuard .eql t x y a b):=by
 unfold Go.eqGuard;show Calm P (match a,b with
  | .nilIface,.nilIface=>_
  | .agg _,.agg _=>_
  | _,_=>_)
 split;·exact Calm.guarded3 _ _ _ (Calm.eqGuardIn _ _ _ _)
 ·exact Calm.bind Calm.program fun p hp=>Calm.bind Calm.program fun q hq=>by rw [hp.program,hq.program];exact Calm.guarded2 _ _ _ _ (Calm.eqGuardIn _ _ _ _)
 ·exact Calm.pure _
theorem Calm.eqGuard (op:BinOp) (t:TypeId) (x y:Operand) (a b:Value):Calm P (Go.eqGuard op t x y a b):=by cases op<;>first|exact Calm.guardBody t x y a b|exact Calm.pure _
theorem Uf (op:BinOp) (t:TypeId) (k k':IntKind) (a b:Int):Calm P (Go.binOp op t (.int k a) (.int k' b)):=by
 cases op<;>simp only [Go.binOp]<;>first
  | exact Calm.shift _ _ _ _ _
  | (
   split
   ·exact Calm.stuck _
   ·first|exact Calm.intArith _ _ _ _|exact Calm.intDiv _ _ _ _|exact Calm.intBits _ _ _ _|exact Calm.intCmp _ _ _)
theorem O7 (op:BinOp) (t:TypeId) (a b:ByteArray):Calm P (Go.binOp op t (.string a) (.string b)):=by cases op<;>simp only [Go.binOp]<;>exact Calm.stringOp _ _ _
theorem binOpEq (op:BinOp) (ho:(match op with|.eql|.neq=>true|_=>false)=true) (t:TypeId) (x y:Value) (h:eqOK x y=true) (hx:Ec x=true→Ec y=true→True):Calm P (Go.binOp op t x y):=by
 have h1:Calm P (do pure (.bool (← Op.equal t x y)):Sem Value):=Calm.bind (Calm.equal t x y h) fun _ _=>Calm.pure _;have h2:Calm P (do pure (.bool (!(← Op.equal t x y))):Sem Value):=Calm.bind (Calm.equal t x y h) fun _ _=>Calm.pure _;cases op<;>first|(cases ho;done)|skip
 all_goals
  cases x<;>cases y<;>first
   | exact h1
   | exact h2
   | exact Uf _ _ _ _ _ _
   | exact O7 _ _ _ _
   | (simp [eqOK,Ec] at h;done)
theorem Calm.binOp (op:BinOp) (t:TypeId) (x y:Value) (h:Pz op x y=true):Calm P (Go.binOp op t x y):=by
 unfold Pz at h;split at h;·exact Uf _ _ _ _ _ _
 ·exact O7 _ _ _ _
 ·rw [Bool.and_eq_true] at h;exact binOpEq op h.1 t x y h.2 fun _ _=>trivial
theorem Calm.unary (op:UnOp) (x:Value):Calm P (Op.unary op x):=by unfold Op.unary;split<;>first|exact Calm.pure _|exact Calm.stuck _|exact Calm.unsupported _|exact Calm.intArith _ _ _ _|exact Calm.intBits _ _ _ _
theorem Calm.unsafePointerInt (s d:TypeId) (k:IntKind) (n:Int):Calm P (Conv.unsafePointer s d (.int k n)):=by
 unfold Conv.unsafePointer;refine Calm.bind (Calm.underlying _) fun u _=>Calm.bind (Calm.underlying _) fun v _=>?_;split;all_goals first|exact Calm.stuck _|exact Calm.unsupported _|(rename_i e;cases e;done)|skip
 all_goals simp_all
theorem Calm.convert (s d:TypeId) (x:Value) (h:isInt x=true):Calm P (Go.convert s d x):=by
 cases x<;>first|(cases h;done)|skip
 unfold Go.convert;refine Calm.bind (Calm.underlying _) fun u _=>Calm.bind (Calm.underlying _) fun v _=>?_;split;all_goals first|exact Calm.pure _|exact Calm.unsafePointerInt _ _ _ _|exact Calm.unsupported _|(rename_i e;cases e;done)|skip
 all_goals simp_all
end
end Go.Proofs.Rg
namespace Go.Proofs.Rg
open Go
section
variable {P:Program}
def Val (P:Program) (s:Sem Next):Prop:=∀ n,Gives P s n→∃ v,n=.value v
theorem Val.wrap (s:Sem Value):Val P (s >>= fun v=>pure (Next.value v)):=fun n h=>by obtain⟨v,_,h2⟩:=h.bind;exact⟨v,h2.pure⟩
theorem Val.pure (v:Value):Val P (pure (Next.value v)):=fun n h=>⟨v,h.pure⟩
theorem Calm.wrap {s:Sem Value} (h:Calm P s):Calm P (s >>= fun v=>Pure.pure (Next.value v)):=Calm.bind h fun _ _=>Calm.pure _
theorem Stable.wrap {s:Sem Value} (h:Stable P s):Stable P (s >>= fun v=>pure (Next.value v)):=Stable.bind h fun _=>(Calm.pure _).stable
theorem Grows.wrap {s:Sem Value} (h:Grows P s):Grows P (s >>= fun v=>pure (Next.value v)):=Grows.bind h fun _=>(Calm.pure _).grows
theorem Calm.build (t:TypeId) (parts:Array (Nat×Value)):Calm P (Instr.build t parts):=by
 unfold Instr.build;refine Calm.bind (Calm.zeroValue _) fun z _=>?_;refine Calm.bind (Calm.underlying _) fun u _=>?_;split;·
  refine Calm.bind ?_ fun places _=>?_;·
   refine (show ∀ l:Array Field,Calm P (l.mapM fun f=>do Pure.pure (f.offset,← Go.sizeOf f.type)) from fun l=>?_) _;rw [Array.mapM_eq_foldlM];rw [← Array.foldlM_toList];generalize (#[]:Array (Nat×Nat))=init;generalize l.toList=l
   induction l generalizing init with
   | nil=>exact Calm.pure _
   | cons x l ih =>rw [List.foldlM_cons];exact Calm.bind (Calm.bind (Calm.bind (Calm.sizeOf _) fun _ _=>Calm.pure _) fun _ _=>Calm.pure _) fun _ _=>ih _
  ·split;·exact Calm.pure _
   ·exact Calm.stuck _
 ·refine Calm.bind (Calm.sizeOf _) fun n _=>?_;split;·exact Calm.pure _
  ·exact Calm.stuck _
 ·exact Calm.stuck _
theorem Calm.field (t:TypeId) (x:Value) (f:Nat):Calm P (Instr.field t x f):=by
 unfold Instr.field;refine Calm.bind (Calm.underlying _) fun u _=>?_;split;·
  split;·exact Calm.bind (Calm.asAgg _) fun _ _=>Calm.part _ _ _
  ·exact Calm.stuck _
 ·exact Calm.stuck _
theorem Calm.indexAt (t:TypeId) (x i:Value):Calm P (Instr.indexAt t x i):=by
 unfold Instr.indexAt;refine Calm.bind (Calm.asIntOf _) fun ki _=>?_;obtain⟨k,i⟩:=ki;dsimp only;refine Calm.bind (Calm.underlying _) fun u _=>?_;have tail:∀ y:Option Addr×Nat×TypeId,Calm P (do
   let u2 ← Go.underlying t
   match y.fst with
    | some a =>
     if 0≤i∧i<↑y.2.fst then do
      let s ← Go.sizeOf y.2.snd
      Pure.pure (Value.pointer (some (a.add (i.toNat*s))))
     else
      if (decide (y.2.fst≤1) && match u2 with|TypeDesc.array len elem=>true|x=>false)=true then
              Go.unsupported (Unsupported.noEntry "op/indexAddr.an index out of range at an array of length 0 or 1 (ledger 616)")
      else boundsPanic k i (↑y.2.fst) BoundsCode.index
    | none=>boundsPanic k i 0 BoundsCode.index):=by
  rintro⟨base,len,elem⟩;refine Calm.bind (Calm.underlying _) fun u2 _=>?_;dsimp only;split;·
   split;·exact Calm.bind (Calm.sizeOf _) fun _ _=>Calm.pure _
   ·generalize (decide (len≤1) && _)=q;cases q;·exact (Dead.boundsPanic _ _ _ _).calm
    ·exact Calm.unsupported _
  ·exact (Dead.boundsPanic _ _ _ _).calm
 split;·exact Calm.bind (Calm.sureAddr _) fun _ _=>Calm.bind (Calm.pure _) fun y _=>tail y
 ·exact Calm.bind (Calm.pure _) fun y _=>tail y
 ·exact Calm.bind (Calm.stuck _) fun y _=>tail y
theorem Calm.index (t:TypeId) (x i:Value):Calm P (Instr.index t x i):=by
 unfold Instr.index;refine Calm.bind (Calm.asIntOf _) fun ki _=>?_;obtain⟨k,i⟩:=ki;dsimp only;refine Calm.bind (Calm.underlying _) fun u _=>?_;split;·
  split;·exact Calm.bind (Calm.sizeOf _) fun _ _=>Calm.part _ _ _
  ·exact (Dead.boundsPanic _ _ _ _).calm
 ·split;·exact Calm.pure _
  ·exact (Dead.boundsPanic _ _ _ _).calm
 ·exact Calm.stuck _
theorem Calm.extract (t:Value) (i:Nat):Calm P (Instr.extract t i):=by
 unfold Instr.extract;split;·
  split;·exact Calm.pure _
  ·exact Calm.stuck _
 ·exact Calm.stuck _
theorem Calm.sliceBound (x:Value) (y:Nat) (c:BoundsCode):Calm P (Instr.sliceBound x y c):=by
 unfold Instr.sliceBound;refine Calm.bind (Calm.asIntOf _) fun ki _=>?_;obtain⟨k,i⟩:=ki;dsimp only;split;·exact Calm.pure _
 ·exact (Dead.boundsPanic _ _ _ _).calm
theorem Calm.sliceBounds (b:Bool) (len cap:Nat) (lo hi mx:Option Value):Calm P (Instr.sliceBounds b len cap lo hi mx):=by
 unfold Instr.sliceBounds;cases lo<;>cases hi<;>cases mx <;>
  exact Calm.bind (by first|exact Calm.sliceBound _ _ _|exact Calm.pure _) fun m _ =>
   Calm.bind (by first|exact Calm.sliceBound _ _ _|exact Calm.pure _|exact Calm.stuck _) fun h _ =>
   Calm.bind (by first|exact Calm.sliceBound _ _ _|exact Calm.pure _) fun l _=>Calm.pure _
theorem Calm.slice (t:TypeId) (x:Value) (lo hi mx:Option Value):Calm P (Instr.slice t x lo hi mx):=by
 unfold Instr.slice;refine Calm.bind (Calm.underlying _) fun u _=>?_;split;·
  dsimp only;split;·exact (Dead.bind_left _ (Dead.halt _)).calm
  ·exact Calm.bind (Calm.sliceBounds _ _ _ _ _ _) fun r _=>Calm.pure _
 ·exact Calm.bind (Calm.sliceBounds _ _ _ _ _ _) fun r _=>Calm.bind (Calm.sizeOf _) fun _ _=>Calm.pure _
 ·refine Calm.bind (Calm.asAddr _) fun a _=>Calm.bind (Calm.underlying _) fun v _=>?_;split;·exact Calm.bind (Calm.sliceBounds _ _ _ _ _ _) fun r _=>Calm.bind (Calm.sizeOf _) fun _ _=>Calm.pure _
  ·exact Calm.stuck _
 ·exact Calm.stuck _
theorem Calm.sliceAt (t:TypeId) (x:Value) (lo hi mx:Option Value):Calm P (Instr.sliceAt t x lo hi mx):=by
 unfold Instr.sliceAt;refine Calm.bind (Calm.underlying _) fun u _=>?_;split;·exact Calm.bind (Calm.sureAddr _) fun a _=>Calm.bind (Calm.sliceBounds _ _ _ _ _ _) fun r _=>Calm.bind (Calm.sizeOf _) fun _ _=>Calm.pure _
 ·exact Calm.slice _ _ _ _ _
theorem Calm.fieldAt (s:TypeId) (x:Value) (f:Nat) (hc:Ia P s f=true):Calm P (Instr.fieldAt s x f):=by
 unfold Instr.fieldAt;refine Calm.bind (Calm.underlying _) fun u hu=>?_;have hu:=hu.underlying;split;·
  rename_i fs;split;·
   rename_i fd hfd;refine Calm.bind (Calm.sureAddr _) fun a _=>?_;refine Calm.bind ?_ fun q _=>Calm.pure _;unfold Go.fieldPlace;refine Calm.bind (Calm.sizeOf _) fun n hn=>?_;have hn:=hn.sizeOf;have:n≠0:=by simp only [Ia,hu,hfd] at hc;intro h0;rw [h0] at hn;simp [hn] at hc
   rw [if_neg this];exact Calm.pure _
  ·exact Calm.stuck _
 ·exact Calm.stuck _
theorem Calm.lenB (ts:Array TypeId) (ty:TypeId) (args:Array Value) (h:args.toList.all sized=true):Calm P (Builtin.len_ ts ty args):=by
 unfold Builtin.len_;rw [List.all_eq_true] at h;split;·
  rename_i t x e;have hx:sized x=true:=h x (Array.mem_toList_iff.2 (Array.mem_of_getElem? (by simp only [Prod.mk.injEq] at e;exact e.2)));refine Calm.bind (Calm.underlying _) fun u _=>?_;split<;>first|exact Calm.pure _|exact Calm.stuck _|(cases hx;done)|skip
  ·refine Calm.bind (Calm.underlying _) fun v _=>?_;split;·exact Calm.pure _
   ·exact Calm.stuck _
 ·exact Calm.stuck _
theorem Calm.capB (ts:Array TypeId) (ty:TypeId) (args:Array Value) (h:args.toList.all sized=true):Calm P (Builtin.cap_ ts ty args):=by
 unfold Builtin.cap_;rw [List.all_eq_true] at h;split;·
  rename_i t x e;have hx:sized x=true:=h x (Array.mem_toList_iff.2 (Array.mem_of_getElem? (by simp only [Prod.mk.injEq] at e;exact e.2)));refine Calm.bind (Calm.underlying _) fun u _=>?_;split<;>first|exact Calm.pure _|exact Calm.stuck _|(cases hx;done)|skip
  ·refine Calm.bind (Calm.underlying _) fun v _=>?_;split;·exact Calm.pure _
   ·exact Calm.stuck _
 ·exact Calm.stuck _
theorem max2_int {x y:Value} (hx:isInt x=true) (hy:isInt y=true):∃ z,Builtin.max2 x y=pure z∧isInt z=true:=by cases x<;>cases y<;>first|(cases hx;done)|(cases hy;done)|exact⟨_,rfl,rfl⟩
theorem min2_int {x y:Value} (hx:isInt x=true) (hy:isInt y=true):∃ z,Builtin.min2 x y=pure z∧isInt z=true:=by cases x<;>cases y<;>first|(cases hx;done)|(cases hy;done)|exact⟨_,rfl,rfl⟩
theorem Pq (f:Value→Value→Sem Value) (hf:∀ x y,isInt x=true→isInt y=true→∃ z,f x y=pure z∧isInt z=true) :
  ∀ (l:List Value) (x:Value),isInt x=true→(∀ y∈l,isInt y=true)→Calm P (l.foldlM f x)
 | [],x,_,_=>Calm.pure _
 | y::l,x,hx,hl=>by
  rw [List.foldlM_cons];obtain⟨z,e,hz⟩:=hf x y hx (hl y i_);rw [e];exact Calm.bind (Calm.pure _) fun a ha=>by rw [ha.pure];exact Pq f hf l z hz fun y hy=>hl y (by simp [hy])
theorem Calm.maxB (ts:Array TypeId) (ty:TypeId) (args:Array Value) (h:args.toList.all isInt=true):Calm P (Builtin.max_ ts ty args):=by
 unfold Builtin.max_;rw [List.all_eq_true] at h;split;·exact Calm.stuck _
 ·rename_i x rest e;have hm:∀ y∈x::rest,isInt y=true:=fun y hy=>h y (by rw [← e] at hy;exact hy);exact Pq _ (fun _ _=>max2_int) rest x (hm x i_) fun y hy=>hm y (by simp [hy])
theorem Calm.minB (ts:Array TypeId) (ty:TypeId) (args:Array Value) (h:args.toList.all isInt=true):Calm P (Builtin.min_ ts ty args):=by
 unfold Builtin.min_;rw [List.all_eq_true] at h;split;·exact Calm.stuck _
 ·rename_i x rest e;have hm:∀ y∈x::rest,isInt y=true:=fun y hy=>h y (by rw [← e] at hy;exact hy);exact Pq _ (fun _ _=>min2_int) rest x (hm x i_) fun y hy=>hm y (by simp [hy])
theorem exec_pure {o:Oper} {ρ:Operand→Value} (hc:cl P o.op=.pure) (hd:Mf ρ o.op=true):Calm P (execOp ρ o)∧Val P (execOp ρ o):=by
 obtain⟨dst,op,type,pos,after,guard⟩:=o;simp only at hc hd;cases op<;>first|(simp only [cl] at hc;cases hc;done)|skip
 case move x=>exact⟨Calm.pure _,Val.pure _⟩
 case assign x=>exact⟨Calm.pure _,Val.pure _⟩
 case pick c a b=>exact⟨Calm.bind (Calm.asBool _) fun _ _=>Calm.pure _,fun n h=>by obtain⟨v,_,h2⟩:=h.bind;exact⟨_,h2.pure⟩⟩
 case build t ps=>exact⟨Calm.wrap (Calm.build _ _),Val.wrap _⟩
 case nilCheck x =>
  simp only [Mf] at hd;simp only [execOp];cases hx:ρ x<;>rw [hx] at hd<;>first|(cases hd;done)|skip
  rename_i q;cases q;·exact⟨(Dead.runtimePanic _).calm,fun n h=>(h.dead (Dead.runtimePanic _)).elim⟩
  ·exact⟨Calm.pure _,Val.pure _⟩
 case binOp op xt x y yt=>exact⟨Calm.wrap (Calm.bind (Calm.eqGuard _ _ _ _ _ _) fun _ _=>Calm.binOp _ _ _ _ hd),Val.wrap _⟩
 case unOp op t x=>exact⟨Calm.wrap (Calm.unary _ _),Val.wrap _⟩
 case convert s d x=>exact⟨Calm.wrap (Calm.convert _ _ _ hd),Val.wrap _⟩
 case slice t x lo hi mx=>exact⟨Calm.wrap (Calm.sliceAt _ _ _ _ _),Val.wrap _⟩
 case fieldAddr s x f =>
  have:Ia P s f=true:=by
   cases hf:Ia P s f;·simp only [cl,hf] at hc;cases hc
   ·rfl
  exact⟨Calm.wrap (Calm.fieldAt _ _ _ this),Val.wrap _⟩
 case field t x f=>exact⟨Calm.wrap (Calm.field _ _ _),Val.wrap _⟩
 case lookup t m x c=>simp only [cl] at hc;split at hc<;>cases hc
 case indexAddr t x i=>exact⟨Calm.wrap (Calm.indexAt _ _ _),Val.wrap _⟩
 case index t x i=>exact⟨Calm.wrap (Calm.index _ _ _),Val.wrap _⟩
 case extract t i=>exact⟨Calm.wrap (Calm.extract _ _),Val.wrap _⟩
 case call c =>
  obtain⟨callee,args,ats⟩:=c;cases callee with
  | builtin b =>
   simp only [cl] at hc;simp only [Mf] at hd;rw [← Array.toList_map] at hd;cases b<;>first|(simp only [clB] at hc;cases hc;done)|skip
   ·exact⟨Calm.wrap (Calm.capB _ _ _ hd),Val.wrap _⟩
   ·exact⟨Calm.wrap (Calm.lenB _ _ _ hd),Val.wrap _⟩
   ·exact⟨Calm.wrap (Calm.maxB _ _ _ hd),Val.wrap _⟩
   ·exact⟨Calm.wrap (Calm.minB _ _ _ hd),Val.wrap _⟩
  | _=>simp only [cl] at hc;cases hc
theorem Stable.loadCellsFrom (a:Addr):∀ (n i:Nat) (acc:Array Value),Stable P (Go.loadCellsFrom a i n acc)
 | 0,i,acc=>(Calm.pure _).stable
 | n+1,i,acc=>by unfold Go.loadCellsFrom;exact Stable.bind (Stable.load _) fun v=>Stable.loadCellsFrom a n (i+1) (acc.push v)
theorem Stable.loadAt (t:TypeId) (x:Value):Stable P (Instr.loadAt t x):=by
 unfold Instr.loadAt;refine Stable.bind (Calm.sureAddr _).stable fun a=>?_;unfold Go.loadVar;refine Stable.bind (Calm.isAgg _).stable fun b=>?_;split;·exact Stable.bind (Calm.sizeOf _).stable fun n=>Stable.bind (Stable.loadCellsFrom _ _ _ _) fun _=>(Calm.pure _).stable
 ·exact Stable.load _
theorem Stable.of_run {α:Type} {s s2:Sem α} (he:∀ w,s.run P w=s2.run P w) (h:Stable P s2):Stable P s:=fun w a w' hr=>by rw [he] at hr;obtain⟨h1,h2⟩:=h w a w' hr;exact⟨h1,fun w2 hx=>by rw [he];exact h2 w2 hx⟩
theorem K7 {t:TypeId} {d:TypeDesc} (ht:P.underlying t=some d) {β:Type} (f:TypeDesc→Sem β) (w:World):(Go.underlying t >>= f).run P w=(f d).run P w:=by
 rw [Sem.run_bind];have hr:(Go.underlying t).run P w=.ok d w:=by unfold Go.underlying;simp [ht]
 rw [hr];rfl
theorem Calm.of_run {α:Type} {s s2:Sem α} (he:∀ w,s.run P w=s2.run P w) (h:Calm P s2):Calm P s:=fun w a w' hr=>by rw [he] at hr;obtain⟨h1,h2⟩:=h w a w' hr;exact⟨h1,fun w2=>by rw [he];exact h2 w2⟩
theorem Calm.equalInt {k:TypeId} {q:IntKind} (hk:P.underlying k=some (.int q)) (x y:Value) (hx:N3 x=true):Calm P (Op.equal k x y):=by
 unfold Op.equal;show Calm P (Op.equalIn _ k x y);generalize Op.maxDepth=d;cases d with
 | zero=>unfold Op.equalIn;exact Calm.unsupported _
 | succ d =>
  unfold Op.equalIn;refine Calm.of_run (fun w=>K7 hk _ w) ?_;dsimp only;split<;>first
   | exact Calm.pure _
   | exact Calm.stuck _
   | exact Calm.unsupported _
   | (cases hx;done)
   | (split<;>first|exact Calm.pure _|exact Calm.stuck _)
   | (simp_all;done)
   | skip
theorem Calm.findAsking {k:TypeId} {q:IntKind} (hk:P.underlying k=some (.int q)) (x:Value) (hx:N3 x=true):∀ (es:List MapEntry) (i:Nat),Calm P (Instr.findAsking k x es i)
 | [],i=>Calm.pure _
 | e::es,i=>by
  unfold Instr.findAsking;refine Calm.bind (Calm.equalInt hk x _ hx) fun b _=>?_;cases b;·exact Calm.findAsking hk x hx es (i+1)
  ·exact Calm.pure _
theorem Stable.getObj (b:Nat):Stable P (Go.getObj b):=by
 intro w a w' hr;simp only [Go.getObj,Sem.run] at hr ⊢;cases hh:w.heap[b]? with
 | none=>rw [hh] at hr;simp at hr
 | some o =>have hb:b<w.heap.size:=(Array.getElem?_eq_some_iff.1 hh).1;rw [hh] at hr;cases o<;>simp at hr<;>(obtain⟨rfl,rfl⟩:=hr;exact⟨rfl,fun w2 hx=>by rw [hx b hb,hh]⟩)
theorem Stable.lookup {t k e:TypeId} {q:IntKind} (ht:P.underlying t=some (.map k e)) (hk:P.underlying k=some (.int q)) (x y:Value) (hy:N3 y=true) (c:Bool):Stable P (Instr.lookup t x y c):=by
 unfold Instr.lookup;refine Stable.of_run (fun w=>K7 ht _ w) ?_;simp only;have tail:∀ es:Array MapEntry,Stable P (do
   Instr.checkKey es.isEmpty 10000 k y
   let r ← Instr.findKey k y es.toList
   let (v,ok) ← match r with
    | some (_,v)=>pure (v,true)
    | none=>do
     let z ← Go.zeroValue e
     pure (z,false)
   pure (if c then Value.tuple #[v,.bool ok] else v):Sem Value):=fun es=>by
  refine Stable.bind ?_ fun _=>?_;·
   refine Calm.stable ?_;unfold Instr.checkKey;refine Calm.of_run (fun w=>K7 hk _ w) ?_;cases y<;>exact Calm.pure _
  ·refine Stable.bind ?_ fun r=>?_;·
    refine Calm.stable ?_;unfold Instr.findKey;refine Calm.of_run (fun w=>K7 hk _ w) ?_;split;·exact Calm.pure _
    ·exact Calm.findAsking hk y hy _ _
   ·cases r with
    | none =>refine Stable.bind ?_ fun _=>(Calm.pure _).stable;exact (Calm.zeroValue _).stable
    | some p=>exact Stable.bind (Calm.pure _).stable fun _=>(Calm.pure _).stable
 cases x<;>first|exact (Calm.stuck _).stable|skip
 rename_i r;cases r with
 | none=>exact tail #[]
 | some r =>refine Stable.bind (Stable.getObj r) fun o=>?_;cases o<;>first|exact (Calm.stuck _).stable|exact tail _
theorem Kj {o:Oper} {ρ:Operand→Value} (hc:cl P o.op=.load) (hd:Mf ρ o.op=true):Stable P (execOp ρ o)∧Val P (execOp ρ o):=by
 obtain⟨dst,op,type,pos,after,guard⟩:=o;simp only at hc;cases op<;>first|(simp only [cl] at hc;cases hc;done)|skip
 case fieldAddr s x f=>simp only [cl] at hc;split at hc<;>cases hc
 case load t x=>exact⟨Stable.wrap (Stable.loadAt _ _),Val.wrap _⟩
 case lookup t m x c =>
  simp only [cl] at hc;split at hc;·
   rename_i hi;unfold Tw at hi;split at hi;·
    rename_i k e ht;split at hi;·
     rename_i q hk;exact⟨Stable.wrap (Stable.lookup ht hk _ _ hd _),Val.wrap _⟩
    ·cases hi
   ·cases hi
  ·cases hc
 case call c =>
  obtain⟨callee,args,ats⟩:=c;cases callee with
  | builtin b=>simp only [cl] at hc;cases b<;>cases hc
  | _=>simp only [cl] at hc;cases hc
theorem Grows.newVar (t:TypeId) (v:Value):Grows P (Go.newVar t v):=by unfold Go.newVar Go.newRow;exact Grows.bind (Grows.new _) fun _=>(Calm.pure _).grows
theorem Py {o:Oper} {ρ:Operand→Value} (hc:cl P o.op=.alloc):Grows P (execOp ρ o)∧Val P (execOp ρ o):=by
 obtain⟨dst,op,type,pos,after,guard⟩:=o;simp only at hc;cases op<;>first|(simp only [cl] at hc;cases hc;done)|skip
 case fieldAddr s x f=>simp only [cl] at hc;split at hc<;>cases hc
 case lookup t m x c=>simp only [cl] at hc;split at hc<;>cases hc
 case alloc e =>refine⟨Grows.wrap ?_,Val.wrap _⟩;show Grows P (do let zero ← zeroValue e;pure (Value.pointer (some (← Go.newVar e zero))));exact Grows.bind (Calm.zeroValue _).grows fun z=>Grows.bind (Grows.newVar _ _) fun _=>(Calm.pure _).grows
 case box e x=>exact⟨Grows.wrap (Grows.bind (Grows.newVar _ _) fun _=>(Calm.pure _).grows),Val.wrap _⟩
 case buildSlice t n ps =>
  refine⟨Grows.wrap ?_,Val.wrap _⟩;unfold Instr.buildSlice;refine Grows.bind (Calm.underlying _).grows fun u=>?_;split;·
   rename_i elem;refine Grows.bind (Calm.sizeOf _).grows fun size=>?_;have tail:∀ zero:Array Value,Grows P (match
     Instr.fill (fun i=>some (i*size,size)) (Array.map (fun x=>zero[x % zero.size]!) (Array.range (n*size)))
      (Array.map (fun x=>match x with|(i,x)=>(i,ρ x)) ps).toList with
    | some cells=>do
     let a ← newRow elem cells
     pure (Value.slice (some a) n n)
        | x => stuck "buildSlice: a part of the wrong size") := fun zero => by
    split;·
     refine Grows.bind (show Grows P (Go.newRow _ _) from ?_) fun _=>(Calm.pure _).grows;unfold Go.newRow;exact Grows.bind (Grows.new _) fun _=>(Calm.pure _).grows
    ·exact (Calm.stuck _).grows
   dsimp only;by_cases h1:n*size > 2 ^ 24;·
    rw [if_pos h1];exact ((Dead.bind_left _ (Dead.halt _)).calm).grows
   ·rw [if_neg h1];by_cases h2:n*size=0;·
     rw [if_pos h2];exact Grows.bind (Calm.pure _).grows fun z=>tail z
    ·rw [if_neg h2];exact Grows.bind (Calm.zeroValue _).grows fun z=>Grows.bind (Calm.pure _).grows fun z=>tail z
  ·exact (Calm.stuck _).grows
 case call c =>
  obtain⟨callee,args,ats⟩:=c;cases callee with
  | builtin b=>simp only [cl] at hc;cases b<;>cases hc
  | _=>simp only [cl] at hc;cases hc
end
end Go.Proofs.Rg
namespace Go.Proofs.Rg
open Go
def Aj (ops:Array Oper) (o:Oper) (a:Act):Bool:=Mf a.eval o.op || !(Region.wanted o (yielded ops a.tmps))
def Sd (ops:Array Oper) (a:Act):Bool:=ops.toList.all fun o=>Aj ops o a
def Strict (ops:Array Oper) (K:Act→World→Prop):Exit→Act→World→Prop
 | .normal,a,w=>Sd ops a=true∧K a w
 | _,_,_=>False
def B1:Op→Bool
 | .nilCheck _|.binOp ..|.convert ..|.lookup ..=>false
 | .call { callee:=.builtin _,.. }=>false
 | _=>true
theorem Cd {op:Op} (h:B1 op=true) (ρ:Operand→Value):Mf ρ op=true:=by
 cases op<;>first|rfl|(cases h;done)|skip
 rename_i c;obtain⟨callee,args,ats⟩:=c;cases callee<;>first|rfl|(cases h;done)
def writes (o:Oper) (ts:List Tmp):Bool:=match o.dst with
 | some d=>ts.contains d
 | none=>false
def Xb (x y:Cl):Bool:=x == .pure || y == .pure || (x == .load && (y == .load || y == .alloc))
def Vw (o:Oper) (j:Nat):Bool:=o.after.all fun e=>!Region.binds .any e || decide (e.on<j)
def Jq (b:Array Nat) (o:Oper) (j:Nat):Bool :=
 (List.range j).all fun i=>!(b.getD j 0).testBit i || o.after.any fun e=>Region.binds .any e && (e.on == i || (decide (i<e.on) && (b.getD e.on 0).testBit i))
def Ur (ops:Array Oper) (b:Array Nat) (o:Oper) (j:Nat):Bool :=
 B1 o.op || (List.range ops.size).all fun z=>match ops[z]? with
  | some oz=>!writes oz (o.looksAt ops) || (decide (z<j) && (b.getD j 0).testBit z)
  | none=>true
def Ve (P:Program) (ops:Array Oper) (b:Array Nat) (o:Oper) (j:Nat):Bool :=
 (List.range j).all fun i=>(b.getD j 0).testBit i || match ops[i]? with
  | some oi=>oi.apart ops o && Xb (cl P oi.op) (cl P o.op)
  | none=>true
def Ru (P:Program) (ops:Array Oper) (b:Array Nat):Bool :=
 Region.noSelect ops && (List.range ops.size).all fun j=>match ops[j]? with
  | some o=>Vw o j && Jq b o j && Ur ops b o j && Ve P ops b o j
  | none=>true
def sortOK (P:Program) (ops:Array Oper):Bool:=Ru P ops (Region.before ops)
section
variable {P:Program} {ops:Array Oper} {K0:Act→World→Prop}
theorem Strict.noRoom:¬ LetsOut (Strict ops K0):=fun ⟨a,w,h⟩=>h
theorem E5 {a a':Act} (h:a'.tmps=a.tmps) (x:Operand):a'.eval x=a.eval x:=by cases x<;>simp [Act.eval,h]
theorem looksAt_operand {o:Oper} {x:Operand} (hx:x∈o.op.operands) {d:Tmp} (hd:d∉o.looksAt ops):x≠.tmp d:=fun e=>by subst e;exact hd (List.mem_append_left _ (List.mem_filterMap.2 ⟨.tmp d,by simpa using hx,rfl⟩))
theorem dynOp_congr {op:Op} {ρ ρ':Operand→Value} (h:∀ x∈op.operands,ρ x=ρ' x):Mf ρ op=Mf ρ' op:=by
 cases op<;>simp only [Op.operands] at h<;>first|rfl|skip
 case nilCheck x =>have e:=h x i_;show (match ρ x with|.pointer _=>true|_=>false)=(match ρ' x with|.pointer _=>true|_=>false);rw [e]
 case binOp op t x y yt =>show Pz op (ρ x) (ρ y)=Pz op (ρ' x) (ρ' y);rw [h x i_,h y i_]
 case convert s d x =>show isInt (ρ x)=isInt (ρ' x);rw [h x i_]
 case lookup t m x c =>show N3 (ρ x)=N3 (ρ' x);rw [h x i_]
 case call c =>
  obtain⟨callee,args,ats⟩:=c;cases callee<;>first|rfl|skip
  rename_i b;show dynB b (args.toList.map ρ)=dynB b (args.toList.map ρ');rw [List.map_congr_left fun x hx=>h x (by simp at hx;simp [Call.operands,hx])]
theorem Ib {a:Act} {o:Oper} {dst:Option Tmp} {v:Value} (h:∀ d,dst=some d→d∉o.looksAt ops) {x:Operand} (hx:x∈o.op.operands) :
  (a.put dst v).eval x=a.eval x:=Act.eval_put fun d hd=>looksAt_operand hx (h d hd)
theorem Bq {o:Oper} {a a':Act} {dst:Option Tmp} {v:Value} (ht:a'.tmps=(a.put dst v).tmps) (h:∀ d,dst=some d→d∉o.looksAt ops) :
  Aj ops o a'=Aj ops o a:=by
 unfold Aj;rw [ht,wanted_put o a dst v h,dynOp_congr (ρ':=a.eval) fun x hx=>by rw [E5 ht,Ib h hx]]
theorem Bm {o:Oper} {ts:List Tmp} (h:writes o ts=false):∀ d,o.dst=some d→d∉ts:=fun d hd=>by simp [writes,hd] at h;exact h
theorem ran {i:Nat} {o:Oper} (hi:ops[i]?=some o) {K:Act→World→Prop} {a:Act} {w:World} (hw:Region.wanted o (yielded ops a.tmps)=true)
  (h:wpOp P ops (Strict ops K0) i K a w):o.upon P a K (Strict ops K0) ((execOp a.eval o).run P w)∧∃ n w1,(execOp a.eval o).run P w=.ok n w1:=by
 unfold wpOp at h;simp only [hi,hw,if_true] at h;rcases h with h|h
 ·refine⟨h,?_⟩;unfold Oper.wp at h;generalize (execOp a.eval o).run P w=r at h;cases r with
  | ok n w'=>exact⟨n,w',rfl⟩
  | halt x w'=>cases x<;>simp only [Oper.upon] at h;exact h.elim
 ·exact (Strict.noRoom h.2).elim
theorem Qp {i:Nat} {o:Oper} (hi:ops[i]?=some o) {K:Act→World→Prop} {a:Act} {w:World}
  (h:wpOp P ops (Strict ops K0) i K a w):∃ v a' w',a'.tmps=(a.put o.dst v).tmps∧K a' w':=by
 cases hw:Region.wanted o (yielded ops a.tmps) with
 | false =>unfold wpOp at h;simp only [hi,hw,Bool.false_eq_true,if_false] at h;exact⟨_,_,_,rfl,h⟩
 | true =>
  obtain⟨h,n,w1,hr⟩:=ran hi hw h;rw [hr] at h;cases n<;>simp only [Oper.upon] at h;case value v=>exact⟨_,_,_,rfl,h⟩
  case skip=>exact⟨_,_,_,rfl,h⟩
  case defer d=>exact⟨_,_,_,by rw [← Act.put_defers],h⟩
  case enter f args =>
   obtain⟨e,w2,fr,hR,_⟩:=h [];cases e with
   | returned v=>exact⟨_,_,_,rfl,hR⟩
   | panicked c=>exact hR.elim
   | outgrown=>exact (Strict.noRoom hR).elim
  case row row args =>obtain⟨v,w2,hR,_⟩:=h default [];exact⟨_,_,_,rfl,hR⟩
theorem final {o:Oper} {j:Nat} (hj:ops[j]?=some o):∀ (l:List Nat) (a:Act) (w:World),wpOps P ops (Strict ops K0) l a w →
  (∀ k∈l,∀ ok,ops[k]?=some ok→writes ok (o.looksAt ops)=false)→Aj ops o a=true
 | [],a,w,h,_=>by have h1:Sd ops a=true:=h.1;exact List.all_eq_true.1 h1 o (by simpa using Array.mem_of_getElem? hj)
 | k::l,a,w,h,hl=>by
  rw [wpOps_cons] at h;cases hk:ops[k]? with
  | none =>unfold wpOp at h;simp only [hk] at h;exact final hj l a w h fun z hz=>hl z (List.mem_cons_of_mem _ hz)
  | some ok =>obtain⟨v,a',w',ht,h'⟩:=Qp hk h;have:=final hj l a' w' h' fun z hz=>hl z (List.mem_cons_of_mem _ hz);rw [Bq ht (Bm (hl k i_ ok hk))] at this;exact this
theorem Yields.inv {i:Nat} {o:Oper} {v:Value} {a:Act} (hi:ops[i]?=some o) (hy:Yields P ops o v a) {K:Act→World→Prop} {w:World}
  (h:wpOp P ops (Strict ops K0) i K a w):K (a.put o.dst v) w:=by
 rcases hy with ⟨hw,hv⟩|⟨hw,rfl⟩
 ·obtain⟨h,_⟩:=ran hi hw h;rw [hv w] at h;exact h
 ·unfold wpOp at h;simp only [hi,hw,Bool.false_eq_true,if_false] at h;exact h
theorem V5 {i:Nat} {oi oj:Oper} {v:Value} (hi:ops[i]?=some oi) (hap:oj.apart ops oi=true)
  (hsi:∀ cs b,oi.op≠.select cs b) (hsj:∀ cs b,oj.op≠.select cs b) {K:Act→World→Prop} {a:Act} {w:World}
  (hy:Yields P ops oj v a) (h:wpOp P ops (Strict ops K0) i (fun a' w'=>Yields P ops oj v a'→K (a'.put oj.dst v) w') a w) :
  wpOp P ops (Strict ops K0) i K (a.put oj.dst v) w:=by
 obtain⟨h1,h2,h3⟩:=Oper.apart_spec hap;have keep:∀ (a:Act),Yields P ops oj v a→∀ u,Yields P ops oj v (a.put oi.dst u):=fun a hy u =>
  hy.of_same (execOp_put oj hsj a oi.dst u h3) (wanted_put oj a oi.dst u h3)
 have keepD:∀ d,Yields P ops oj v { a with defers:=d::a.defers }:=fun d=>hy.of_same rfl rfl;have comm:∀ (a:Act) u,(a.put oj.dst v).put oi.dst u=(a.put oi.dst u).put oj.dst v:=fun a u=>Act.put_comm a v u h2;cases hw:Region.wanted oi (yielded ops a.tmps) with
 | false =>
  have hw':Region.wanted oi (yielded ops (a.put oj.dst v).tmps)=false:=by rw [wanted_put oi a oj.dst v h1];exact hw
  unfold wpOp at h ⊢;simp only [hi,hw,hw',Bool.false_eq_true,if_false] at h ⊢;rw [comm];exact h (keep a hy _)
 | true =>
  have hw':Region.wanted oi (yielded ops (a.put oj.dst v).tmps)=true:=by rw [wanted_put oi a oj.dst v h1];exact hw
  obtain⟨h,_⟩:=ran hi hw h;unfold wpOp;simp only [hi,hw',if_true];refine .inl ?_;unfold Oper.wp;rw [execOp_put oi hsi a oj.dst v h1];generalize (execOp a.eval oi).run P w=r at h ⊢;cases r with
  | ok n w' =>
   cases n<;>simp only [Oper.upon] at h ⊢;case value u=>rw [comm];exact h (keep a hy u)
   case skip=>rw [comm];exact h (keep a hy _)
   case defer d =>have:=h (keep _ (keepD d) _);rw [← Act.put_comm _ v undef h2,← Act.put_defers] at this;exact this
   case enter f args =>
    refine Calls.mono h fun e w'' he=>?_;cases e with
    | returned u=>simp only at he ⊢;rw [comm];exact he (keep a hy u)
    | panicked c=>exact he
    | outgrown=>exact he
   case row row args=>exact Rows.mono h fun u w'' he=>by rw [comm];exact he (keep a hy u)
  | halt x w' =>cases x<;>simp only [Oper.upon] at h ⊢;case panic u=>exact h
theorem Dh {i:Nat} {o:Oper} (hi:ops[i]?=some o) (hc:cl P o.op=.pure) {K:Act→World→Prop} {a:Act} {w:World}
  (hd:Aj ops o a=true) (h:wpOp P ops (Strict ops K0) i K a w):∃ v,Yields P ops o v a:=by
 cases hw:Region.wanted o (yielded ops a.tmps) with
 | false=>exact⟨undef,.inr ⟨hw,rfl⟩⟩
 | true =>
  have hdyn:Mf a.eval o.op=true:=by simpa [Aj,hw] using hd
  obtain⟨hcalm,hval⟩:=exec_pure (P:=P) hc hdyn;obtain⟨_,n,w1,hr⟩:=ran hi hw h;obtain⟨v,rfl⟩:=hval n ⟨_,_,hr⟩;exact⟨v,.inl ⟨hw,(hcalm _ _ _ hr).2⟩⟩
theorem Ox {i j:Nat} {oi oj:Oper} (hi:ops[i]?=some oi) (hj:ops[j]?=some oj) (hap:oi.apart ops oj=true)
  (hsi:∀ cs b,oi.op≠.select cs b) (hsj:∀ cs b,oj.op≠.select cs b) {K:Act→World→Prop} {a:Act} {w:World} {v:Value} (hy:Yields P ops oi v a)
  (h:wpOp P ops (Strict ops K0) i (wpOp P ops (Strict ops K0) j K) a w):wpOp P ops (Strict ops K0) j (wpOp P ops (Strict ops K0) i K) a w :=
 wpOp_mono (fun _ _ ⟨hy',hk⟩=>Yields.wpOp hi hy' hk) (wpOp_put hj hap hsi hsj (fun _ _ _ h=>h) hy (Yields.inv hi hy h))
theorem Qa {x y:Oper} (h:x.apart ops y=true):y.apart ops x=true:=by
 obtain⟨h1,h2,h3⟩:=Oper.apart_spec h;unfold Oper.apart;cases hx:x.dst<;>cases hy:y.dst;·rfl
 ·rename_i d;have:=h3 d hy;simp [this]
 ·rename_i d;have:=h1 d hx;simp [this]
 ·rename_i d e;have a1:=h1 d hx;have a3:=h3 e hy;have a2:=h2 d hx;have:e≠d:=fun q=>a2 (by rw [hy,q]);simp [a1,a3,Ne.symm this]
theorem Gg {i j:Nat} {oi oj:Oper} (hi:ops[i]?=some oi) (hj:ops[j]?=some oj) (hap:oi.apart ops oj=true)
  (hsi:∀ cs b,oi.op≠.select cs b) (hsj:∀ cs b,oj.op≠.select cs b) {K:Act→World→Prop} {a:Act} {w:World} {v:Value} (hy:Yields P ops oj v a)
  (h:wpOp P ops (Strict ops K0) i (wpOp P ops (Strict ops K0) j K) a w):wpOp P ops (Strict ops K0) j (wpOp P ops (Strict ops K0) i K) a w :=
 Yields.wpOp hj hy (V5 hi (Qa hap) hsi hsj hy (wpOp_mono (fun _ _ hk hy'=>Yields.inv hj hy' hk) h))
theorem swap {i j:Nat} {oi oj:Oper} (hi:ops[i]?=some oi) (hj:ops[j]?=some oj) (hap:oi.apart ops oj=true)
  (hsi:∀ cs b,oi.op≠.select cs b) (hsj:∀ cs b,oj.op≠.select cs b) (hcl:Xb (cl P oi.op) (cl P oj.op)=true)
  (hwi:B1 oi.op=true∨writes oi (oi.looksAt ops)=false) (hwj:B1 oj.op=true∨writes oj (oj.looksAt ops)=false) {K:Act→World→Prop}
  (hK:∀ a w,K a w→Aj ops oi a=true∧Aj ops oj a=true) {a:Act} {w:World}
  (h:wpOp P ops (Strict ops K0) i (wpOp P ops (Strict ops K0) j K) a w):wpOp P ops (Strict ops K0) j (wpOp P ops (Strict ops K0) i K) a w:=by
 obtain⟨h1,h2,h3⟩:=Oper.apart_spec hap;obtain⟨u,a1,w1,ht1,hr1⟩:=Qp hi h;obtain⟨v,a2,w2,ht2,hr2⟩:=Qp hj hr1;have hdi:Aj ops oi a=true:=by
  rcases hwi with hwi|hwi
  ·unfold Aj;rw [Cd hwi];rfl
  ·have:=(hK _ _ hr2).1;rw [Bq ht2 h3,Bq ht1 (Bm hwi)] at this;exact this
 have hdj:Aj ops oj a1=true:=by
  rcases hwj with hwj|hwj
  ·unfold Aj;rw [Cd hwj];rfl
  ·have:=(hK _ _ hr2).2;rw [Bq ht2 (Bm hwj)] at this;exact this
 have hsame:∀ {v},Yields P ops oj v a1→Yields P ops oj v a:=fun hy=>by
  refine hy.of_same ?_ ?_;·
   refine execOp_congr oj hsj fun x hx=>?_;rw [E5 ht1,Ib h1 hx]
  ·rw [ht1,wanted_put oj a oi.dst u h1]
 cases hci:cl P oi.op with
 | pure=>obtain⟨v,hy⟩:=Dh hi hci hdi h;exact Ox hi hj hap hsi hsj hy h
 | load =>
  cases hwa:Region.wanted oi (yielded ops a.tmps) with
  | false=>exact Ox hi hj hap hsi hsj (.inr ⟨hwa,rfl⟩) h
  | true =>
   have second:cl P oj.op=.pure→wpOp P ops (Strict ops K0) j (wpOp P ops (Strict ops K0) i K) a w:=fun hcj=>by obtain⟨v,hy⟩:=Dh hj hcj hdj hr1;exact Gg hi hj hap hsi hsj (hsame hy) h
   have both:(∀ n w1 w0,Region.wanted oj (yielded ops a.tmps)=true→(execOp a.eval oj).run P w0=.ok n w1→Ext w0 w1∧∃ v,n=.value v)→wpOp P ops (Strict ops K0) j (wpOp P ops (Strict ops K0) i K) a w:=fun hgrow=>by
    cases hwb:Region.wanted oj (yielded ops a.tmps) with
    | false=>exact Gg hi hj hap hsi hsj (.inr ⟨hwb,rfl⟩) h
    | true =>
     obtain⟨hst,hval⟩:=Kj (P:=P) (ρ:=a.eval) hci (by simpa [Aj,hwa] using hdi);obtain⟨hu,n,w1,hr⟩:=ran hi hwa h;obtain⟨x,rfl⟩:=hval n ⟨_,_,hr⟩;obtain⟨rfl,hlater⟩:=hst _ _ _ hr;rw [hr] at hu;have hu:wpOp P ops (Strict ops K0) j K (a.put oi.dst x) w1:=hu;have hwb':Region.wanted oj (yielded ops (a.put oi.dst x).tmps)=true:=(by rw [wanted_put oj a oi.dst x h1];exact hwb);obtain⟨hu2,m,w3,hr3⟩:=ran hj hwb' hu;rw [execOp_put oj hsj a oi.dst x h1] at hu2 hr3;obtain⟨hext,y,rfl⟩:=hgrow _ _ _ hwb hr3;rw [hr3] at hu2;have hu2:K ((a.put oi.dst x).put oj.dst y) w3:=hu2;unfold wpOp;simp only [hj,hwb,if_true];refine .inl ?_;unfold Oper.wp;rw [hr3];show (match ops[i]? with
      | none=>_
      | some o=>_:Prop)
     have hwa':Region.wanted oi (yielded ops (a.put oj.dst y).tmps)=true:=(by rw [wanted_put oi a oj.dst y h3];exact hwa);simp only [hi,hwa',if_true];refine .inl ?_;show Oper.upon P oi (a.put oj.dst y) K (Strict ops K0) (Sem.run P (execOp (a.put oj.dst y).eval oi) w3);rw [execOp_put oi hsi a oj.dst y h3,hlater _ hext];show K _ _;rw [← Act.put_comm a x y h2];exact hu2
   cases hcj:cl P oj.op with
   | pure=>exact second hcj
   | load =>
    refine both fun n w1 w0 hwb hr=>?_;·
     obtain⟨hs,hv⟩:=Kj (P:=P) (ρ:=a.eval) hcj (by have hdj2:=hdj;rw [Bq ht1 h1] at hdj2;simpa [Aj,hwb] using hdj2);obtain⟨rfl,_⟩:=hs _ _ _ hr;exact⟨Ext.refl _,hv _ ⟨_,_,hr⟩⟩
   | alloc =>
    refine both fun n w1 w0 hwb hr=>?_;·
     obtain⟨hs,hv⟩:=Py (P:=P) (ρ:=a.eval) hcj;exact⟨hs _ _ _ hr,hv _ ⟨_,_,hr⟩⟩
   | any=>rw [hci,hcj] at hcl;cases hcl
 | alloc =>
  cases hcj:cl P oj.op with
  | pure=>obtain⟨v,hy⟩:=Dh hj hcj hdj hr1;exact Gg hi hj hap hsi hsj (hsame hy) h
  | _=>rw [hci,hcj] at hcl;cases hcl
 | any =>
  cases hcj:cl P oj.op with
  | pure=>obtain⟨v,hy⟩:=Dh hj hcj hdj hr1;exact Gg hi hj hap hsi hsj (hsame hy) h
  | _=>rw [hci,hcj] at hcl;cases hcl
structure Checked (P:Program) (ops:Array Oper) (b:Array Nat):Prop where
 select:Region.noSelect ops=true
 each:∀ j o,ops[j]?=some o→Vw o j=true∧Jq b o j=true∧Ur ops b o j=true∧Ve P ops b o j=true
theorem Checked.of {b:Array Nat} (h:Ru P ops b=true):Checked P ops b:=by unfold Ru at h;rw [Bool.and_eq_true] at h;refine⟨h.1,fun j o hj=>?_⟩;have:=List.all_eq_true.1 h.2 j (List.mem_range.2 (Array.getElem?_eq_some_iff.1 hj).1);simp only [hj,Bool.and_eq_true] at this;exact⟨this.1.1.1,this.1.1.2,this.1.2,this.2⟩
variable {b:Array Nat}
theorem Checked.look (C:Checked P ops b) {j z:Nat} {o oz:Oper} (hj:ops[j]?=some o) (hz:ops[z]?=some oz) (hn:¬ (z<j∧(b.getD j 0).testBit z=true)) :
  B1 o.op=true∨writes oz (o.looksAt ops)=false:=by
 have h:=(C.each j o hj).2.2.1;unfold Ur at h;rw [Bool.or_eq_true] at h;rcases h with h|h
 ·exact .inl h
 ·right;have:=List.all_eq_true.1 h z (List.mem_range.2 (Array.getElem?_eq_some_iff.1 hz).1);simp only [hz,Bool.or_eq_true,Bool.not_eq_true',Bool.and_eq_true,decide_eq_true_eq] at this;rcases this with h|h
  ·exact h
  ·exact absurd h hn
theorem Checked.pair (C:Checked P ops b) {i j:Nat} {oi oj:Oper} (hi:ops[i]?=some oi) (hj:ops[j]?=some oj) (hlt:i<j) (hn:(b.getD j 0).testBit i=false) :
  oi.apart ops oj=true∧Xb (cl P oi.op) (cl P oj.op)=true:=by
 have:=List.all_eq_true.1 (C.each j oj hj).2.2.2 i (List.mem_range.2 hlt);simp only [hi,hn,Bool.false_or,Bool.and_eq_true] at this;exact this
theorem bubble (C:Checked P ops b) {i:Nat} {oi:Oper} (hi:ops[i]?=some oi) (l2:List Nat) (hl2:∀ z∈l2,i<z):∀ (l1:List Nat),(l1++i::l2).Pairwise (·<·) →
  (∀ z∈l1,z<ops.size)→(∀ z∈l1,(b.getD i 0).testBit z=false)→∀ (a:Act) (w:World),wpOps P ops (Strict ops K0) (l1++i::l2) a w →
  wpOp P ops (Strict ops K0) i (wpOps P ops (Strict ops K0) (l1++l2)) a w
 | [],_,_,_,a,w,h=>by simpa [wpOps_cons] using h
 | k::l1,hs,hlt,hn,a,w,h=>by
  simp only [List.cons_append] at h ⊢ hs;rw [wpOps_cons] at h;have hs':=List.pairwise_cons.1 hs;have h:=wpOp_mono (fun a w h=>bubble C hi l2 hl2 l1 hs'.2 (fun z hz=>hlt z (by simp [hz])) (fun z hz=>hn z (by simp [hz])) a w h) h;have hk:∃ ok,ops[k]?=some ok:=⟨_,Array.getElem?_eq_getElem (hlt k i_)⟩;obtain⟨ok,hk⟩:=hk;have hki:k<i:=hs'.1 i i_;obtain⟨hap,hcl⟩:=C.pair hk hi hki (hn k i_);have hself:∀ {j o},ops[j]?=some o→B1 o.op=true∨writes o (o.looksAt ops)=false:=fun hj=>C.look hj hj o_;refine wpOp_mono (fun a w h=>by rw [wpOps_cons];exact h) (swap hk hi hap (Region.noSelect_spec C.select k ok · · hk) (Region.noSelect_spec C.select i oi · · hi) hcl (hself hk) (hself hi) (fun a w hK=>?_) h);have fin:∀ {j o},ops[j]?=some o→(∀ z∈l1++l2,¬ (z<j∧(b.getD j 0).testBit z=true))→Aj ops o a=true:=fun {j o} hj hz=>by
   cases htr:B1 o.op with
   | true=>unfold Aj;rw [Cd htr];rfl
   | false=>exact final hj _ a w hK fun z hzm oz hoz=>(C.look hj hoz (hz z hzm)).resolve_left (by rw [htr];exact Bool.false_ne_true)
  refine⟨fin hk fun z hz hh=>?_,fin hi fun z hz hh=>?_⟩;·
   have:k<z:=hs'.1 z (by rcases List.mem_append.1 hz with h|h<;>simp [h]);omega
  ·rcases List.mem_append.1 hz with hz|hz
   ·rw [hn z (by simp [hz])] at hh;cases hh.2
   ·have:=hl2 z hz;omega
def Closed (ops:Array Oper) (listed:Array Bool):Prop:=∀ j o,ops[j]?=some o→listed.getD j true=true→∀ e∈o.after,Region.binds .any e=true→listed.getD e.on false=true
theorem mask_listed (C:Checked P ops b) {listed:Array Bool} (hc:Closed ops listed) (hsz:listed.size=ops.size):∀ (d j:Nat) (o:Oper),j=d→ops[j]?=some o →
  (∀ e∈o.after,Region.binds .any e=true→listed.getD e.on false=true)→∀ i,i<j→(b.getD j 0).testBit i=true→listed.getD i false=true:=by
 intro d
 induction d using Nat.strongRecOn with
 | _ d ih =>
  intro j o hd hj hall i hij hb;obtain⟨he,hm,_,_⟩:=C.each j o hj;have:=List.all_eq_true.1 hm i (List.mem_range.2 hij);rw [hb] at this;simp only [Bool.not_true,Bool.false_or] at this;obtain⟨e,hem,h2⟩:=Array.any_eq_true'.1 this;simp only [Bool.and_eq_true,Bool.or_eq_true,beq_iff_eq,decide_eq_true_eq] at h2;have hon:=hall e hem h2.1;rcases h2.2 with h3|h3
  ·rw [← h3];exact hon
  ·have hej:e.on<j:=by
    have:=Array.all_eq_true_iff_forall_mem.1 he e hem;simp only [h2.1,Bool.not_true,Bool.false_or,decide_eq_true_eq] at this;exact this
   have hlt:e.on<ops.size:=by have:=(Array.getElem?_eq_some_iff.1 hj).1;omega
   have hoe:ops[e.on]?=some ops[e.on]:=Array.getElem?_eq_getElem hlt;refine ih e.on o_ e.on _ rfl hoe (hc _ _ hoe ?_) i h3.1 h3.2;have:e.on<listed.size:=o_;simp [this] at hon ⊢;exact hon
theorem Qb (C:Checked P ops b):∀ (fuel:Nat) (l:List Nat) (listed:Array Bool) (a:Act) (w:World),l.length=fuel→listed.size=ops.size→l.Pairwise (·<·) →
  (∀ k,k∈l↔k<ops.size∧listed.getD k true=false)→Closed ops listed→wpOps P ops (Strict ops K0) l a w→wpAny P .any ops (Strict ops K0) fuel listed a w
 | 0,l,listed,a,w,hf,hsz,hs,hm,hc,h=>by obtain rfl:=List.eq_nil_of_length_eq_zero hf;refine⟨?_,h⟩;refine List.eq_nil_iff_forall_not_mem.2 fun j hj=>?_;obtain⟨h1,o,h2,_⟩:=mem_ready.1 hj;have:=(hm j).2 ⟨(Array.getElem?_eq_some_iff.1 h2).1,h1⟩;cases this
 | fuel+1,l,listed,a,w,hf,hsz,hs,hm,hc,h=>by
  refine⟨fun hr=>?_,fun i hi=>?_⟩;·
   exfalso;cases l with
   | nil=>cases hf
   | cons k l =>
    obtain⟨hk,hkl⟩:=(hm k).1 i_;have hok:ops[k]?=some ops[k]:=Array.getElem?_eq_getElem hk;have:k∈Region.ready .any ops listed:=mem_ready.2 ⟨hkl,_,hok,fun e he hb=>by
     have hej:e.on<k:=by
      have:=Array.all_eq_true_iff_forall_mem.1 (C.each k _ hok).1 e he
      simp only [hb,Bool.not_true,Bool.false_or,decide_eq_true_eq] at this
      exact this
     cases hl:listed.getD e.on true with
     | true =>
      have hlt:e.on<listed.size:=o_
      simp [hlt] at hl ⊢;exact hl
     | false =>
      have:=(hm e.on).2 ⟨o_,hl⟩
      rcases List.mem_cons.1 this with h1|h1
      ·omega
      ·have:=(List.pairwise_cons.1 hs).1 _ h1;omega⟩
    rw [hr] at this;cases this
  ·obtain⟨h1,oi,h2,hall⟩:=mem_ready.1 hi;have hin:i<ops.size:=(Array.getElem?_eq_some_iff.1 h2).1;obtain⟨l1,l2,rfl⟩:=List.append_of_mem ((hm i).2 ⟨hin,h1⟩);have hpw:=List.pairwise_append.1 hs;have hnot1:i∉l1:=fun hx=>(by have:=hpw.2.2 i hx i i_;omega);have hnot2:i∉l2:=fun hx=>(by have:=(List.pairwise_cons.1 hpw.2.1).1 i hx;omega);refine wpOp_mono (fun a w h=>Qb C fuel (l1++l2) _ a w ?_ (by simp [hsz]) ?_ (fun k=>?_) ?_ h) (bubble C h2 l2 (fun z hz=>(List.pairwise_cons.1 hpw.2.1).1 z hz) l1 hs (fun z hz=>((hm z).1 (by simp [hz])).1) (fun z hz=>?_) a w h);·simp at hf ⊢;omega
   ·exact hs.sublist (List.Sublist.append (List.Sublist.refl _) (List.sublist_cons_self _ _))
   ·by_cases hki:k=i;·
     subst hki;have hlt:k<listed.size:=o_
     simp [hnot1,hnot2,hlt]
    ·rw [getD_set_ne true (fun e=>hki e.symm),← hm k];simp [hki]
   ·intro j o hj hl e he hb;by_cases hji:j=i;·
     subst hji;have:o=oi:=Option.some.inj (hj.symm.trans h2);subst this;exact getD_set_true (hall e he hb)
    ·rw [getD_set_ne true (fun e=>hji e.symm)] at hl;exact getD_set_true (hc j o hj hl e he hb)
   ·cases ht:(b.getD i 0).testBit z with
    | false=>rfl
    | true =>
     exfalso;have hzi:z<i:=hpw.2.2 z hz i i_;have h3:=mask_listed C hc hsz i i oi rfl h2 hall z hzi ht;have h4:=((hm z).1 (by simp [hz])).2;have hlt:z<listed.size:=o_
     simp [hlt] at h3 h4;rw [h3] at h4;cases h4
theorem Strict.imp {Q:Exit→Act→World→Prop}:∀ (e:Exit) (a:Act) (w:World),Strict ops (Q .normal) e a w→Q e a w:=fun e a w h=>by cases e<;>first|exact h.2|exact h.elim
end
theorem wRT {P:Program} {id:Nat} {l:List Oper} {Q:Exit→Act→World→Prop} {a:Act} {w:World} (hm:P.follows .mixedOrders=true)
  (hc:sortOK P l.toArray=true) (h:wpList P l.toArray (Strict l.toArray (Q .normal)) l a w.drew):(Code.region id l.toArray true).wp P Q a w:=by
 refine Code.wp_mono Strict.imp (wp_region_any hm (Qb (Checked.of hc) _ (List.range l.length) _ a _ i_ i_ List.pairwise_lt_range (fun k=>?_) ?_ ?_));·
  simp;intro hk;rw [Array.getElem?_replicate];simp [hk]
 ·intro j o hj hl;have hlt:j<l.length:=by have:=(Array.getElem?_eq_some_iff.1 hj).1;simpa using this
  rw [Array.getD_eq_getD_getElem?,Array.getElem?_replicate] at hl;simp [hlt] at hl
 ·rw [List.range_eq_range',wpOps_eq_wpList l 0 i_];exact h
theorem sT_ {ops:Array Oper} {K:Act→World→Prop} {a:Act} {w:World} (hd:Sd ops a=true) (h:K a w):Strict ops K .normal a w:=⟨hd,h⟩
theorem wT {P:Program}{id:Nat}{l:List Oper}{Q:Exit→Act→World→Prop}{a:Act}{w:World}(h:wpList P l.toArray (Strict l.toArray (Q .normal)) l a w.drew)(hm:P.follows .mixedOrders=true:=by kernel_rfl)(hc:sortOK P l.toArray=true:=by kernel_rfl):(Code.region id l.toArray true).wp P Q a w:=wRT hm hc h
end Go.Proofs.Rg
