/- Own texts of this claim, part 1: no condition. -/
import Derived.Orders
import Derived.Tactics
import Derived.Laws.Sem
import Derived.Laws.World
import Derived.KernelRfl
set_option linter.unusedVariables false
set_option linter.unusedSimpArgs false
theorem o_ {p:Prop}(h:p:=by omega):p:=h
theorem i_ {p:Prop}(h:p:=by simp):p:=h
theorem k_ {p:Prop}(h:p:=by kernel_rfl):p:=h
section
namespace Go.Proofs.Bn
def val (B:Nat):List Nat→Nat
 | []=>0
 | d::l=>d+B*val B l
def Dig (B:Nat) (l:List Nat):Prop:=∀ d∈l,d<B
theorem val_append (B:Nat):∀ (l m:List Nat),val B (l++m)=val B l+B ^ l.length*val B m
 | [],m=>by simp [val]
 | d::l,m=>by rw [List.cons_append,val,val,val_append B l m,List.length_cons,Nat.pow_succ];rw [Nat.mul_add,Nat.add_assoc];congr 2;rw [← Nat.mul_assoc,Nat.mul_comm B]
theorem val_snoc (B:Nat) (l:List Nat) (d:Nat):val B (l++[d])=val B l+B ^ l.length*d:=by rw [val_append];simp [val]
theorem Dig.tail {B:Nat} {d:Nat} {l:List Nat} (h:Dig B (d::l)):Dig B l:=fun x hx=>h x (by simp [hx])
theorem Dig.head {B:Nat} {d:Nat} {l:List Nat} (h:Dig B (d::l)):d<B:=h d i_
theorem Dig.take {B:Nat} {l:List Nat} (h:Dig B l) (i:Nat):Dig B (l.take i):=fun x hx=>h x (List.mem_of_mem_take hx)
theorem Dig.drop {B:Nat} {l:List Nat} (h:Dig B l) (i:Nat):Dig B (l.drop i):=fun x hx=>h x (List.mem_of_mem_drop hx)
theorem Dig.append {B:Nat} {l m:List Nat} (h:Dig B l) (k:Dig B m):Dig B (l++m):=fun x hx=>by
 rw [List.mem_append] at hx;rcases hx with hx|hx
 ·exact h x hx
 ·exact k x hx
theorem Dig.set {B:Nat} {l:List Nat} (h:Dig B l) {i d:Nat} (hd:d<B):Dig B (l.set i d):=fun x hx=>by
 rcases List.mem_or_eq_of_mem_set hx with hx|rfl
 ·exact h x hx
 ·exact hd
theorem Dig.getD {B:Nat} {l:List Nat} (h:Dig B l) (hB:0<B) (i:Nat):l.getD i 0<B:=by
 rw [List.getD_eq_getElem?_getD];by_cases hi:i<l.length;·rw [List.getElem?_eq_getElem hi];exact h _ (List.getElem_mem _)
 ·rw [List.getElem?_eq_none o_];exact hB
theorem Dig.replicate {B:Nat} (hB:0<B) (n:Nat):Dig B (List.replicate n 0):=fun x hx=>by rw [List.mem_replicate] at hx;omega
theorem Dig.nil {B:Nat}:Dig B []:=fun x hx=>by cases hx
theorem val_lt {B:Nat}:∀ {l:List Nat},Dig B l→val B l<B ^ l.length
 | [],_=>by simp [val]
 | d::l,h=>by
  have h1:=h.head;have h2:=val_lt h.tail;rw [val,List.length_cons,Nat.pow_succ];have:B*val B l+B≤B*B ^ l.length:=by rw [← Nat.mul_succ];exact Nat.mul_le_mul_left _ h2
  rw [Nat.mul_comm (B ^ l.length)];omega
theorem val_replicate (B n:Nat):val B (List.replicate n 0)=0:=by
 induction n with
 | zero=>rfl
 | succ n ih=>rw [List.replicate_succ,val,ih];simp
theorem val_take_drop (B:Nat) (l:List Nat) (i:Nat) (h:i≤l.length):val B l=val B (l.take i)+B ^ i*val B (l.drop i):=by have:=val_append B (l.take i) (l.drop i);rw [List.take_append_drop,List.length_take,Nat.min_eq_left h] at this;exact this
theorem val_take_succ (B:Nat) (l:List Nat) (i:Nat):val B (l.take (i+1))=val B (l.take i)+B ^ i*l.getD i 0:=by
 by_cases h:i<l.length;·rw [List.take_add_one,List.getElem?_eq_getElem h,Option.toList_some,val_snoc,List.length_take,Nat.min_eq_left o_,List.getD_eq_getElem?_getD,List.getElem?_eq_getElem h];rfl
 ·rw [List.take_of_length_le o_,List.take_of_length_le o_,List.getD_eq_getElem?_getD,List.getElem?_eq_none o_];simp
theorem val_drop (B:Nat) (l:List Nat) (i:Nat):val B (l.drop i)=l.getD i 0+B*val B (l.drop (i+1)):=by
 by_cases h:i<l.length;·rw [List.drop_eq_getElem_cons h,val,List.getD_eq_getElem?_getD,List.getElem?_eq_getElem h];rfl
 ·rw [List.drop_eq_nil_of_le o_,List.drop_eq_nil_of_le o_,List.getD_eq_getElem?_getD,List.getElem?_eq_none o_];simp [val]
theorem val_div {B:Nat} {l:List Nat} (h:Dig B l) {i:Nat} (hi:i≤l.length):val B l / B ^ i=val B (l.drop i):=by have h1:=val_take_drop B l i hi;have h2:=val_lt (h.take i);rw [List.length_take,Nat.min_eq_left hi] at h2;rw [h1,Nat.add_mul_div_left _ _ o_,Nat.div_eq_of_lt h2,Nat.zero_add]
theorem val_digit {B:Nat} {l:List Nat} (h:Dig B l) (hB:0<B) (i:Nat):val B l / B ^ i % B=l.getD i 0:=by
 by_cases hi:i≤l.length;·rw [val_div h hi,val_drop,Nat.add_mul_mod_self_left,Nat.mod_eq_of_lt (h.getD hB i)]
 ·have:=val_lt h;rw [List.getD_eq_getElem?_getD,List.getElem?_eq_none o_,Nat.div_eq_of_lt (Nat.lt_of_lt_of_le this (Nat.pow_le_pow_right hB o_))];simp
theorem val_of_digits {B X:Nat} (hB:0<B):∀ {l:List Nat},(∀ i,i<l.length→l.getD i 0=X / B ^ i % B)→val B l=X % B ^ l.length:=by
 intro l;have key:∀ i,i≤l.length→(∀ i,i<l.length→l.getD i 0=X / B ^ i % B)→val B (l.take i)=X % B ^ i:=by
  intro i
  induction i with
  | zero=>intro _ _;simp [val,Nat.mod_one]
  | succ i ih =>intro hi h;rw [val_take_succ,ih o_ h,h i o_,Nat.pow_succ,Nat.mod_mul]
 intro h;have:=key l.length (Nat.le_refl _) h;rwa [List.take_length] at this
def Canon (l:List Nat):Prop:=l.getLast?≠some 0
instance (l:List Nat):Decidable (Canon l):=by unfold Canon;exact inferInstance
def dg (B n:Nat):List Nat:=if h:n=0∨B<2 then [] else n % B::dg B (n / B)
termination_by n
decreasing_by exact Nat.div_lt_self o_ o_
theorem dg_zero (B:Nat):dg B 0=[]:=by rw [dg,dif_pos (.inl rfl)]
theorem dg_succ {B n:Nat} (hB:2≤B) (hn:n≠0):dg B n=n % B::dg B (n / B):=by rw [dg,dif_neg o_]
theorem val_dg {B:Nat} (hB:2≤B) (n:Nat):val B (dg B n)=n:=by
 induction n using Nat.strongRecOn with
 | ind n ih =>
  by_cases hn:n=0;·subst hn;rw [dg_zero];rfl
  ·rw [dg_succ hB hn,val,ih _ (Nat.div_lt_self o_ o_),Nat.mod_add_div]
theorem dg_dig {B:Nat} (hB:2≤B) (n:Nat):Dig B (dg B n):=by
 induction n using Nat.strongRecOn with
 | ind n ih =>
  by_cases hn:n=0;·subst hn;rw [dg_zero];exact Dig.nil
  ·rw [dg_succ hB hn];intro d hd;rcases List.mem_cons.1 hd with rfl|hd
   ·exact Nat.mod_lt _ o_
   ·exact ih _ (Nat.div_lt_self o_ o_) d hd
theorem dg_eq_nil {B:Nat} (hB:2≤B) {n:Nat}:dg B n=[]↔n=0:=by
 constructor;·
  intro h;have:=val_dg hB n;rw [h] at this;exact this.symm
 ·rintro rfl;exact dg_zero B
theorem dg_canon {B:Nat} (hB:2≤B) (n:Nat):Canon (dg B n):=by
 induction n using Nat.strongRecOn with
 | ind n ih =>
  by_cases hn:n=0;·subst hn;rw [dg_zero];unfold Canon;simp
  ·have ih':=ih _ (Nat.div_lt_self o_ o_:n / B<n);rw [dg_succ hB hn];unfold Canon at *
   by_cases h:dg B (n / B)=[];·
    rw [h];rw [dg_eq_nil hB] at h;simp only [List.getLast?_singleton,ne_eq,Option.some.injEq];intro hz;have:=Nat.mod_add_div n B;rw [h,hz] at this;simp at this;omega
   ·rwa [List.getLast?_cons,List.getLast?_eq_some_getLast h,Option.getD_some,← List.getLast?_eq_some_getLast h]
theorem canon_tail {d:Nat} {l:List Nat} (h:Canon (d::l)):Canon l:=by
 unfold Canon at *
 cases l with
 | nil=>simp
 | cons x l=>rwa [List.getLast?_cons_cons] at h
theorem canon_pos {B:Nat} (hB:0<B):∀ {l:List Nat},Canon l→l≠[]→0<val B l
 | [],_,h=>absurd rfl h
 | [d],h,_=>by unfold Canon at h;simp at h;rw [val];omega
 | d::x::l,h,_=>by have:=canon_pos hB (canon_tail h) i_;rw [val];have:=Nat.mul_pos hB this;omega
theorem dg_val {B:Nat} (hB:2≤B):∀ {l:List Nat},Dig B l→Canon l→dg B (val B l)=l
 | [],_,_=>dg_zero B
 | d::l,h,c=>by
  have hp:=canon_pos (by omega:0<B) c i_;have h1:=h.head;have ih:=dg_val hB h.tail (canon_tail c);rw [dg_succ hB o_];have e1:val B (d::l) % B=d:=by rw [val,Nat.add_mul_mod_self_left,Nat.mod_eq_of_lt h1]
  have e2:val B (d::l) / B=val B l:=by rw [val,Nat.add_mul_div_left _ _ o_,Nat.div_eq_of_lt h1,Nat.zero_add]
  rw [e1,e2,ih]
theorem dg_length_le {B:Nat} (hB:2≤B) (k:Nat):∀ {n:Nat},(dg B n).length≤k↔n<B ^ k:=by
 induction k with
 | zero =>intro n;rw [Nat.pow_zero,Nat.le_zero,List.length_eq_zero_iff,dg_eq_nil hB];omega
 | succ k ih =>
  intro n;by_cases hn:n=0;·
   subst hn;rw [dg_zero];simp;exact Nat.pow_pos o_
  ·rw [dg_succ hB hn,List.length_cons,Nat.add_le_add_iff_right,ih,Nat.pow_succ,Nat.div_lt_iff_lt_mul o_]
theorem canon_le {B:Nat} (hB:2≤B) {l:List Nat} (h:Dig B l) (c:Canon l) (hl:l≠[]):B ^ (l.length - 1)≤val B l:=by
 have h1:=dg_val hB h c;rcases Nat.lt_or_ge (val B l) (B ^ (l.length - 1)) with hlt|hge
 ·have:=(dg_length_le hB (l.length - 1)).2 hlt;rw [h1] at this;have:=List.length_pos_iff.2 hl;omega
 ·exact hge
def trimL (B:Nat) (l:List Nat):List Nat:=dg B (val B l)
theorem trimL_zero {B:Nat} (l:List Nat):trimL B (l++[0])=trimL B l:=by unfold trimL;rw [val_snoc];simp
theorem trimL_nil (B:Nat):trimL B []=[]:=dg_zero B
theorem canon_snoc {l:List Nat} {d:Nat} (h:d≠0):Canon (l++[d]):=by unfold Canon;simpa using h
theorem trimL_canon {B:Nat} (hB:2≤B) {l:List Nat} (h:Dig B l) (c:Canon l):trimL B l=l:=dg_val hB h c
theorem trimL_prefix {B:Nat} (hB:2≤B):∀ (n:Nat) {l:List Nat},l.length=n→Dig B l→∃ k,k≤l.length∧trimL B l=l.take k
 | 0,l,hn,h=>by obtain rfl:=List.eq_nil_of_length_eq_zero hn;exact⟨0,i_,dg_zero B⟩
 | n+1,l,hn,h=>by
  have hl:l≠[]:=fun e=>by rw [e] at hn;cases hn
  by_cases c:Canon l;·exact⟨l.length,Nat.le_refl _,by rw [List.take_length];exact trimL_canon hB h c⟩
  ·have hz:l.getLast?=some 0:=(by unfold Canon at c;exact Classical.not_not.1 c);have hs:l.take n++[0]=l:=by
    have h2:=List.dropLast_concat_getLast hl;rw [List.getLast?_eq_some_getLast hl] at hz;rw [Option.some.inj hz] at h2;rw [← h2];congr 1;rw [List.dropLast_eq_take,hn];simp;rw [List.take_append_of_le_length (by simp;omega),List.take_take];simp
   obtain⟨k,hk,hp⟩:=trimL_prefix hB n (l:=l.take n) (by rw [List.length_take];omega) (h.take n);rw [List.length_take] at hk;refine⟨k,o_,?_⟩;rw [← hs,trimL_zero,hp,List.take_append_of_le_length (by rw [List.length_take];omega)]
end Go.Proofs.Bn
end
section
namespace Go.Proofs.Bn
theorem val_lt_len {B:Nat} (hB:2≤B) {a b:List Nat} (ha:Dig B a) (hb:Dig B b) (cb:Canon b) (h:a.length<b.length):val B a<val B b:=by have h1:=val_lt ha;have h2:=canon_le hB hb cb (fun e=>by rw [e] at h;cases h);exact Nat.lt_of_lt_of_le h1 (Nat.le_trans (Nat.pow_le_pow_right o_ o_) h2)
theorem val_lt_top {B:Nat} (hB:0<B) {a b:List Nat} (ha:Dig B a) (hb:Dig B b) {i:Nat} (hi:i<a.length) (hl:a.length=b.length) (hd:a.drop (i+1)=b.drop (i+1)) (h:a.getD i 0<b.getD i 0):val B a<val B b:=by
 rw [val_take_drop B a i o_,val_take_drop B b i o_,val_drop B a i,val_drop B b i,hd];have h1:=val_lt (ha.take i);rw [List.length_take,Nat.min_eq_left o_] at h1;have h2:B ^ i*(a.getD i 0+B*val B (b.drop (i+1)))+B ^ i≤B ^ i*(b.getD i 0+B*val B (b.drop (i+1))):=by rw [← Nat.mul_succ];exact Nat.mul_le_mul_left _ o_
 omega
theorem drop_eq_succ {a b:List Nat} {i:Nat} (hi:i<a.length) (hl:a.length=b.length) (hd:a.drop (i+1)=b.drop (i+1)) (h:a.getD i 0=b.getD i 0):a.drop i=b.drop i:=by rw [List.drop_eq_getElem_cons hi,List.drop_eq_getElem_cons (by omega:i<b.length),hd];congr 1;rw [List.getD_eq_getElem?_getD,List.getD_eq_getElem?_getD,List.getElem?_eq_getElem hi,List.getElem?_eq_getElem o_] at h;exact h
theorem sum_step {B va vb vo c x y s P:Nat} (hB:0<B) (h:vo+P*c=va+vb) (hs:s=c+x+y):vo+P*(s % B)+P*B*(s / B)=va+P*x+(vb+P*y):=by
 have h1:=Nat.mod_add_div s B;have h2:P*(s % B)+P*B*(s / B)=P*s:=by rw [Nat.mul_assoc,← Nat.mul_add,h1]
 have h3:P*s=P*c+P*x+P*y:=by rw [hs,Nat.mul_add,Nat.mul_add]
 omega
theorem diff_step {B va vb vo c x y d c' P:Nat} (h:vo+vb=va+P*c) (hd:d+y+c=x+B*c'):vo+P*d+(vb+P*y)=va+P*x+P*B*c':=by
 have h1:P*d+P*y+P*c=P*x+P*B*c':=by rw [← Nat.mul_add,← Nat.mul_add,hd,Nat.mul_add,Nat.mul_assoc]
 omega
theorem val_set {B:Nat}:∀ {l:List Nat} {i:Nat} (d:Nat),i<l.length→val B (l.set i d)+B ^ i*l.getD i 0=val B l+B ^ i*d
 | x::l,0,d,_=>by simp [val];omega
 | x::l,i+1,d,h=>by
  have ih:=val_set (B:=B) (l:=l) (i:=i) d (by simpa using h);rw [List.set_cons_succ,val,val,List.getD_cons_succ,Nat.pow_succ];have e1:B ^ i*B*l.getD i 0=B*(B ^ i*l.getD i 0):=by rw [Nat.mul_comm (B ^ i) B,Nat.mul_assoc]
  have e2:B ^ i*B*d=B*(B ^ i*d):=by rw [Nat.mul_comm (B ^ i) B,Nat.mul_assoc]
  rw [e1,e2,Nat.add_assoc,Nat.add_assoc,← Nat.mul_add,← Nat.mul_add,ih]
 | [],_,d,h=>by simp at h
theorem canon_of_ge {B:Nat} {l:List Nat} (hD:Dig B l) (h:B ^ (l.length - 1)≤val B l):Canon l:=by
 unfold Canon;intro hz;have hl:l≠[]:=fun e=>by rw [e] at hz;cases hz
 have h2:=List.dropLast_concat_getLast hl;rw [List.getLast?_eq_some_getLast hl] at hz;rw [Option.some.inj hz] at h2;have h3:=val_lt (hD.take (l.length - 1));rw [← List.dropLast_eq_take,List.length_dropLast] at h3;have h4:val B l=val B l.dropLast:=by conv=>lhs;rw [← h2,val_snoc];simp
 omega
end Go.Proofs.Bn
end
section
namespace Go.Proofs.Rg
open Go
def Ext (w w2:World):Prop:=∀ b:Nat,b<w.heap.size→w2.heap[b]?=w.heap[b]?
theorem Ext.refl (w:World):Ext w w:=fun _ _=>rfl
theorem Ext.size {w w2:World} (h:Ext w w2):w.heap.size≤w2.heap.size:=by
 rcases Nat.lt_or_ge w2.heap.size w.heap.size with hlt|hge
 ·have:=h w2.heap.size hlt;rw [Array.getElem?_eq_none (Nat.le_refl _),Array.getElem?_eq_getElem hlt] at this;cases this
 ·exact hge
theorem Ext.trans {a b c:World} (h:Ext a b) (k:Ext b c):Ext a c:=fun i hi =>
 (k i (Nat.lt_of_lt_of_le hi h.size)).trans (h i hi)
def Calm (P:Program) {α:Type} (s:Sem α):Prop:=∀ w a w',s.run P w=.ok a w'→w'=w∧∀ w2,s.run P w2=.ok a w2
def Stable (P:Program) {α:Type} (s:Sem α):Prop:=∀ w a w',s.run P w=.ok a w'→w'=w∧∀ w2,Ext w w2→s.run P w2=.ok a w2
def Grows (P:Program) {α:Type} (s:Sem α):Prop:=∀ w a w',s.run P w=.ok a w'→Ext w w'
def Dead (P:Program) {α:Type} (s:Sem α):Prop:=∀ w a w',s.run P w≠.ok a w'
def Gives (P:Program) {α:Type} (s:Sem α) (a:α):Prop:=∃ w w',s.run P w=.ok a w'
section
variable {P:Program} {α β:Type}
theorem run_bind_ok {x:Sem α} {f:α→Sem β} {w w':World} {b:β} (h:(x >>= f).run P w=.ok b w') :
  ∃ a w1,x.run P w=.ok a w1∧(f a).run P w1=.ok b w':=by
 rw [Sem.run_bind] at h;cases hx:x.run P w with
 | ok a w1=>rw [hx] at h;exact⟨a,w1,rfl,h⟩
 | halt x w1=>rw [hx] at h;cases h
theorem run_bind_of {x:Sem α} {f:α→Sem β} {w w1:World} {a:α} (h:x.run P w=.ok a w1) :
  (x >>= f).run P w=(f a).run P w1:=by rw [Sem.run_bind,h];rfl
theorem Calm.pure (a:α):Calm P (Pure.pure a:Sem α):=fun w b w' h=>by have h':Result.ok a w=.ok b w':=h;cases h';exact⟨rfl,fun _=>rfl⟩
theorem Dead.calm {s:Sem α} (h:Dead P s):Calm P s:=fun w a w' hr=>absurd hr (h w a w')
theorem Dead.halt (h:Halt):Dead P (.halt h:Sem α):=fun w a w' hr=>by cases hr
theorem Calm.halt (h:Halt):Calm P (.halt h:Sem α):=(Dead.halt h).calm
theorem Calm.stuck (s:String):Calm P (Go.stuck s:Sem α):=Calm.halt _
theorem Calm.unsupported (s:Unsupported):Calm P (Go.unsupported s:Sem α):=Calm.halt _
theorem Calm.bind {x:Sem α} {f:α→Sem β} (hx:Calm P x) (hf:∀ a,Gives P x a→Calm P (f a)):Calm P (x >>= f):=fun w b w' h=>by obtain⟨a,w1,h1,h2⟩:=run_bind_ok h;obtain⟨rfl,h3⟩:=hx w a w1 h1;obtain⟨rfl,h4⟩:=hf a ⟨_,_,h1⟩ _ b _ h2;exact⟨rfl,fun w2=>by rw [run_bind_of (h3 w2)];exact h4 w2⟩
theorem Dead.bind_left {x:Sem α} (f:α→Sem β) (hx:Dead P x):Dead P (x >>= f):=fun w b w' h=>by obtain⟨a,w1,h1,_⟩:=run_bind_ok h;exact hx _ _ _ h1
theorem Dead.bind_right (x:Sem α) {f:α→Sem β} (hf:∀ a,Dead P (f a)):Dead P (x >>= f):=fun w b w' h=>by obtain⟨a,w1,_,h2⟩:=run_bind_ok h;exact hf _ _ _ _ h2
theorem Calm.program:Calm P Go.program:=fun w a w' h=>by have h':Result.ok P w=.ok a w':=h;cases h';exact⟨rfl,fun _=>rfl⟩
theorem Gives.program {p:Program} (h:Gives P Go.program p):p=P:=by obtain⟨w,w',h⟩:=h;have h':Result.ok P w=.ok p w':=h;cases h';rfl
theorem Gives.pure {a b:α} (h:Gives P (Pure.pure a:Sem α) b):b=a:=by obtain⟨w,w',h⟩:=h;have h':Result.ok a w=.ok b w':=h;cases h';rfl
theorem Gives.bind {x:Sem α} {f:α→Sem β} {b:β} (h:Gives P (x >>= f) b):∃ a,Gives P x a∧Gives P (f a) b:=by obtain⟨w,w',h⟩:=h;obtain⟨a,w1,h1,h2⟩:=run_bind_ok h;exact⟨a,⟨_,_,h1⟩,⟨_,_,h2⟩⟩
theorem Gives.dead {s:Sem α} {a:α} (h:Gives P s a) (hd:Dead P s):False:=by obtain⟨w,w',h⟩:=h;exact hd _ _ _ h
theorem Calm.map {x:Sem α} (f:α→β) (hx:Calm P x):Calm P (f <$> x):=Calm.bind hx fun a _=>Calm.pure (f a)
theorem Calm.stable {s:Sem α} (h:Calm P s):Stable P s:=fun w a w' hr=>⟨(h w a w' hr).1,fun w2 _=>(h w a w' hr).2 w2⟩
theorem Stable.bind {x:Sem α} {f:α→Sem β} (hx:Stable P x) (hf:∀ a,Stable P (f a)):Stable P (x >>= f):=fun w b w' h=>by obtain⟨a,w1,h1,h2⟩:=run_bind_ok h;obtain⟨rfl,h3⟩:=hx w a w1 h1;obtain⟨rfl,h4⟩:=hf a _ b _ h2;exact⟨rfl,fun w2 he=>by rw [run_bind_of (h3 w2 he)];exact h4 w2 he⟩
theorem Stable.grows {s:Sem α} (h:Stable P s):Grows P s:=fun w a w' hr=>by rw [(h w a w' hr).1];exact Ext.refl _
theorem Calm.grows {s:Sem α} (h:Calm P s):Grows P s:=h.stable.grows
theorem Grows.bind {x:Sem α} {f:α→Sem β} (hx:Grows P x) (hf:∀ a,Grows P (f a)):Grows P (x >>= f):=fun w b w' h=>by obtain⟨a,w1,h1,h2⟩:=run_bind_ok h;exact (hx w a w1 h1).trans (hf a w1 b w' h2)
theorem Grows.new (o:Obj):Grows P (Go.newObj o):=fun w a w' h=>by have h':Result.ok w.heap.size { w with heap:=w.heap.push o }=.ok a w':=h;cases h';intro b hb;show (w.heap.push o)[b]?=_;rw [Array.getElem?_push,if_neg o_]
theorem seen_ok {w:World} {at_:Addr} {u:TypeId} {k:Addr} {m:Bool} {r:Array Value×TypeId×(Nat×Nat)×Nat×Value×List (Nat×Nat×List UInt8)}
  (h:w.seen P at_ u k m=.ok r):at_.block<w.heap.size:=by
 rcases Nat.lt_or_ge at_.block w.heap.size with h'|h'
 ·exact h'
 ·exfalso;unfold World.seen at h;rw [Array.getElem?_eq_none h'] at h;simp only [bind,Except.bind,throwThe,MonadExceptOf.throw,MonadExcept.throw] at h
  repeat' (split at h)
  all_goals first|cases h|(simp at h)
theorem seen_ext {w w2:World} (he:Ext w w2) {at_:Addr} {u:TypeId} {k:Addr} {m:Bool} {r:Array Value×TypeId×(Nat×Nat)×Nat×Value×List (Nat×Nat×List UInt8)}
  (h:w.seen P at_ u k m=.ok r):w2.seen P at_ u k m=.ok r:=by
 have hb:=seen_ok h;unfold World.seen at h ⊢;rw [he _ hb];exact h
theorem viewLoad_ext {w w2:World} (he:Ext w w2) {at_:Addr} {u:TypeId} {k:Addr} {m:Bool} {r:Value×List Addr}
  (h:w.viewLoad P at_ u k m=.ok r):w2.viewLoad P at_ u k m=.ok r:=by
 unfold World.viewLoad at h ⊢;cases hs:w.seen P at_ u k m with
 | error e=>rw [hs] at h;cases h
 | ok q=>rw [seen_ext he hs];rw [hs] at h;exact h
theorem Stable.load (a:Addr):Stable P (Go.load a):=fun w v w' h=>by
 rw [run_load] at h;have hlt:∀ o,w.heap[a.block]?=some o→a.block<w.heap.size:=fun o ho=>(Array.getElem?_eq_some_iff.1 ho).1;cases hc:w.cell? a with
 | some u =>
  rw [hc] at h;cases h;refine⟨rfl,fun w2 he=>?_⟩;have hc2:w2.cell? a=some v:=by
   unfold World.cell? at hc ⊢;cases ho:w.heap[a.block]? with
   | none=>rw [ho] at hc;cases hc
   | some o=>rw [he _ (hlt o ho),ho];rw [ho] at hc;exact hc
  rw [run_load,hc2]
 | none =>
  rw [hc] at h;cases hf:w.farLoad P a (Mode.plain == .atomic) with
  | error e=>simp only [hf] at h;cases h
  | ok r =>
   simp only [hf] at h;cases h;refine⟨rfl,fun w2 he=>?_⟩;unfold World.farLoad at hf;cases ho:w.heap[a.block]? with
   | none=>rw [ho] at hf;cases hf
   | some o =>
    have ho2:w2.heap[a.block]?=some o:=(he _ (hlt o ho)).trans ho;rw [ho] at hf;cases o with
    | view at_ u =>
     simp only at hf;have hc2:w2.cell? a=none:=(by unfold World.cell?;rw [ho2]);rw [run_load,hc2];unfold World.farLoad;rw [ho2];simp only;cases hvl:w.viewLoad P at_ u a (Mode.plain == .atomic) with
     | ok q=>rw [viewLoad_ext he hvl];rw [hvl] at hf;cases hf;rfl
     | error q=>rw [hvl] at hf;cases hf
    | _=>simp only at hf;cases hf
end
section
variable {P:Program}
theorem Dead.runtimePanic {α:Type} (e:RuntimeError):Dead P (Go.runtimePanic e:Sem α):=by unfold Go.runtimePanic;refine Dead.bind_right _ fun p=>?_;cases e<;>first|exact Dead.halt _|(refine Dead.bind_right _ fun _=>Dead.bind_right _ fun _=>Dead.halt _)
theorem Dead.boundsPanic {α:Type} (k:IntKind) (x y:Int) (c:BoundsCode):Dead P (Go.boundsPanic k x y c:Sem α):=by unfold Go.boundsPanic;dsimp only;split<;>exact Dead.bind_right _ fun _=>Dead.runtimePanic _
theorem Calm.typeInfo (t:TypeId):Calm P (Go.typeInfo t):=by
 unfold Go.typeInfo;refine Calm.bind Calm.program fun p _=>?_;split;·exact Calm.pure _
 ·exact Calm.stuck _
theorem Calm.underlying (t:TypeId):Calm P (Go.underlying t):=by
 unfold Go.underlying;refine Calm.bind Calm.program fun p _=>?_;split;·exact Calm.pure _
 ·exact Calm.stuck _
theorem Gives.underlying {t:TypeId} {d:TypeDesc} (h:Gives P (Go.underlying t) d):P.underlying t=some d:=by
 unfold Go.underlying at h;obtain⟨p,h1,h2⟩:=h.bind;obtain rfl:=h1.program;split at h2;·rw [h2.pure];assumption
 ·exact (h2.dead (Dead.halt _)).elim
theorem Gives.typeInfo {t:TypeId} {d:TypeInfo} (h:Gives P (Go.typeInfo t) d):P.info? t=some d:=by
 unfold Go.typeInfo at h;obtain⟨p,h1,h2⟩:=h.bind;obtain rfl:=h1.program;split at h2;·rw [h2.pure];assumption
 ·exact (h2.dead (Dead.halt _)).elim
theorem Gives.sizeOf {t:TypeId} {d:Nat} (h:Gives P (Go.sizeOf t) d):P.cellsOf t=d:=by unfold Go.sizeOf at h;obtain⟨i,h1,h2⟩:=h.bind;rw [h2.pure];simp [Program.cellsOf,h1.typeInfo]
theorem Calm.zeroValue (t:TypeId):Calm P (Go.zeroValue t):=by
 unfold Go.zeroValue;refine Calm.bind (Calm.typeInfo _) fun p _=>?_;split;·exact Calm.pure _
 ·exact Calm.unsupported _
theorem Calm.sizeOf (t:TypeId):Calm P (Go.sizeOf t):=Calm.bind (Calm.typeInfo _) fun _ _=>Calm.pure _
theorem Calm.isAgg (t:TypeId):Calm P (Go.isAgg t):=by unfold Go.isAgg;refine Calm.bind (Calm.underlying _) fun p _=>?_;split<;>exact Calm.pure _
theorem Calm.asBool (v:Value):Calm P (Go.asBool v):=by
 unfold Go.asBool;split;·exact Calm.pure _
 ·exact Calm.stuck _
theorem Calm.asIntOf (v:Value):Calm P (Go.asIntOf v):=by
 unfold Go.asIntOf;split;·exact Calm.pure _
 ·exact Calm.unsupported _
 ·exact Calm.stuck _
theorem Calm.asAgg (v:Value):Calm P (Go.asAgg v):=by
 unfold Go.asAgg;split;·exact Calm.pure _
 ·exact Calm.stuck _
theorem Calm.asAddr (v:Value):Calm P (Go.asAddr v):=by
 unfold Go.asAddr;split;·exact Calm.pure _
 ·exact (Dead.runtimePanic _).calm
 ·exact Calm.stuck _
theorem Calm.sureAddr (v:Value):Calm P (Go.Instr.sureAddr v):=by
 unfold Go.Instr.sureAddr;split;·exact Calm.pure _
 ·exact Calm.stuck _
theorem Calm.part (t:TypeId) (cs:Array Value) (off:Nat):Calm P (Go.part t cs off):=by
 unfold Go.part;refine Calm.bind (Calm.isAgg _) fun b _=>?_;split;·exact Calm.bind (Calm.sizeOf _) fun _ _=>Calm.pure _
 ·split;·exact Calm.pure _
  ·exact Calm.stuck _
theorem Calm.forIn_list {α σ:Type} (l:List α):∀ (init:σ) (f:α→σ→Sem (ForInStep σ)) (hf:∀ a s,Calm P (f a s)),Calm P (forIn l init f):=by
 induction l with
 | nil=>intro init f _;exact Calm.pure _
 | cons x l ih =>
  intro init f hf;rw [List.forIn_cons];refine Calm.bind (hf _ _) fun r _=>?_;cases r;·exact Calm.pure _
  ·exact ih _ f hf
theorem Calm.forIn_array {α σ:Type} (l:Array α) (init:σ) (f:α→σ→Sem (ForInStep σ)) (hf:∀ a s,Calm P (f a s)):Calm P (forIn l init f):=by rw [← Array.forIn_toList];exact Calm.forIn_list _ _ _ hf
theorem Calm.forIn_range {σ:Type} (l:Std.Legacy.Range) (init:σ) (f:Nat→σ→Sem (ForInStep σ)) (hf:∀ a s,Calm P (f a s)):Calm P (forIn l init f):=by rw [Std.Legacy.Range.forIn_eq_forIn_range'];exact Calm.forIn_list _ _ _ hf
theorem Calm.eqGuardIn:∀ (d:Nat) (t:TypeId) (x y:Value),Calm P (Op.eqGuardIn d t x y)
 | 0,t,x,y=>Calm.unsupported _
 | d+1,t,x,y=>by
  unfold Op.eqGuardIn;refine Calm.bind (Calm.underlying _) fun u _=>?_;split;·exact Calm.pure _
  ·refine Calm.bind (Calm.forIn_array _ _ _ fun f s=>?_) fun r _=>?_;·
    split;·exact Calm.bind (Calm.part _ _ _) fun _ _=>Calm.bind (Calm.part _ _ _) fun _ _=>Calm.bind (Calm.eqGuardIn d _ _ _) fun b _=>by split<;>exact Calm.pure _
    ·exact Calm.pure _
   ·rcases r with ⟨_|r,_⟩<;>exact Calm.pure _
  ·refine Calm.bind (Calm.sizeOf _) fun n _=>Calm.bind (Calm.forIn_range _ _ _ fun f s=>?_) fun r _=>?_;·exact Calm.bind (Calm.part _ _ _) fun _ _=>Calm.bind (Calm.part _ _ _) fun _ _=>Calm.bind (Calm.eqGuardIn d _ _ _) fun b _=>by split<;>exact Calm.pure _
   ·rcases r with ⟨_|r,_⟩<;>exact Calm.pure _
  ·exact Calm.pure _
def plainCell:Value→Bool
 | .int ..|.bool _|.string _=>true
 | _=>false
def plainV (v:Value):Bool:=match v with
 | .int ..|.bool _|.string _=>true
 | .agg cs=>cs.toList.all plainCell
 | _=>false
theorem plainV_of_cell {v:Value} (h:plainCell v=true):plainV v=true:=by cases v<;>first|exact h|cases h
theorem Gives.part {t:TypeId} {cs:Array Value} {off:Nat} {v:Value} (h:Gives P (Go.part t cs off) v) (hc:cs.toList.all plainCell=true):plainV v=true:=by
 rw [List.all_eq_true] at hc;unfold Go.part at h;obtain⟨b,_,h⟩:=h.bind;split at h;·
  obtain⟨n,_,h⟩:=h.bind;rw [h.pure];show (cs.extract off (off+n)).toList.all plainCell=true;rw [List.all_eq_true];intro x hx;exact hc x (by
   rw [Array.mem_toList_iff] at hx ⊢
   rw [Array.mem_extract_iff_getElem] at hx
   obtain⟨k,hk,rfl⟩:=hx
   exact Array.getElem_mem _)
 ·split at h;·
   rename_i u hu;rw [h.pure];exact plainV_of_cell (hc u (Array.mem_toList_iff.2 (Array.mem_of_getElem? hu)))
  ·exact (h.dead (Dead.halt _)).elim
def eqOK:Value→Value→Bool
 | .pointer none,.pointer _|.pointer _,.pointer none=>true
 | .slice none _ _,.slice ..|.slice ..,.slice none _ _=>true
 | .map none,.map _|.map _,.map none=>true
 | .nilFunc,.func ..|.func ..,.nilFunc|.nilFunc,.nilFunc=>true
 | x,y=>plainV x && plainV y
theorem Calm.equalPlain:∀ (d:Nat) (t:TypeId) (x y:Value),plainV x=true→plainV y=true→Calm P (Op.equalIn d t x y)
 | 0,t,x,y=>fun _ _=>Calm.unsupported _
 | d+1,t,x,y=>fun hx hy=>by
  unfold Op.equalIn;refine Calm.bind (Calm.underlying _) fun u _=>?_;split;all_goals first
   | exact Calm.pure _
   | exact Calm.stuck _
   | exact Calm.unsupported _
   | (exfalso;simp only [plainV] at hx;cases hx;done)
   | (exfalso;simp only [plainV] at hy;cases hy;done)
   | (split<;>first|exact Calm.pure _|exact Calm.stuck _)
   | skip
  ·rename_i fields xs ys hg;refine Calm.bind Calm.program fun p _=>?_;split;·exact Calm.unsupported _
   ·refine Calm.bind (Calm.forIn_array _ _ _ fun f s=>?_) fun r _=>?_;·
     split;·exact Calm.bind (Calm.part _ _ _) fun a ha=>Calm.bind (Calm.part _ _ _) fun b hb=>Calm.bind (Calm.equalPlain d _ _ _ (ha.part hx) (hb.part hy)) fun b _=>by split<;>exact Calm.pure _
     ·exact Calm.pure _
    ·rcases r with ⟨_|r,_⟩<;>exact Calm.pure _
  ·refine Calm.bind (Calm.sizeOf _) fun n _=>Calm.bind (Calm.forIn_range _ _ _ fun f s=>?_) fun r _=>?_;·exact Calm.bind (Calm.part _ _ _) fun a ha=>Calm.bind (Calm.part _ _ _) fun b hb=>Calm.bind (Calm.equalPlain d _ _ _ (ha.part hx) (hb.part hy)) fun b _=>by split<;>exact Calm.pure _
   ·rcases r with ⟨_|r,_⟩<;>exact Calm.pure _
theorem Calm.same_none_left (a:Option Addr):Calm P (samePointer none a):=by cases a<;>exact Calm.pure _
theorem Calm.same_none_right (a:Option Addr):Calm P (samePointer a none):=by cases a<;>exact Calm.pure _
theorem Calm.equal (t:TypeId) (x y:Value) (h:eqOK x y=true):Calm P (Op.equal t x y):=by
 unfold Op.equal Op.maxDepth;by_cases hp:plainV x=true∧plainV y=true;·exact Calm.equalPlain _ t x y hp.1 hp.2
 ·unfold Op.equalIn;refine Calm.bind (Calm.underlying _) fun u _=>?_;unfold eqOK at h;split at h;all_goals first
   | (simp only [Bool.and_eq_true] at h;exact absurd h hp)
   | (split<;>first|exact Calm.pure _|exact Calm.stuck _|exact Calm.unsupported _|(simp_all;done)|skip)
  ·rename_i e1 e2 _;cases e1;cases e2;exact Calm.same_none_left _
  ·rename_i e1 e2 _;cases e1;cases e2;exact Calm.same_none_right _
end
end Go.Proofs.Rg
end
section
namespace Go.Proofs.Rg
open Go
section
variable {P:Program}
def fieldCalm (P:Program) (s f:Nat):Bool :=
 match P.underlying s with
 | some (.struct fs)=>match fs[f]? with
  | some fd=>P.cellsOf fd.type != 0
  | none=>true
 | _=>true
inductive Cl where
 | pure|load|alloc|any
 deriving DecidableEq
def clB:Builtin→Cl
 | .len|.cap|.min|.max=>.pure
 | _=>.any
def intKeyed (P:Program) (t:TypeId):Bool :=
 match P.underlying t with
 | some (.map k _)=>(match P.underlying k with|some (.int _)=>true|_=>false)
 | _=>false
def notPtr:Value→Bool
 | .pointer _=>false
 | _=>true
def cl (P:Program):Op→Cl
 | .move _|.assign _|.pick ..|.build ..|.field ..|.indexAddr ..|.index ..|.extract ..|.unOp ..|.binOp ..|.convert ..|.slice ..|.nilCheck _=>.pure
 | .fieldAddr s _ f=>if fieldCalm P s f then .pure else .any
 | .call { callee:=.builtin b,.. }=>clB b
 | .load ..=>.load
 | .lookup t _ _ _=>if intKeyed P t then .load else .any
 | .alloc _|.box ..|.buildSlice ..=>.alloc
 | _=>.any
def sized:Value→Bool
 | .slice ..|.string _=>true
 | _=>false
def isInt:Value→Bool
 | .int ..=>true
 | _=>false
def dynB (b:Builtin) (args:List Value):Bool :=
 match b with
 | .len|.cap=>args.all sized
 | .min|.max=>args.all isInt
 | _=>true
def dynBin (op:BinOp) (x y:Value):Bool :=
 match x,y with
 | .int ..,.int ..=>true
 | .string _,.string _=>true
 | x,y=>(match op with|.eql|.neq=>true|_=>false) && eqOK x y
def dynOp (ρ:Operand→Value):Op→Bool
 | .nilCheck x=>match ρ x with|.pointer _=>true|_=>false
 | .binOp op _ x y _=>dynBin op (ρ x) (ρ y)
 | .convert _ _ x=>isInt (ρ x)
 | .lookup _ _ x _=>notPtr (ρ x)
 | .call { callee:=.builtin b,args,.. }=>dynB b (args.toList.map ρ)
 | _=>true
theorem Calm.shift (op:BinOp) (k:IntKind) (a:Int) (yk:IntKind) (b:Int):Calm P (Op.shift op k a yk b):=by
 unfold Op.shift;dsimp only;split;·exact (Dead.runtimePanic _).calm
 ·split<;>first|exact Calm.pure _|exact Calm.stuck _
theorem Calm.intArith (op:BinOp) (k:IntKind) (a b:Int):Calm P (Op.intArith op k a b):=by unfold Op.intArith;split<;>first|exact Calm.pure _|exact Calm.stuck _
theorem Calm.intDiv (op:BinOp) (k:IntKind) (a b:Int):Calm P (Op.intDiv op k a b):=by
 unfold Op.intDiv;split;·exact (Dead.runtimePanic _).calm
 ·split<;>first|exact Calm.pure _|exact Calm.stuck _
theorem Calm.intBits (op:BinOp) (k:IntKind) (a b:Int):Calm P (Op.intBits op k a b):=by unfold Op.intBits;dsimp only;split<;>first|exact Calm.pure _|exact Calm.stuck _
theorem Calm.intCmp (op:BinOp) (a b:Int):Calm P (Op.intCmp op a b):=by unfold Op.intCmp;split<;>first|exact Calm.pure _|exact Calm.stuck _
theorem Calm.stringOp (op:BinOp) (a b:ByteArray):Calm P (Op.stringOp op a b):=by
 unfold Op.stringOp;dsimp only;split;·
  split;·exact Calm.unsupported _
  ·exact Calm.pure _
 all_goals first|exact Calm.pure _|exact Calm.stuck _
theorem Calm.guarded (u:Unsupported) (b:Sem Bool) (hb:Calm P b):Calm P (b >>= fun q=>if q=true then Go.unsupported u else Pure.pure ()) :=
 Calm.bind hb fun q _=>by
  cases q;·exact Calm.pure _
  ·exact Calm.unsupported _
theorem Calm.guarded2 (u:Unsupported) (p:Program) (t:TypeId) (b:Sem Bool) (hb:Calm P b) :
  Calm P (if (!p.eqGuardType p.depth t)=true then (Pure.pure ():Sem Unit) else b >>= fun q=>if q=true then Go.unsupported u else Pure.pure ()):=by
 by_cases h:(!p.eqGuardType p.depth t)=true;·rw [if_pos h];exact Calm.pure _
 ·rw [if_neg h];exact Calm.guarded u b hb
theorem Calm.guarded3 (u:Unsupported) (c:Prop) [Decidable c] (b:Sem Bool) (hb:Calm P b) :
  Calm P (if c then (Pure.pure ():Sem Unit) else b >>= fun q=>if q=true then Go.unsupported u else Pure.pure ()):=by
 by_cases h:c;·rw [if_pos h];exact Calm.pure _
 ·rw [if_neg h];exact Calm.guarded u b hb
theorem Calm.guardBody (t:TypeId) (x y:Operand) (a b:Value):Calm P (Go.eqGuard .eql t x y a b):=by
 unfold Go.eqGuard;show Calm P (match a,b with
  | .nilIface,.nilIface=>_
  | .agg _,.agg _=>_
  | _,_=>_)
 split;·exact Calm.guarded3 _ _ _ (Calm.eqGuardIn _ _ _ _)
 ·exact Calm.bind Calm.program fun p hp=>Calm.bind Calm.program fun q hq=>by rw [hp.program,hq.program];exact Calm.guarded2 _ _ _ _ (Calm.eqGuardIn _ _ _ _)
 ·exact Calm.pure _
theorem Calm.eqGuard (op:BinOp) (t:TypeId) (x y:Operand) (a b:Value):Calm P (Go.eqGuard op t x y a b):=by cases op<;>first|exact Calm.guardBody t x y a b|exact Calm.pure _
theorem binOpInt (op:BinOp) (t:TypeId) (k k':IntKind) (a b:Int):Calm P (Go.binOp op t (.int k a) (.int k' b)):=by
 cases op<;>simp only [Go.binOp]<;>first
  | exact Calm.shift _ _ _ _ _
  | (
   split
   ·exact Calm.stuck _
   ·first|exact Calm.intArith _ _ _ _|exact Calm.intDiv _ _ _ _|exact Calm.intBits _ _ _ _|exact Calm.intCmp _ _ _)
theorem binOpString (op:BinOp) (t:TypeId) (a b:ByteArray):Calm P (Go.binOp op t (.string a) (.string b)):=by cases op<;>simp only [Go.binOp]<;>exact Calm.stringOp _ _ _
theorem binOpEq (op:BinOp) (ho:(match op with|.eql|.neq=>true|_=>false)=true) (t:TypeId) (x y:Value) (h:eqOK x y=true) (hx:plainV x=true→plainV y=true→True):Calm P (Go.binOp op t x y):=by
 have h1:Calm P (do pure (.bool (← Op.equal t x y)):Sem Value):=Calm.bind (Calm.equal t x y h) fun _ _=>Calm.pure _;have h2:Calm P (do pure (.bool (!(← Op.equal t x y))):Sem Value):=Calm.bind (Calm.equal t x y h) fun _ _=>Calm.pure _;cases op<;>first|(cases ho;done)|skip
 all_goals
  cases x<;>cases y<;>first
   | exact h1
   | exact h2
   | exact binOpInt _ _ _ _ _ _
   | exact binOpString _ _ _ _
   | (simp [eqOK,plainV] at h;done)
theorem Calm.binOp (op:BinOp) (t:TypeId) (x y:Value) (h:dynBin op x y=true):Calm P (Go.binOp op t x y):=by
 unfold dynBin at h;split at h;·exact binOpInt _ _ _ _ _ _
 ·exact binOpString _ _ _ _
 ·rw [Bool.and_eq_true] at h;exact binOpEq op h.1 t x y h.2 fun _ _=>trivial
theorem Calm.unary (op:UnOp) (x:Value):Calm P (Op.unary op x):=by unfold Op.unary;split<;>first|exact Calm.pure _|exact Calm.stuck _|exact Calm.unsupported _|exact Calm.intArith _ _ _ _|exact Calm.intBits _ _ _ _
theorem Calm.unsafePointerInt (s d:TypeId) (k:IntKind) (n:Int):Calm P (Conv.unsafePointer s d (.int k n)):=by
 unfold Conv.unsafePointer;refine Calm.bind (Calm.underlying _) fun u _=>Calm.bind (Calm.underlying _) fun v _=>?_;split;all_goals first|exact Calm.stuck _|exact Calm.unsupported _|(rename_i e;cases e;done)|skip
 all_goals simp_all
theorem Calm.convert (s d:TypeId) (x:Value) (h:isInt x=true):Calm P (Go.convert s d x):=by
 cases x<;>first|(cases h;done)|skip
 unfold Go.convert;refine Calm.bind (Calm.underlying _) fun u _=>Calm.bind (Calm.underlying _) fun v _=>?_;split;all_goals first|exact Calm.pure _|exact Calm.unsafePointerInt _ _ _ _|exact Calm.unsupported _|(rename_i e;cases e;done)|skip
 all_goals simp_all
end
end Go.Proofs.Rg
end
