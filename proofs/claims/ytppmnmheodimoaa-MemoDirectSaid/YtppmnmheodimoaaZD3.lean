/- Own texts of this claim, part 4: no condition. -/
import Derived.WalkKit
import Derived.WalkSpells
import Derived.WalkLawsBesides
import Derived.Deep.AppendLies
import Derived.Deep.Draws
import Derived.Maps.AppendAt
import Derived.Laws.AppendOwnNone
import Derived.Test.YtppmnmheodimoaaZD2
set_option linter.unusedVariables false
set_option linter.unusedSimpArgs false
section
namespace Go.Proofs.Hp
open Go Go.RowKit
structure Fr (F:List Nat) (w w':World):Prop where
 os:w'.os=w.os
 tape:w'.tape=w.tape
 output:w'.output=w.output
 size:w.heap.size≤w'.heap.size
 block:∀ b,b<w.heap.size→b∉F→w'.heap[b]?=w.heap[b]?
theorem Fr.refl (F:List Nat) (w:World):Fr F w w:=⟨rfl,rfl,rfl,Nat.le_refl _,fun _ _ _=>rfl⟩
theorem Fr.mono {F G:List Nat} {w w':World} (h:Fr F w w') (hs:∀ x∈F,x∈G):Fr G w w':=⟨h.os,h.tape,h.output,h.size,fun b hb hn=>h.block b hb fun hx=>hn (hs b hx)⟩
theorem Fr.trans {F G:List Nat} {a b c:World} (h:Fr F a b) (k:Fr G b c) (hG:∀ x∈G,x∈F∨a.heap.size≤x):Fr F a c :=
 ⟨k.os.trans h.os,k.tape.trans h.tape,k.output.trans h.output,Nat.le_trans h.size k.size,fun i hi hn =>
  (k.block i (Nat.lt_of_lt_of_le hi h.size) fun hx=>by rcases hG i hx with h1|h1<;>first|exact hn h1|omega).trans (h.block i hi hn)⟩
theorem Fr.trans0 {F:List Nat} {a b c:World} (h:Fr F a b) (k:Fr [] b c):Fr F a c:=h.trans k (by simp)
theorem Fr.drew {F:List Nat} {a w:World} (h:Fr F a w):Fr F a w.drew:=⟨h.os,h.tape,h.output,h.size,h.block⟩
theorem Fr.drewN {F:List Nat} {a w:World} (h:Fr F a w) (n:Nat):Fr F a (w.drewN n):=⟨h.os,h.tape,h.output,h.size,h.block⟩
theorem Fr.alloc {F:List Nat} {a w:World} (h:Fr F a w) (o:Obj):Fr F a (w.alloc o) :=
 h.trans (G:=[]) ⟨rfl,rfl,rfl,by simp,fun k hk _=>Below.heap_alloc _ _ _ hk⟩ (by simp)
theorem Fr.setCell {F:List Nat} {a w:World} (h:Fr F a w) {p:Addr} (hp:p.block∈F∨a.heap.size≤p.block) (u:Value):Fr F a (w.setCell p u) :=
 h.trans (G:=[p.block]) ⟨rfl,rfl,rfl,by simp [World.setCell],fun k hk hn=>Below.heap_setCell _ _ _ _ (by simpa using hn)⟩ (by simpa using hp)
theorem Fr.n {F:List Nat} {a w:World} (h:Fr F a w) (n:Nat):Fr F a (w.drewN n):=h.drewN n
theorem Fr.d {F:List Nat} {a w:World} (h:Fr F a w):Fr F a w.drew:=h.drew
theorem Fr.a {F:List Nat} {a w:World} (h:Fr F a w) (o:Obj):Fr F a (w.alloc o):=h.alloc o
theorem Fr.s {F:List Nat} {a w:World} (h:Fr F a w) {p:Addr} (hp:p.block∈F∨a.heap.size≤p.block) (u:Value):Fr F a (w.setCell p u):=h.setCell hp u
theorem Fr.grown {F:List Nat} {a w w':World} {row:Option Nat} (h:Fr F a w) (hg:w.grownBy w' row) (hr:∀ k,row=some k→k∈F∨a.heap.size≤k):Fr F a w' :=
 h.trans (G:=row.toList) ⟨hg.os,hg.tape,hg.output,hg.size,fun k hk hn=>hg.block k hk fun e=>hn (by simp [← e])⟩ (by intro x hx;exact hr x (by simpa using hx))
theorem Fr.setBlock {F:List Nat} {a w:World} (h:Fr F a w) {b:Nat} (hp:b∈F∨a.heap.size≤b) (o:Obj):Fr F a { w with heap:=w.heap.setIfInBounds b o } :=
 h.trans (G:=[b]) ⟨rfl,rfl,rfl,by simp,fun k hk hn=>by
  show (w.heap.setIfInBounds b o)[k]?=_
  rw [Array.getElem?_setIfInBounds_ne (by simpa using fun e:b=k=>hn (by simp [e]))]⟩ (by simpa using hp)
theorem Fr.below {w w':World} (h:Fr [] w w'):Below w.heap.size w w':=⟨h.os,h.tape,h.output,h.size,fun k hk=>h.block k hk (by simp)⟩
theorem Fr.cell {F:List Nat} {w w':World} (h:Fr F w w') {p:Addr} (hp:p.block<w.heap.size) (hn:p.block∉F):w'.cell? p=w.cell? p:=World.cell?_of_block (w:=w) (h.block p.block hp hn)
theorem Fr.frozen {F:List Nat} {w w':World} (h:Fr F w w') {p:Addr} (hp:p.block<w.heap.size) (hn:p.block∉F):w'.frozen? p=w.frozen? p:=World.frozen?_of_block (w:=w) (h.block p.block hp hn)
theorem lBk {w:World} {b:Nat} {o:Obj} (h:w.heap[b]?=some o):b<w.heap.size:=(Array.getElem?_eq_some_iff.1 h).1
theorem oOB {w w':World} {base e size n:Nat} {v:Value} {xs:List Value} (h:w.ownsRow base e size v n xs) (hb:∀ g,v.ownBlock=some g→w'.heap[g]?=w.heap[g]?):w'.ownsRow base e size v n xs:=by
 obtain⟨h1,h2⟩:=h
 refine⟨h1,?_⟩
 rcases h2 with h2|⟨g,cap,cur,hv,hg,hh,r⟩
 ·exact .inl h2
 ·exact .inr ⟨g,cap,cur,hv,hg,by rw [hb g (by rw [hv];rfl)];exact hh,r⟩
theorem oLT {w:World} {base e size n:Nat} {v:Value} {xs:List Value} (h:w.ownsRow base e size v n xs) {g:Nat} (hg:v.ownBlock=some g):g<w.heap.size:=by
 rcases h.2 with ⟨h2,_⟩|⟨g',cap,cur,hv,_,hh,_⟩
 ·rw [h2] at hg;cases hg
 ·rw [hv] at hg;cases hg;exact lBk hh
theorem oFM {w:World} {base e size n:Nat} {v:Value} {xs:List Value} (h:w.ownsRow base e size v n xs):∃ a cap,v=.slice a n cap∧(0<n→∃ g,a=some ⟨g,0,none⟩)∧(a=none→n=0∧cap=0):=by
 rcases h.2 with ⟨h2,h0⟩|⟨g,cap,cur,hv,_⟩
 ·exact⟨none,0,by rw [h2,h0],by omega,by omega⟩
 ·exact⟨_,cap,hv,fun _=>⟨g,rfl⟩,by simp⟩
theorem owns_cell {w:World} {base e size n:Nat} {v:Value} {xs:List Value} (h:w.ownsRow base e size v n xs) {g cap:Nat} (hv:v=.slice (some ⟨g,0,none⟩) n cap) {j:Nat} {u:Value} (hj:xs[j]?=some u) :
  w.cell? ⟨g,j,none⟩=some u:=by
 rcases h.2 with ⟨h2,h0⟩|⟨g',cap',cur,hv',_,hh,_,_,hs,ht⟩
 ·rw [h2] at hv;cases hv
 ·rw [hv'] at hv
  cases hv
  have hjl:j<xs.length:=(List.getElem?_eq_some_iff.1 hj).1
  rw [← ht] at hj
  unfold World.cell?
  rw [hh]
  simp only [Option.isSome_none,Bool.false_eq_true,if_false]
  rw [List.getElem?_take] at hj
  split at hj
  ·simpa using hj
  ·cases hj
theorem hEC {w:World} {b:Nat} {cs:Array Value} {t:TypeId} {fr:Nat×Nat} (h:w.heap[b]?=some (.cells cs t fr)) (j:Nat):w.cell? ⟨b,j,none⟩=cs[j]?:=by
 unfold World.cell?;rw [h];rfl
theorem cell_row_add {w:World} {b:Nat} {cs:Array Value} {t:TypeId} {fr:Nat×Nat} (h:w.heap[b]?=some (.cells cs t fr)) (j:Nat):w.cell? ((⟨b,0,none⟩:Addr).add j)=cs[j]?:=by
 rw [← hEC h j]
 congr 1
 unfold Addr.add
 split
 ·rename_i h0;rw [h0]
 ·simp
theorem hEF {w:World} {b:Nat} {cs:Array Value} {t:TypeId} (h:w.heap[b]?=some (.cells cs t (0,0))) (j:Nat):w.frozen? ⟨b,j,none⟩=false:=by
 unfold World.frozen?;rw [h];simp
theorem heap_setCell_here {w:World} {b:Nat} {cs:Array Value} {t:TypeId} {fr:Nat×Nat} (h:w.heap[b]?=some (.cells cs t fr)) (j:Nat) (v:Value):(w.setCell ⟨b,j,none⟩ v).heap[b]?=some (.cells (cs.setIfInBounds j v) t fr):=by
 simp only [World.setCell,Array.getElem?_modify,if_true,h]
 rfl
theorem heap_setCell_else (w:World) (a:Addr) (u:Value) (k:Nat) (h:k≠a.block):(w.setCell a u).heap[k]?=w.heap[k]?:=Below.heap_setCell _ _ _ _ h
theorem hAE (w:World) (o:Obj) (k:Nat) (h:k<w.heap.size):(w.alloc o).heap[k]?=w.heap[k]?:=Below.heap_alloc _ _ _ h
theorem owns_ge {w:World} {base e size n:Nat} {v:Value} {xs:List Value} (h:w.ownsRow base e size v n xs) {g:Nat} (hg:v.ownBlock=some g):base≤g:=by
 rcases h.2 with ⟨h2,_⟩|⟨g',cap,cur,hv,hb,_⟩
 ·rw [h2] at hg;cases hg
 ·rw [hv] at hg;cases hg;exact hb
theorem owns_base {w:World} {base base' e size n:Nat} {v:Value} {xs:List Value} (h:w.ownsRow base e size v n xs) (hb:base'≤base):w.ownsRow base' e size v n xs:=by
 obtain⟨h1,h2⟩:=h
 refine⟨h1,?_⟩
 rcases h2 with h2|⟨g,cap,cur,hv,hg,r⟩
 ·exact .inl h2
 ·exact .inr ⟨g,cap,cur,hv,Nat.le_trans hb hg,r⟩
theorem heap_setCell2 (w:World) (g i j:Nat) (u v:Value) {x:Nat} (h:x≠g):((w.setCell ⟨g,i,none⟩ u).setCell ⟨g,j,none⟩ v).heap[x]?=w.heap[x]?:=by
 rw [Below.heap_setCell _ _ _ _ h,Below.heap_setCell _ _ _ _ h]
def upd (off:Nat) (v:Value):Obj→Obj
 | .cells c e f=>.cells (c.setIfInBounds off v) e f
 | o=>o
theorem hDR (w:World):w.drew.heap=w.heap:=rfl
theorem hDN (w:World) (n:Nat):(w.drewN n).heap=w.heap:=rfl
theorem hAz (w:World) (o:Obj):(w.alloc o).heap.size=w.heap.size+1:=by simp
theorem hSz (w:World) (a:Addr) (u:Value):(w.setCell a u).heap.size=w.heap.size:=by simp [World.setCell]
theorem hAC (w:World) (o:Obj) (b:Nat):(w.alloc o).heap[b]?=if b=w.heap.size then some o else w.heap[b]?:=by
 show (w.heap.push o)[b]?=_
 rw [Array.getElem?_push]
theorem hSC (w:World) (g j:Nat) (u:Value) (b:Nat):(w.setCell ⟨g,j,none⟩ u).heap[b]?=if b=g then (w.heap[b]?).map (upd j u) else w.heap[b]?:=by
 simp only [World.setCell,Array.getElem?_modify]
 by_cases h:g=b
 ·subst h
  simp only [if_true]
  cases w.heap[g]? with
  | none=>rfl
  | some o=>cases o<;>rfl
 ·rw [if_neg h,if_neg fun e=>h e.symm]
theorem oMS {α β:Type} (f:α→β) (a:α):Option.map f (some a)=some (f a):=rfl
theorem lSZ {α:Type} (a b:α) (l:List α):(a::l).set 0 b=b::l:=rfl
theorem lSS {α:Type} (a b:α) (l:List α) (i:Nat):(a::l).set (i+1) b=a::l.set i b:=rfl
theorem uPC (off:Nat) (v:Value) (l:List Value) (e:TypeId) (f:Nat×Nat):upd off v (.cells l.toArray e f)=.cells (l.set off v).toArray e f:=by simp [upd]
theorem append_new {P:Program} {ops:Array Oper} {rest:List Oper} {o:Oper} {a:Act} {W:World} {Q:Exit→Act→World→Prop} (hgd:o.guard=none) {s x:Operand} {t:TypeId}
  (ho:o.op=.call { callee:=.builtin .append,args:=#[s,x],argTypes:=#[t,t] }) {base e:Nat} {z:Value} {size bytes:Nat} (ht:P.underlying t=some (.slice e)) (hinfo:(P.info? e).map (fun i=>(i.zero,i.size,i.bytes))=some (some z,size,bytes))
  (hzs:z.cells.size=size) (hsz:0<size) {v:Value} {n:Nat} {xs:List Value} (hs:a.eval s=v) (hown:W.ownsRow base e size v n xs) {nb c:Nat} {news:List Value} {fr:Nat×Nat} (hx:a.eval x=.slice (some ⟨nb,0,none⟩) 1 c)
  (hnb:W.heap[nb]?=some (.cells news.toArray e fr)) (hl:news.length=size) (h1:∀ u∈news,u.oneCell'=true) (h63:n+1≤maxLen) (hbytes:(n+1)*bytes≤140737488355328) (hbase:base≤W.heap.size)
  (h:∀ g cap w',w'.ownsRow base e size (.slice (some ⟨g,0,none⟩) (n+1) cap) (n+1) (xs++news)→(∀ b,b<W.heap.size→v.ownBlock≠some b→w'.heap[b]?=W.heap[b]?)→Fr v.ownBlock.toList W w'→(v.ownBlock=some g∨g=W.heap.size)→g<w'.heap.size →
   wpList P ops Q rest (a.put o.dst (.slice (some ⟨g,0,none⟩) (n+1) cap)) w'):wpList P ops Q (o::rest) a W:=by
 obtain⟨i,hi,hz0,hz1,hz2⟩:=info_parts hinfo
 refine wpList_append_lies W hgd s x t ho base e i z size bytes ht hi hz0 hz1 hz2 hzs hsz v n xs hs hown ⟨nb,0,none⟩ 1 c news hx (by omega) (fun j u hj=>?_) h1 (by decide) h63 hbytes hbase _ rfl fun g cap w' h1 h2 h3 h4=>h g cap w' h1 (fun b hb hn=>h2.block b hb fun e=>hn e.symm) ((Fr.refl _ _).grown h2 fun k hk=>.inl (by simp [hk])) h3 h4
 rw [cell_row_add hnb j]
 simpa using hj
theorem aBW {P:Program} {c:Code} {Q:Exit→Act→World→Prop} {a:Act} {w:World} (F:World→Prop) (h:F w) (k:∀ w,F w→c.wp P Q a w):c.wp P Q a w:=k w h
def Drew (w w':World):Prop:=∃ n,w'=w.drewN n
theorem Drew.refl (w:World):Drew w w:=⟨0,rfl⟩
theorem Drew.drew {a w:World} (h:Drew a w):Drew a w.drew:=by obtain⟨n,rfl⟩:=h;exact⟨n+1,rfl⟩
theorem Drew.drewN {a w:World} (h:Drew a w) (n:Nat):Drew a (w.drewN n):=by obtain⟨m,rfl⟩:=h;exact⟨m+n,World.drewN_drewN _ _ _⟩
theorem Drew.trans {a b c:World} (h:Drew a b) (k:Drew b c):Drew a c:=by obtain⟨n,rfl⟩:=k;exact h.drewN n
theorem Drew.heap {a w:World} (h:Drew a w):w.heap=a.heap:=by obtain⟨n,rfl⟩:=h;rfl
theorem Drew.fr {a w:World} (h:Drew a w) (F:List Nat):Fr F a w:=by obtain⟨n,rfl⟩:=h;exact (Fr.refl _ _).drewN n
end Go.Proofs.Hp
end
section
namespace Go.Proofs.Hp
open Go Go.RowKit
theorem owns_set {w:World} {base e size n:Nat} {v:Value} {xs:List Value} {g cap j:Nat} (h:w.ownsRow base e size v n xs) (hv:v=.slice (some ⟨g,0,none⟩) n cap) (hj:j<xs.length) (u:Value):(w.setCell ⟨g,j,none⟩ u).ownsRow base e size v n (xs.set j u):=by
 obtain⟨h1,h2⟩:=h
 refine⟨by rw [List.length_set];exact h1,?_⟩
 rcases h2 with ⟨h2,_⟩|⟨g',cap',cur,hv',hb,hh,hn,hm,hs,ht⟩
 ·rw [h2] at hv;cases hv
 ·rw [hv'] at hv
  cases hv
  refine .inr ⟨g,cap,cur.setIfInBounds j u,hv',hb,heap_setCell_here hh j u,hn,hm,by simpa using hs,?_⟩
  rw [Array.toList_setIfInBounds,List.take_set,ht]
theorem owns_frozen {w:World} {base e size n:Nat} {v:Value} {xs:List Value} {g cap:Nat} (h:w.ownsRow base e size v n xs) (hv:v=.slice (some ⟨g,0,none⟩) n cap) (j:Nat):w.frozen? ⟨g,j,none⟩=false:=by
 rcases h.2 with ⟨h2,_⟩|⟨g',cap',cur,hv',_,hh,_⟩
 ·rw [h2] at hv;cases hv
 ·rw [hv'] at hv
  cases hv
  exact hEF hh j
theorem owns_mk {w:World} {base e size n:Nat} {xs:List Value} {g cap:Nat} {cur:Array Value} (hg:w.heap[g]?=some (.cells cur e (0,0))) (hb:base≤g) (hn:n≤cap) (hm:cap≤maxLen) (hs:cur.size=cap*size) (ht:cur.toList.take (n*size)=xs):w.ownsRow base e size (.slice (some ⟨g,0,none⟩) n cap) n xs:=by
 refine⟨?_,.inr ⟨g,cap,cur,rfl,hb,hg,hn,hm,hs,ht⟩⟩
 rw [← ht,List.length_take,Array.length_toList,hs]
 exact Nat.min_eq_left (Nat.mul_le_mul_right _ hn)
theorem fr_append {w wr w9:World} {e size n:Nat} {v:Value} {xs:List Value} (hf:Fr [] w wr) (ho:wr.ownsRow w.heap.size e size v n xs) {o:Obj} (h:Fr v.ownBlock.toList (wr.alloc o) w9):Fr [] w w9 :=
 (hf.alloc o).trans h fun x hx=>.inr (owns_ge ho (by simpa using hx))
theorem sCE (w:World) (a:Addr) (u:Value) {k:Nat} (h:k≠a.block):(w.setCell a u).heap[k]?=w.heap[k]?:=Below.heap_setCell _ _ _ _ h
end Go.Proofs.Hp
end
section
namespace Go.Proofs.Hp
open Go Go.RowKit
def Reads (w:World) (v:Value) (n size:Nat) (xs:List Value):Prop :=
 xs.length=n*size∧∃ a c,v=.slice a n c∧(0<n→∃ g off,a=some ⟨g,off,none⟩∧g<w.heap.size∧∀ j u,xs[j]?=some u→w.cell? ⟨g,off+j,none⟩=some u)
theorem Reads.keep {w w':World} {v:Value} {n size:Nat} {xs:List Value} (h:Reads w v n size xs) (hk:∀ x,v.ownBlock=some x→x<w.heap.size→w'.heap[x]?=w.heap[x]?):Reads w' v n size xs:=by
 obtain⟨h1,a,c,rfl,h2⟩:=h
 refine⟨h1,a,c,rfl,fun hn=>?_⟩
 obtain⟨g,off,rfl,hg,hc⟩:=h2 hn
 have hb:=hk g rfl hg
 refine⟨g,off,rfl,?_,fun j u hj=>?_⟩
 ·have:w.heap[g]?=some w.heap[g]:=Array.getElem?_eq_getElem hg
  exact lBk (hb.trans this)
 ·rw [World.cell?_of_block (w:=w) (a:=⟨g,off+j,none⟩) hb];exact hc j u hj
theorem Reads.fr {w w':World} {v:Value} {n size:Nat} {xs:List Value} (h:Reads w v n size xs) (hf:Fr [] w w'):Reads w' v n size xs:=h.keep fun x _ hx=>hf.block x hx (by simp)
theorem Reads.of_owns {w:World} {base e n size:Nat} {v:Value} {xs:List Value} (h:w.ownsRow base e size v n xs):Reads w v n size xs:=by
 refine⟨h.1,?_⟩
 obtain⟨a,c,rfl,ha,_⟩:=oFM h
 refine⟨a,c,rfl,fun hn=>?_⟩
 obtain⟨g,rfl⟩:=ha hn
 exact⟨g,0,rfl,oLT h rfl,fun j u hj=>by rw [Nat.zero_add];exact owns_cell h rfl hj⟩
theorem reads_blk {w:World} {b n size c:Nat} {cs:List Value} {t:TypeId} {fr:Nat×Nat} (h:w.heap[b]?=some (.cells cs.toArray t fr)) (hl:cs.length=n*size):Reads w (.slice (some ⟨b,0,none⟩) n c) n size cs :=
 ⟨hl,_,_,rfl,fun _=>⟨b,0,rfl,lBk h,fun j u hj=>by rw [Nat.zero_add,hEC h];simpa using hj⟩⟩
end Go.Proofs.Hp
end
section
namespace Go.Proofs.Hp
open Go Go.RowKit
theorem addr_add (g off j:Nat):(⟨g,off,none⟩:Addr).add j=⟨g,off+j,none⟩:=by
 unfold Addr.add
 split
 ·rename_i h0;rw [h0];rfl
 ·rfl
theorem append_reads {P:Program} {ops:Array Oper} {rest:List Oper} {o:Oper} {a:Act} {W:World} {Q:Exit→Act→World→Prop} (hgd:o.guard=none) {s x:Operand} {t:TypeId}
  (ho:o.op=.call { callee:=.builtin .append,args:=#[s,x],argTypes:=#[t,t] }) {base e:Nat} {z:Value} {size bytes:Nat} (ht:P.underlying t=some (.slice e)) (hinfo:(P.info? e).map (fun i=>(i.zero,i.size,i.bytes))=some (some z,size,bytes))
  (hzs:z.cells.size=size) (hsz:0<size) {v:Value} {n:Nat} {xs:List Value} (hs:a.eval s=v) (hown:W.ownsRow base e size v n xs) {ad:Option Addr} {m c:Nat} {news:List Value} (hx:a.eval x=.slice ad m c)
  (hr:Reads W (.slice ad m c) m size news) (hz:ad=none→c=0) (h1:∀ u∈news,u.oneCell'=true) (h63:n+m≤maxLen) (hbytes:(n+m)*bytes≤140737488355328) (hbase:base≤W.heap.size)
  (h:∀ v' w',w'.ownsRow base e size v' (n+m) (xs++news)→Fr v.ownBlock.toList W w'→(v'.ownBlock=v.ownBlock∨v'.ownBlock=some W.heap.size)→wpList P ops Q rest (a.put o.dst v') w'):wpList P ops Q (o::rest) a W:=by
 obtain⟨i0,hi0,hi1,hi2,hi3⟩:=info_parts hinfo
 have hfr:∀ w',W.grownBy w' v.ownBlock→Fr v.ownBlock.toList W w':=fun w' h2=>(Fr.refl _ _).grown h2 fun k hk=>.inl (by simp [hk])
 cases ad with
 | none =>
  have hc0:c=0:=hz rfl
  subst hc0
  obtain⟨hl,a',c',he,hp⟩:=hr
  cases he
  have h0:m=0:=by
   rcases Nat.eq_zero_or_pos m with h|h
   ·exact h
   ·obtain⟨g,off,hh,_⟩:=hp h;cases hh
  subst h0
  obtain rfl:news=[]:=List.eq_nil_of_length_eq_zero (by rw [hl,Nat.zero_mul])
  refine wpList_append_own_none hgd s x _ ho base _ i0 size ht hi0 v n xs hs hown hx ?_
  exact h v W (by simpa using hown) (Fr.refl _ _) (.inl rfl)
 | some ad =>
  obtain⟨hl,a',c',he,hp⟩:=hr
  cases he
  rcases Nat.eq_zero_or_pos m with h0|h0
  ·subst h0
   obtain rfl:news=[]:=List.eq_nil_of_length_eq_zero (by rw [hl,Nat.zero_mul])
   exact wpList_append_own_at _ hgd s x _ ho base _ i0 z size bytes ht hi0 hi1 hi2 hi3 hzs hsz v n xs hs hown ad _ c _ hx (by simp) (by simp) h1 h63 hbytes hbase fun v' w' h1 h2 _ h4=>h v' w' h1 (hfr w' h2) h4
  ·obtain⟨g,off,hh,_,hc⟩:=hp h0
   cases hh
   refine wpList_append_own_at _ hgd s x _ ho base _ i0 z size bytes ht hi0 hi1 hi2 hi3 hzs hsz v n xs hs hown ⟨g,off,none⟩ _ c _ hx hl (fun j u hj=>?_) h1 h63 hbytes hbase fun v' w' h1 h2 _ h4=>h v' w' h1 (hfr w' h2) h4
   rw [addr_add];exact hc j u hj
def iv (l:List Int):List Value:=l.map fun n=>Value.int .i64 n
theorem iv_length (l:List Int):(iv l).length=l.length:=by simp [iv]
theorem iv_one (l:List Int):∀ u∈iv l,u.oneCell'=true:=by
 intro u hu
 obtain⟨n,_,rfl⟩:=List.mem_map.1 hu
 rfl
theorem iv_append (l m:List Int):iv l++iv m=iv (l++m):=by simp [iv]
theorem iv_get {l:List Int} {i:Nat} {x:Int} (h:l[i]?=some x):(iv l)[i]?=some (.int .i64 x):=by rw [iv,List.getElem?_map,h];rfl
theorem iv_set (l:List Int) (i:Nat) (x:Int):(iv l).set i (.int .i64 x)=iv (l.set i x):=by unfold iv;rw [List.map_set]
theorem iv_replicate (n:Nat):List.replicate n (Value.int .i64 0)=iv (List.replicate n 0):=by simp [iv]
def IntsAt (w:World) (v:Value) (l:List Int):Prop:=Reads w v l.length 1 (iv l)
theorem IntsAt.fr {w w':World} {v:Value} {l:List Int} (h:IntsAt w v l) (hf:Fr [] w w'):IntsAt w' v l:=Reads.fr h hf
theorem IntsAt.form {w:World} {v:Value} {l:List Int} (h:IntsAt w v l):∃ a c,v=.slice a l.length c:=by
 obtain⟨_,a,c,h,_⟩:=h
 exact⟨a,c,h⟩
def RowsAt (w:World) (v:Value) (L:List (List Int)):Prop:=∃ vs:List Value,Reads w v L.length 1 vs∧∀ (i:Nat) (r:List Int),L[i]?=some r→∃ u,vs[i]?=some u∧IntsAt w u r
theorem RowsAt.fr {w w':World} {v:Value} {L:List (List Int)} (h:RowsAt w v L) (hf:Fr [] w w'):RowsAt w' v L:=by
 obtain⟨vs,h1,h2⟩:=h
 refine⟨vs,h1.fr hf,fun i r hi=>?_⟩
 obtain⟨u,hu,hr⟩:=h2 i r hi
 exact⟨u,hu,hr.fr hf⟩
theorem RowsAt.form {w:World} {v:Value} {L:List (List Int)} (h:RowsAt w v L):∃ a c,v=.slice a L.length c:=by
 obtain⟨_,⟨_,a,c,h,_⟩,_⟩:=h
 exact⟨a,c,h⟩
theorem RowsAt.row {w:World} {a:Option Addr} {n c:Nat} {L:List (List Int)} (h:RowsAt w (.slice a n c) L) {i:Nat} {r:List Int} (hi:L[i]?=some r) :
  ∃ g off ra rc,a=some ⟨g,off,none⟩∧g<w.heap.size∧w.cell? ⟨g,off+i,none⟩=some (.slice ra r.length rc)∧IntsAt w (.slice ra r.length rc) r:=by
 obtain⟨vs,⟨hl,a',c',he,hp⟩,h2⟩:=h
 cases he
 obtain⟨u,hu,hr⟩:=h2 i r hi
 obtain⟨ra,rc,rfl⟩:=hr.form
 have hlt:=(List.getElem?_eq_some_iff.1 hi).1
 obtain⟨g,off,rfl,hg,hc⟩:=hp (by omega)
 exact⟨g,off,ra,rc,rfl,hg,hc i _ hu,hr⟩
theorem IntsAt.cell {w:World} {a:Option Addr} {n c:Nat} {l:List Int} (h:IntsAt w (.slice a n c) l) {i:Nat} {x:Int} (hi:l[i]?=some x) :
  ∃ g off,a=some ⟨g,off,none⟩∧g<w.heap.size∧w.cell? ⟨g,off+i,none⟩=some (.int .i64 x):=by
 obtain⟨hl,a',c',he,hp⟩:=h
 cases he
 have hlt:=(List.getElem?_eq_some_iff.1 hi).1
 obtain⟨g,off,rfl,hg,hc⟩:=hp (by omega)
 exact⟨g,off,rfl,hg,hc i _ (iv_get hi)⟩
theorem IntsAt.part {w:World} {a:Option Addr} {g off n c c':Nat} {l:List Int} (h:IntsAt w (.slice (some ⟨g,off,none⟩) n c) l) {i m:Nat} (hm:i+m≤l.length):IntsAt w (.slice (some ⟨g,off+i,none⟩) m c') ((l.drop i).take m):=by
 obtain⟨hl,a',c'',he,hp⟩:=h
 cases he
 have hlen:((l.drop i).take m).length=m:=by simp;omega
 refine⟨by simp [iv],_,_,by rw [hlen],fun h0=>?_⟩
 rw [hlen] at h0
 obtain⟨g',off',he,hg,hc⟩:=hp (by omega)
 cases he
 refine⟨g,off+i,rfl,hg,fun j u hj=>?_⟩
 have hj':(iv l)[i+j]?=some u:=by
  unfold iv at hj ⊢
  rw [List.getElem?_map,List.getElem?_take] at hj
  split at hj
  ·rw [List.getElem?_drop] at hj;rw [List.getElem?_map];exact hj
  ·simp at hj
 have:=hc (i+j) u hj'
 rwa [← Nat.add_assoc] at this
theorem RowsAt.of_owns {w:World} {base e:Nat} {v:Value} {vs:List Value} {L:List (List Int)} (h:w.ownsRow base e 1 v L.length vs) (hr:∀ (i:Nat) (r:List Int),L[i]?=some r→∃ u,vs[i]?=some u∧IntsAt w u r):RowsAt w v L:=⟨vs,Reads.of_owns h,hr⟩
end Go.Proofs.Hp
end
section
namespace Go.Proofs.Qs
structure K4 where
 a:Int
 b:Int
 c:Int
 d:Int
 deriving DecidableEq
def lvl (s:Int) (ls:List Int) (id:Int):Int:=if id<0 then -1 else if id<s then 0 else ls.getD (id - s).toNat (-1)
def levs (s:Int) (ns:List K4):List Int:=ns.foldl (fun ls k=>ls++[lvl s ls k.a+1]) []
theorem levs_snoc (s:Int) (ns:List K4) (k:K4):levs s (ns++[k])=levs s ns++[lvl s (levs s ns) k.a+1]:=by simp [levs]
theorem levs_length (s:Int) (ns:List K4):(levs s ns).length=ns.length:=by
 rcases List.eq_nil_or_concat ns with rfl|⟨l,x,rfl⟩
 ·rfl
 ·rw [List.concat_eq_append,levs_snoc]
  simp [levs_length s l]
termination_by ns.length
decreasing_by simp_all
theorem levs_take (s:Int) (ns:List K4):∀ i,(levs s ns).take i=levs s (ns.take i):=by
 intro i
 rcases List.eq_nil_or_concat ns with rfl|⟨l,x,rfl⟩
 ·simp [levs]
 ·rw [List.concat_eq_append,levs_snoc]
  rcases Nat.lt_or_ge l.length i with h|h
  ·rw [List.take_of_length_le (by simp [levs_length];omega),List.take_of_length_le (by simp;omega),levs_snoc]
  ·rw [List.take_append_of_le_length (by simp [levs_length];omega),List.take_append_of_le_length h,levs_take s l i]
termination_by ns.length
decreasing_by simp_all
def Fits (s:Int) (ns:List K4) (k:K4):Prop :=
 0≤lvl s (levs s ns) k.a∧lvl s (levs s ns) k.a<256∧lvl s (levs s ns) k.b=lvl s (levs s ns) k.a∧lvl s (levs s ns) k.c=lvl s (levs s ns) k.a∧lvl s (levs s ns) k.d=lvl s (levs s ns) k.a
instance (s:Int) (ns:List K4) (k:K4):Decidable (Fits s ns k):=by unfold Fits;exact inferInstance
def GoodQ (s:Int) (ns:List K4):Prop:=2≤s∧s≤8∧ns.length≤100000∧ns.Nodup∧∀ i k,ns[i]?=some k→Fits s (ns.take i) k
theorem GoodQ.nil {s:Int} (h:2≤s) (h':s≤8):GoodQ s []:=⟨h,h',by simp,by simp,by simp⟩
theorem GoodQ.snoc {s:Int} {ns:List K4} {k:K4} (h:GoodQ s ns) (hk:Fits s ns k) (hn:k∉ns) (hl:ns.length<100000):GoodQ s (ns++[k]):=by
 obtain⟨h1,h2,h3,h4,h5⟩:=h
 refine⟨h1,h2,by simp;omega,?_,?_⟩
 ·rw [List.nodup_append]
  refine⟨h4,by simp,?_⟩
  intro x hx y hy e
  simp at hy
  subst hy;subst e;exact hn hx
 ·intro i x hx
  rcases Nat.lt_or_ge i ns.length with hi|hi
  ·rw [List.getElem?_append_left hi] at hx
   rw [List.take_append_of_le_length (by omega)]
   exact h5 i x hx
  ·have hi':i=ns.length:=by
    have:=(List.getElem?_eq_some_iff.1 hx).1
    simp at this;omega
   subst hi'
   simp at hx
   subst hx
   simpa using hk
def joinIn (s:Int) (ns:List K4) (k:K4):(Int×Int)×List K4 :=
 match ns.idxOf? k with
  | some i=>((s+i,0),ns)
  | none=>if 100000≤ns.length then ((0,6),ns) else ((s+ns.length,0),ns++[k])
def join (s:Int) (ns:List K4) (k:K4):(Int×Int)×List K4 :=
 if lvl s (levs s ns) k.a<0∨lvl s (levs s ns) k.b<0∨lvl s (levs s ns) k.c<0∨lvl s (levs s ns) k.d<0 then ((0,13),ns)
 else if ¬ Fits s ns k then ((0,18),ns)
 else joinIn s ns k
theorem joinIn_hit {s:Int} {ns:List K4} {k:K4} {i:Nat} (h:ns.idxOf? k=some i):joinIn s ns k=((s+i,0),ns):=by unfold joinIn;rw [h]
theorem joinIn_full {s:Int} {ns:List K4} {k:K4} (h:ns.idxOf? k=none) (hl:100000≤ns.length):joinIn s ns k=((0,6),ns):=by unfold joinIn;rw [h];simp only [if_pos hl]
theorem joinIn_new {s:Int} {ns:List K4} {k:K4} (h:ns.idxOf? k=none) (hl:ns.length<100000):joinIn s ns k=((s+ns.length,0),ns++[k]):=by unfold joinIn;rw [h];simp only [if_neg (by omega:¬ 100000≤ns.length)]
def pairs (s:Int) (ns:List K4):List (K4×Int):=ns.zipIdx.map fun p=>(p.1,s+p.2)
theorem pairs_keys (s:Int) (ns:List K4):(pairs s ns).map (·.1)=ns:=by
 simp [pairs,List.map_map,Function.comp_def]
theorem pairs_snoc (s:Int) (ns:List K4) (k:K4):pairs s (ns++[k])=pairs s ns++[(k,s+ns.length)]:=by
 simp [pairs,List.zipIdx_append]
theorem pairs_get (s:Int) (ns:List K4) (i:Nat):(pairs s ns)[i]?=(ns[i]?).map fun k=>(k,s+i):=by
 simp [pairs,List.getElem?_zipIdx]
 cases ns[i]?<;>simp
end Go.Proofs.Qs
end
section
namespace Go.Proofs.Qs
theorem lvl_kn {s:Int} {ls:List Int} {id:Int} (_:0≤s) (h:0≤lvl s ls id):0≤id∧id<s+ls.length:=by
 unfold lvl at h
 by_cases h1:id<0
 ·rw [if_pos h1] at h;omega
 ·rw [if_neg h1] at h
  by_cases h2:id<s
  ·omega
  ·rw [if_neg h2] at h
   by_cases h3:id<s+ls.length
   ·omega
   ·rw [List.getD_eq_getElem?_getD,List.getElem?_eq_none (by omega)] at h
    simp at h
theorem lvl_tk {s:Int} {ns:List K4} {i:Nat} {id:Int} (h:id<s+i):lvl s (levs s (ns.take i)) id=lvl s (levs s ns) id:=by
 unfold lvl
 by_cases h1:id<0
 ·rw [if_pos h1,if_pos h1]
 ·rw [if_neg h1,if_neg h1]
  by_cases h2:id<s
  ·rw [if_pos h2,if_pos h2]
  ·rw [if_neg h2,if_neg h2,← levs_take,List.getD_eq_getElem?_getD,List.getD_eq_getElem?_getD,List.getElem?_take,if_pos (by omega)]
theorem good_kids {s:Int} {ns:List K4} (h:GoodQ s ns) {i:Nat} {k:K4} (hk:ns[i]?=some k) :
  (0≤k.a∧k.a<s+i)∧(0≤k.b∧k.b<s+i)∧(0≤k.c∧k.c<s+i)∧(0≤k.d∧k.d<s+i):=by
 have hs:0≤s:=by have:=h.1;omega
 have hi:=(List.getElem?_eq_some_iff.1 hk).1
 obtain⟨h0,h1,h2,h3,h4⟩:=h.2.2.2.2 i k hk
 have hl:(levs s (ns.take i)).length=i:=by rw [levs_length,List.length_take];omega
 have ka:=lvl_kn hs h0
 have kb:=lvl_kn hs (by rw [h2];exact h0)
 have kc:=lvl_kn hs (by rw [h3];exact h0)
 have kd:=lvl_kn hs (by rw [h4];exact h0)
 rw [hl] at ka kb kc kd
 exact⟨ka,kb,kc,kd⟩
theorem good_lvl {s:Int} {ns:List K4} (h:GoodQ s ns) {i:Nat} {k:K4} (hk:ns[i]?=some k) :
  lvl s (levs s ns) (s+i)=lvl s (levs s ns) k.a+1∧0≤lvl s (levs s ns) k.a∧lvl s (levs s ns) k.a<256∧lvl s (levs s ns) k.b=lvl s (levs s ns) k.a∧lvl s (levs s ns) k.c=lvl s (levs s ns) k.a∧lvl s (levs s ns) k.d=lvl s (levs s ns) k.a:=by
 have hs:=h.1
 have hi:=(List.getElem?_eq_some_iff.1 hk).1
 obtain⟨⟨_,ka⟩,⟨_,kb⟩,⟨_,kc⟩,⟨_,kd⟩⟩:=good_kids h hk
 obtain⟨h0,h1,h2,h3,h4⟩:=h.2.2.2.2 i k hk
 rw [lvl_tk ka] at h0 h1 h2 h3 h4
 rw [lvl_tk kb] at h2
 rw [lvl_tk kc] at h3
 rw [lvl_tk kd] at h4
 refine⟨?_,h0,h1,h2,h3,h4⟩
 have e:(levs s ns)[i]?=some (lvl s (levs s (ns.take i)) k.a+1):=by
  have h5:levs s (ns.take (i+1))=levs s (ns.take i)++[lvl s (levs s (ns.take i)) k.a+1]:=by
   rw [List.take_add_one,hk];exact levs_snoc s _ k
  have h6:=congrArg (fun l:List Int=>l[i]?) h5
  rw [← levs_take,List.getElem?_take,if_pos (by omega),List.getElem?_append_right (by rw [levs_length,List.length_take];omega),levs_length,List.length_take,Nat.min_eq_left (by omega),Nat.sub_self] at h6
  exact h6
 rw [lvl_tk ka] at e
 show (if s+(i:Int)<0 then -1 else if s+(i:Int)<s then 0 else (levs s ns).getD (s+(i:Int) - s).toNat (-1))=_
 rw [if_neg (by omega),if_neg (by omega),show (s+(i:Int) - s).toNat=i by omega,List.getD_eq_getElem?_getD,e];rfl
inductive Tr where
 | leaf (n:Int)
 | node (a b c d:Tr)
 deriving DecidableEq
def tget (s:Int) (l:List Tr) (id:Int):Tr:=if id<s then .leaf id else l.getD (id - s).toNat (.leaf 0)
def trs (s:Int) (ns:List K4):List Tr:=ns.foldl (fun l k=>l++[.node (tget s l k.a) (tget s l k.b) (tget s l k.c) (tget s l k.d)]) []
theorem trs_snoc (s:Int) (ns:List K4) (k:K4):trs s (ns++[k])=trs s ns++[.node (tget s (trs s ns) k.a) (tget s (trs s ns) k.b) (tget s (trs s ns) k.c) (tget s (trs s ns) k.d)]:=by simp [trs]
theorem trs_length (s:Int) (ns:List K4):(trs s ns).length=ns.length:=by
 rcases List.eq_nil_or_concat ns with rfl|⟨l,x,rfl⟩
 ·rfl
 ·rw [List.concat_eq_append,trs_snoc]
  simp [trs_length s l]
termination_by ns.length
decreasing_by simp_all
theorem trs_take (s:Int) (ns:List K4):∀ i,(trs s ns).take i=trs s (ns.take i):=by
 intro i
 rcases List.eq_nil_or_concat ns with rfl|⟨l,x,rfl⟩
 ·simp [trs]
 ·rw [List.concat_eq_append,trs_snoc]
  rcases Nat.lt_or_ge l.length i with h|h
  ·rw [List.take_of_length_le (by simp [trs_length];omega),List.take_of_length_le (by simp;omega),trs_snoc]
  ·rw [List.take_append_of_le_length (by simp [trs_length];omega),List.take_append_of_le_length h,trs_take s l i]
termination_by ns.length
decreasing_by simp_all
def tr (s:Int) (ns:List K4) (id:Int):Tr:=tget s (trs s ns) id
theorem tr_tk {s:Int} {ns:List K4} {i:Nat} {id:Int} (h:id<s+i):tr s (ns.take i) id=tr s ns id:=by
 unfold tr tget
 by_cases h2:id<s
 ·rw [if_pos h2,if_pos h2]
 ·rw [if_neg h2,if_neg h2,← trs_take,List.getD_eq_getElem?_getD,List.getD_eq_getElem?_getD,List.getElem?_take,if_pos (by omega)]
theorem tr_app {s:Int} {ns ms:List K4} {id:Int} (h:id<s+ns.length):tr s (ns++ms) id=tr s ns id:=by
 have:=tr_tk (s:=s) (ns:=ns++ms) (i:=ns.length) h
 rw [List.take_left'] at this
 ·exact this.symm
 ·rfl
theorem tr_leaf {s:Int} {ns:List K4} {id:Int} (h:id<s):tr s ns id=.leaf id:=by unfold tr tget;rw [if_pos h]
theorem tr_node {s:Int} {ns:List K4} (h:GoodQ s ns) {i:Nat} {k:K4} (hk:ns[i]?=some k):tr s ns (s+i)=.node (tr s ns k.a) (tr s ns k.b) (tr s ns k.c) (tr s ns k.d):=by
 have hi:=(List.getElem?_eq_some_iff.1 hk).1
 obtain⟨⟨_,ka⟩,⟨_,kb⟩,⟨_,kc⟩,⟨_,kd⟩⟩:=good_kids h hk
 have e:(trs s ns)[i]?=some (.node (tr s (ns.take i) k.a) (tr s (ns.take i) k.b) (tr s (ns.take i) k.c) (tr s (ns.take i) k.d)):=by
  have h5:trs s (ns.take (i+1))=trs s (ns.take i)++[.node (tr s (ns.take i) k.a) (tr s (ns.take i) k.b) (tr s (ns.take i) k.c) (tr s (ns.take i) k.d)]:=by
   rw [List.take_add_one,hk];exact trs_snoc s _ k
  have h6:=congrArg (fun l:List Tr=>l[i]?) h5
  rw [← trs_take,List.getElem?_take,if_pos (by omega),List.getElem?_append_right (by rw [trs_length,List.length_take];omega),trs_length,List.length_take,Nat.min_eq_left (by omega),Nat.sub_self] at h6
  exact h6
 rw [tr_tk ka,tr_tk kb,tr_tk kc,tr_tk kd] at e
 show (if s+(i:Int)<s then Tr.leaf _ else (trs s ns).getD (s+(i:Int) - s).toNat _)=_
 rw [if_neg (by omega),show (s+(i:Int) - s).toNat=i by omega,List.getD_eq_getElem?_getD,e];rfl
def Kn (s:Int) (ns:List K4) (id:Int):Prop:=0≤id∧id<s+ns.length
instance (s:Int) (ns:List K4) (id:Int):Decidable (Kn s ns id):=by unfold Kn;exact inferInstance
theorem Kn.cases {s:Int} {ns:List K4} {id:Int} (h:Kn s ns id):(0≤id∧id<s)∨∃ i k,id=s+(i:Nat)∧ns[i]?=some k:=by
 by_cases h1:id<s
 ·exact .inl ⟨h.1,h1⟩
 ·right
  have:=h.2
  exact⟨(id - s).toNat,ns[(id - s).toNat]'(by omega),by omega,List.getElem?_eq_getElem _⟩
theorem tr_inj {s:Int} {ns:List K4} (h:GoodQ s ns):∀ (n:Nat) {x y:Int},x<s+n→Kn s ns x→Kn s ns y→tr s ns x=tr s ns y→x=y
 | 0,x,y,hx,kx,ky,he=>by
  rw [tr_leaf (by omega)] at he
  rcases ky.cases with ⟨_,hy⟩|⟨j,k,rfl,hk⟩
  ·rw [tr_leaf hy] at he;cases he;rfl
  ·rw [tr_node h hk] at he;cases he
 | n+1,x,y,hx,kx,ky,he=>by
  rcases kx.cases with ⟨_,hxs⟩|⟨i,k,rfl,hk⟩
  ·exact tr_inj h n (by omega) kx ky he
  ·rcases ky.cases with ⟨_,hy⟩|⟨j,l,rfl,hl⟩
   ·rw [tr_leaf hy,tr_node h hk] at he;cases he
   ·rw [tr_node h hk,tr_node h hl] at he
    injection he with e1 e2 e3 e4
    obtain⟨a1,b1,c1,d1⟩:=good_kids h hk
    obtain⟨a2,b2,c2,d2⟩:=good_kids h hl
    have hi:=(List.getElem?_eq_some_iff.1 hk).1
    have hj:=(List.getElem?_eq_some_iff.1 hl).1
    have f1:=tr_inj h n (by omega) ⟨a1.1,by omega⟩ ⟨a2.1,by omega⟩ e1
    have f2:=tr_inj h n (by omega) ⟨b1.1,by omega⟩ ⟨b2.1,by omega⟩ e2
    have f3:=tr_inj h n (by omega) ⟨c1.1,by omega⟩ ⟨c2.1,by omega⟩ e3
    have f4:=tr_inj h n (by omega) ⟨d1.1,by omega⟩ ⟨d2.1,by omega⟩ e4
    have hkl:k=l:=by
     cases k;cases l
     simp only at f1 f2 f3 f4
     rw [f1,f2,f3,f4]
    subst hkl
    have:=(List.getElem?_inj hi h.2.2.2.1).1 (hk.trans hl.symm)
    omega
def Tr.ht:Tr→Nat
 | .leaf _=>0
 | .node a _ _ _=>a.ht+1
theorem lvl_ht {s:Int} {ns:List K4} (h:GoodQ s ns):∀ (n:Nat) {x:Int},x<s+n→Kn s ns x→lvl s (levs s ns) x=(tr s ns x).ht
 | 0,x,hx,kx=>by
  rw [tr_leaf (by omega)]
  unfold lvl
  rw [if_neg (by have:=kx.1;omega),if_pos (by omega)];rfl
 | n+1,x,hx,kx=>by
  rcases kx.cases with ⟨h0,hxs⟩|⟨i,k,rfl,hk⟩
  ·rw [tr_leaf hxs]
   unfold lvl
   rw [if_neg (by omega),if_pos hxs];rfl
  ·obtain⟨a1,_⟩:=good_kids h hk
   have hi:=(List.getElem?_eq_some_iff.1 hk).1
   rw [tr_node h hk,(good_lvl h hk).1,lvl_ht h n (by omega) ⟨a1.1,by omega⟩]
   show _=(((tr s ns k.a).ht+1:Nat):Int)
   omega
theorem kn_lvl {s:Int} {ns:List K4} (h:GoodQ s ns) (id:Int):0≤lvl s (levs s ns) id↔Kn s ns id:=by
 constructor
 ·intro hl
  have:=lvl_kn (by have:=h.1;omega) hl
  rwa [levs_length] at this
 ·intro hk
  rw [lvl_ht h ns.length (by have:=hk.2;omega) hk];omega
end Go.Proofs.Qs
end
section
namespace Go.Proofs.Ev
open Qs
abbrev Fld:=Int→Int→Int
def p2 (n:Nat):Int:=((2 ^ n:Nat):Int)
theorem p2_succ (n:Nat):p2 (n+1)=p2 n+p2 n:=by unfold p2;rw [Nat.pow_succ];omega
theorem p2_pos (n:Nat):0<p2 n:=by unfold p2;have:=Nat.pow_pos (n:=n) (show 0<2 by omega);omega
theorem p2_zero:p2 0=1:=rfl
def mk:Nat→Fld→Int→Int→Tr
 | 0,F,x,y=>.leaf (F x y)
 | n+1,F,x,y=>.node (mk n F x y) (mk n F (x+p2 n) y) (mk n F x (y+p2 n)) (mk n F (x+p2 n) (y+p2 n))
def Full:Nat→Tr→Prop
 | 0,.leaf _=>True
 | n+1,.node a b c d=>Full n a∧Full n b∧Full n c∧Full n d
 | _,_=>False
def cell:Nat→Tr→Fld
 | 0,.leaf v=>fun _ _=>v
 | n+1,.node a b c d=>fun x y=>if y<p2 n then (if x<p2 n then cell n a x y else cell n b (x - p2 n) y) else (if x<p2 n then cell n c x (y - p2 n) else cell n d (x - p2 n) (y - p2 n))
 | _,_=>fun _ _=>0
theorem mk_full:∀ (n:Nat) (F:Fld) (x y:Int),Full n (mk n F x y)
 | 0,F,x,y=>trivial
 | n+1,F,x,y=>⟨mk_full n _ _ _,mk_full n _ _ _,mk_full n _ _ _,mk_full n _ _ _⟩
theorem mk_congr:∀ (n:Nat) {F G:Fld} {x y u v:Int},(∀ i j,0≤i→i<p2 n→0≤j→j<p2 n→F (x+i) (y+j)=G (u+i) (v+j))→mk n F x y=mk n G u v
 | 0,F,G,x,y,u,v,h=>by
  have:=h 0 0 (by omega) (by rw [p2_zero];omega) (by omega) (by rw [p2_zero];omega)
  simp only [Int.add_zero] at this
  show Tr.leaf _=Tr.leaf _
  rw [this]
 | n+1,F,G,x,y,u,v,h=>by
  have hp:=p2_succ n
  have hq:=p2_pos n
  show Tr.node _ _ _ _=Tr.node _ _ _ _
  rw [mk_congr n (F:=F) (G:=G) (x:=x) (y:=y) (u:=u) (v:=v) fun i j a b c d=>h i j a (by omega) c (by omega),
   mk_congr n (F:=F) (G:=G) (x:=x+p2 n) (y:=y) (u:=u+p2 n) (v:=v) fun i j a b c d=>by rw [Int.add_assoc,Int.add_assoc];exact h _ j (by omega) (by omega) c (by omega),
   mk_congr n (F:=F) (G:=G) (x:=x) (y:=y+p2 n) (u:=u) (v:=v+p2 n) fun i j a b c d=>by rw [Int.add_assoc y,Int.add_assoc v];exact h i _ a (by omega) (by omega) (by omega),
   mk_congr n (F:=F) (G:=G) (x:=x+p2 n) (y:=y+p2 n) (u:=u+p2 n) (v:=v+p2 n) fun i j a b c d=>by rw [Int.add_assoc x,Int.add_assoc u,Int.add_assoc y,Int.add_assoc v];exact h _ _ (by omega) (by omega) (by omega) (by omega)]
theorem cell_mk:∀ (n:Nat) {F:Fld} {x y i j:Int},0≤i→i<p2 n→0≤j→j<p2 n→cell n (mk n F x y) i j=F (x+i) (y+j)
 | 0,F,x,y,i,j,a,b,c,d=>by
  rw [p2_zero] at b d
  obtain rfl:i=0:=by omega
  obtain rfl:j=0:=by omega
  simp [mk,cell]
 | n+1,F,x,y,i,j,a,b,c,d=>by
  have hp:=p2_succ n
  show (if j<p2 n then (if i<p2 n then _ else _) else _)=_
  split
  ·split
   ·exact cell_mk n a (by omega) c (by omega)
   ·rw [cell_mk n (by omega) (by omega) c (by omega)];congr 1;omega
  ·split
   ·rw [cell_mk n a (by omega) (by omega) (by omega)];congr 1;omega
   ·rw [cell_mk n (by omega) (by omega) (by omega) (by omega)];congr 1<;>omega
theorem mk_cell:∀ (n:Nat) {t:Tr},Full n t→mk n (cell n t) 0 0=t
 | 0,.leaf v,_=>rfl
 | 0,.node _ _ _ _,h=>h.elim
 | n+1,.leaf _,h=>h.elim
 | n+1,.node a b c d,h=>by
  obtain⟨ha,hb,hc,hd⟩:=h
  have hq:=p2_pos n
  show Tr.node _ _ _ _=_
  have k1:mk n (cell (n+1) (.node a b c d)) 0 0=mk n (cell n a) 0 0:=mk_congr n fun i j h1 h2 h3 h4=>by
   show (if 0+j<p2 n then (if 0+i<p2 n then _ else _) else _)=_
   rw [if_pos (by omega),if_pos (by omega)]
  have k2:mk n (cell (n+1) (.node a b c d)) (0+p2 n) 0=mk n (cell n b) 0 0:=mk_congr n fun i j h1 h2 h3 h4=>by
   show (if 0+j<p2 n then (if 0+p2 n+i<p2 n then _ else _) else _)=_
   rw [if_pos (by omega),if_neg (by omega)];congr 1;omega
  have k3:mk n (cell (n+1) (.node a b c d)) 0 (0+p2 n)=mk n (cell n c) 0 0:=mk_congr n fun i j h1 h2 h3 h4=>by
   show (if 0+p2 n+j<p2 n then _ else (if 0+i<p2 n then _ else _))=_
   rw [if_neg (by omega),if_pos (by omega)];congr 1;omega
  have k4:mk n (cell (n+1) (.node a b c d)) (0+p2 n) (0+p2 n)=mk n (cell n d) 0 0:=mk_congr n fun i j h1 h2 h3 h4=>by
   show (if 0+p2 n+j<p2 n then _ else (if 0+p2 n+i<p2 n then _ else _))=_
   rw [if_neg (by omega),if_neg (by omega)];congr 1<;>omega
  rw [k1,k2,k3,k4,mk_cell n ha,mk_cell n hb,mk_cell n hc,mk_cell n hd]
theorem full_ht:∀ (n:Nat) {t:Tr},Full n t→t.ht=n
 | 0,.leaf v,_=>rfl
 | 0,.node _ _ _ _,h=>h.elim
 | n+1,.leaf _,h=>h.elim
 | n+1,.node a b c d,h=>by show a.ht+1=n+1;rw [full_ht n h.1]
def Local (r:Int) (g:Fld→Fld):Prop:=∀ {F H:Fld} {x y u v:Int},(∀ i j,-r≤i→i≤r→-r≤j→j≤r→F (x+i) (y+j)=H (u+i) (v+j))→g F x y=g H u v
def it (g:Fld→Fld):Nat→Fld→Fld
 | 0,F=>F
 | n+1,F=>g (it g n F)
theorem it_add (g:Fld→Fld) (a b:Nat) (F:Fld):it g (a+b) F=it g a (it g b F):=by
 induction a with
 | zero=>rw [Nat.zero_add];rfl
 | succ a ih=>rw [Nat.add_right_comm,it,ih];rfl
theorem it_local {r:Int} {g:Fld→Fld} (hg:Local r g) {F H:Fld} {x y u v L:Int} (h:∀ i j,0≤i→i<L→0≤j→j<L→F (x+i) (y+j)=H (u+i) (v+j)):∀ (m:Nat) {i j:Int},r*m≤i→i<L - r*m→r*m≤j→j<L - r*m→it g m F (x+i) (y+j)=it g m H (u+i) (v+j)
 | 0,i,j,a,b,c,d=>by
  simp only [Int.natCast_zero,Int.mul_zero,Int.sub_zero] at a b c d
  exact h i j a b c d
 | m+1,i,j,a,b,c,d=>by
  have e:r*((m+1:Nat):Int)=r*m+r:=by rw [Int.natCast_add,Int.mul_add];simp
  rw [e] at a b c d
  refine hg fun p q a1 a2 a3 a4=>?_
  rw [Int.add_assoc,Int.add_assoc,Int.add_assoc,Int.add_assoc]
  exact it_local hg h m (by omega) (by omega) (by omega) (by omega)
def stp (g:Fld→Fld) (n k:Nat) (t:Tr):Tr:=mk (n - 1) (it g (2 ^ k) (cell n t)) (p2 (n - 2)) (p2 (n - 2))
theorem p2_le {m n:Nat} (h:m≤n):p2 m≤p2 n:=by unfold p2;exact Int.ofNat_le.2 (Nat.pow_le_pow_right (by omega) h)
theorem stp_mk {r:Int} {g:Fld→Fld} (hg:Local r g) {n k:Nat} (hn:2≤n) (hr:r*p2 k≤p2 (n - 2)) (F:Fld) (x y:Int) :
  stp g n k (mk n F x y)=mk (n - 1) (it g (2 ^ k) F) (x+p2 (n - 2)) (y+p2 (n - 2)):=by
 obtain⟨n,rfl⟩:∃ m,n=m+2:=⟨n - 2,by omega⟩
 simp only [Nat.add_sub_cancel] at hr ⊢
 unfold stp
 have e1:=p2_succ n
 have e2:=p2_succ (n+1)
 refine mk_congr _ fun i j a b c d=>?_
 rw [show n+2 - 1=n+1 from rfl] at b d
 rw [Int.add_assoc x,Int.add_assoc y]
 have:=it_local hg (F:=cell (n+2) (mk (n+2) F x y)) (H:=F) (x:=0) (y:=0) (u:=x) (v:=y) (L:=p2 (n+2)) (fun i j a b c d=>by rw [Int.zero_add,Int.zero_add];exact cell_mk _ a b c d) (2 ^ k) (i:=p2 n+i) (j:=p2 n+j)
  (by show r*p2 k≤_;omega) (by show _<_ - r*p2 k;rw [show n+2=n+1+1 from rfl,e2];omega) (by show r*p2 k≤_;omega) (by show _<_ - r*p2 k;rw [show n+2=n+1+1 from rfl,e2];omega)
 rw [Int.zero_add,Int.zero_add] at this
 exact this
def Tr.q:Tr→Nat→Tr
 | .node a _ _ _,0=>a
 | .node _ b _ _,1=>b
 | .node _ _ c _,2=>c
 | .node _ _ _ d,_+3=>d
 | .leaf v,_=>.leaf v
def g16 (t:Tr) (y x:Nat):Tr:=Tr.q (Tr.q t (2*(y / 2)+x / 2)) (2*(y % 2)+x % 2)
def four4 (f:Nat→Nat→Tr) (y x:Nat):Tr:=.node (f y x) (f y (x+1)) (f (y+1) x) (f (y+1) (x+1))
def ctr (t:Tr):Tr:=.node (Tr.q (Tr.q t 0) 3) (Tr.q (Tr.q t 1) 2) (Tr.q (Tr.q t 2) 1) (Tr.q (Tr.q t 3) 0)
theorem g16_mk (n:Nat) (F:Fld) (x y:Int) {i j:Nat} (hi:i<4) (hj:j<4):g16 (mk (n+2) F x y) i j=mk n F (x+j*p2 n) (y+i*p2 n):=by
 have e:=p2_succ n
 have key:∀ (a b c d:Int),a=c→b=d→mk n F a b=mk n F c d:=by rintro a b c d rfl rfl;rfl
 match i,hi,j,hj with
 | 0,_,0,_|0,_,1,_|0,_,2,_|0,_,3,_|1,_,0,_|1,_,1,_|1,_,2,_|1,_,3,_|2,_,0,_|2,_,1,_|2,_,2,_|2,_,3,_|3,_,0,_|3,_,1,_|3,_,2,_|3,_,3,_ =>
  refine key _ _ _ _ ?_ ?_<;>(try simp only [e])<;>(try simp)<;>(try omega)
theorem four_mk {n:Nat} {F:Fld} {f:Nat→Nat→Tr} {a b:Int} {i j:Nat} (h:∀ u v,u≤1→v≤1→f (i+u) (j+v)=mk n F (a+v*p2 n) (b+u*p2 n)):four4 f i j=mk (n+1) F a b:=by
 have h00:=h 0 0 (by omega) (by omega)
 have h01:=h 0 1 (by omega) (by omega)
 have h10:=h 1 0 (by omega) (by omega)
 have h11:=h 1 1 (by omega) (by omega)
 simp only [Nat.add_zero,Int.natCast_zero,Int.zero_mul,Int.add_zero,Int.natCast_one,Int.one_mul] at h00 h01 h10 h11
 unfold four4
 rw [h00,h01,h10,h11];rfl
theorem ctr_mk (n:Nat) (F:Fld) (x y:Int):ctr (mk (n+2) F x y)=mk (n+1) F (x+p2 n) (y+p2 n):=by
 have e:=p2_succ n
 have key:∀ (a b c d:Int),a=c→b=d→mk n F a b=mk n F c d:=by rintro a b c d rfl rfl;rfl
 show Tr.node (mk n F _ _) (mk n F _ _) (mk n F _ _) (mk n F _ _)=Tr.node (mk n F _ _) (mk n F _ _) (mk n F _ _) (mk n F _ _)
 congr 1<;>refine key _ _ _ _ ?_ ?_<;>omega
def part9 (t:Tr):Nat→Nat→Tr:=four4 (g16 t)
def inner9 (g:Fld→Fld) (n k:Nat) (two:Bool) (t:Tr) (i j:Nat):Tr:=if two then stp g (n - 1) (k - 1) (part9 t i j) else ctr (part9 t i j)
def out4 (g:Fld→Fld) (n k:Nat) (two:Bool) (t:Tr):Nat→Nat→Tr:=four4 (inner9 g n k two t)
def res4 (g:Fld→Fld) (n k:Nat) (two:Bool) (t:Tr) (i j:Nat):Tr:=stp g (n - 1) (if two then k - 1 else k) (out4 g n k two t i j)
theorem hash {r:Int} {g:Fld→Fld} (hg:Local r g) {n k:Nat} {two:Bool} {t:Tr} (hn:3≤n) (ht:Full n t) (h1:two=true→1≤k∧r*p2 (k - 1)≤p2 (n - 3)) (h2:two=false→r*p2 k≤p2 (n - 3)) :
  four4 (res4 g n k two t) 0 0=stp g n k t:=by
 obtain⟨n,rfl⟩:∃ m,n=m+3:=⟨n - 3,by omega⟩
 simp only [Nat.add_sub_cancel] at h1 h2
 have e0:=p2_succ n
 have e1:=p2_succ (n+1)
 obtain⟨F,rfl⟩:∃ F,t=mk (n+3) F 0 0:=⟨_,(mk_cell _ ht).symm⟩
 have hp:∀ i j,i<3→j<3→part9 (mk (n+3) F 0 0) i j=mk (n+2) F (j*p2 (n+1)) (i*p2 (n+1)):=by
  intro i j hi hj
  refine four_mk fun u v hu hv=>?_
  rw [g16_mk (n+1) F 0 0 (by omega) (by omega),Int.zero_add,Int.zero_add,Int.natCast_add,Int.natCast_add,Int.add_mul,Int.add_mul]
 cases two with
 | true =>
  obtain⟨hk,hr⟩:=h1 rfl
  have hin:∀ i j,i<3→j<3→inner9 g (n+3) k true (mk (n+3) F 0 0) i j=mk (n+1) (it g (2 ^ (k - 1)) F) (j*p2 (n+1)+p2 n) (i*p2 (n+1)+p2 n):=by
   intro i j hi hj
   show stp g (n+2) (k - 1) _=_
   rw [hp i j hi hj,stp_mk hg (by omega) (by exact hr)];rfl
  have hout:∀ i j,i<2→j<2→out4 g (n+3) k true (mk (n+3) F 0 0) i j=mk (n+2) (it g (2 ^ (k - 1)) F) (j*p2 (n+1)+p2 n) (i*p2 (n+1)+p2 n):=by
   intro i j hi hj
   refine four_mk fun u v hu hv=>?_
   rw [hin _ _ (by omega) (by omega),Int.natCast_add,Int.natCast_add,Int.add_mul,Int.add_mul]
   congr 1<;>omega
  have hres:∀ i j,i<2→j<2→res4 g (n+3) k true (mk (n+3) F 0 0) i j=mk (n+1) (it g (2 ^ (k - 1)) (it g (2 ^ (k - 1)) F)) (p2 (n+1)+j*p2 (n+1)) (p2 (n+1)+i*p2 (n+1)):=by
   intro i j hi hj
   show stp g (n+2) (k - 1) _=_
   rw [hout i j hi hj,stp_mk hg (by omega) (by exact hr)]
   show mk (n+1) _ (_+p2 n) (_+p2 n)=_
   congr 1<;>omega
  have e:(2:Nat) ^ k=2 ^ (k - 1)+2 ^ (k - 1):=by
   obtain⟨m,rfl⟩:∃ m,k=m+1:=⟨k - 1,by omega⟩
   rw [Nat.pow_succ,Nat.add_sub_cancel];omega
  have hk2:r*p2 k≤p2 (n+3 - 2):=by
   have h3:p2 k=p2 (k - 1)+p2 (k - 1):=by unfold p2;rw [e];omega
   rw [h3,Int.mul_add]
   show _≤p2 (n+1)
   omega
  rw [stp_mk hg (by omega) hk2,e,it_add]
  refine (four_mk (n:=n+1) fun u v hu hv=>?_)
  rw [Nat.zero_add,Nat.zero_add,hres u v (by omega) (by omega)]
  show _=mk (n+1) _ (0+p2 (n+1)+_) (0+p2 (n+1)+_)
  rw [Int.zero_add]
 | false =>
  have hr:=h2 rfl
  have hin:∀ i j,i<3→j<3→inner9 g (n+3) k false (mk (n+3) F 0 0) i j=mk (n+1) F (j*p2 (n+1)+p2 n) (i*p2 (n+1)+p2 n):=by
   intro i j hi hj
   show ctr _=_
   rw [hp i j hi hj,ctr_mk]
  have hout:∀ i j,i<2→j<2→out4 g (n+3) k false (mk (n+3) F 0 0) i j=mk (n+2) F (j*p2 (n+1)+p2 n) (i*p2 (n+1)+p2 n):=by
   intro i j hi hj
   refine four_mk fun u v hu hv=>?_
   rw [hin _ _ (by omega) (by omega),Int.natCast_add,Int.natCast_add,Int.add_mul,Int.add_mul]
   congr 1<;>omega
  have hres:∀ i j,i<2→j<2→res4 g (n+3) k false (mk (n+3) F 0 0) i j=mk (n+1) (it g (2 ^ k) F) (p2 (n+1)+j*p2 (n+1)) (p2 (n+1)+i*p2 (n+1)):=by
   intro i j hi hj
   show stp g (n+2) k _=_
   rw [hout i j hi hj,stp_mk hg (by omega) (by exact hr)]
   show mk (n+1) _ (_+p2 n) (_+p2 n)=_
   congr 1<;>omega
  have hk2:r*p2 k≤p2 (n+3 - 2):=by
   show _≤p2 (n+1)
   have:=p2_pos n
   omega
  rw [stp_mk hg (by omega) hk2]
  refine (four_mk (n:=n+1) fun u v hu hv=>?_)
  rw [Nat.zero_add,Nat.zero_add,hres u v (by omega) (by omega)]
  show _=mk (n+1) _ (0+p2 (n+1)+_) (0+p2 (n+1)+_)
  rw [Int.zero_add]
theorem stp_full (g:Fld→Fld) (n k:Nat) (t:Tr):Full (n - 1) (stp g n k t):=mk_full _ _ _ _
end Go.Proofs.Ev
end
