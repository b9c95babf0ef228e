/- Own texts of this claim, part 4: no condition. -/
import Derived.WalkKit
import Derived.WalkSpells
import Derived.WalkLawsBesides
import Derived.Deep.AppendLies
import Derived.Deep.Draws
import Derived.Laws.OwnMore
import Derived.Test.YtebolidfbflkmaaGreatRows
import Derived.Lib.Hide
import Derived.LoopN
import Derived.Laws.Bits64b
import Derived.Laws.BitsAllLaws
import Derived.WalkSmall
import Derived.WalkMore
import Derived.Test.YtebolidfbflkmaaGreatZN2
import Derived.Test.YtebolidfbflkmaaGreatZN0
set_option linter.unusedVariables false
set_option linter.unusedSimpArgs false
section
namespace Go.Proofs.Hp
open Go Go.RowKit
structure Fr (F:List Nat) (w w':World):Prop where
 os:w'.os=w.os
 tape:w'.tape=w.tape
 output:w'.output=w.output
 size:w.heap.size≤w'.heap.size
 block:∀ b,b<w.heap.size→b∉F→w'.heap[b]?=w.heap[b]?
theorem Fr.refl (F:List Nat) (w:World):Fr F w w:=⟨rfl,rfl,rfl,Nat.le_refl _,fun _ _ _=>rfl⟩
theorem Fr.mono {F G:List Nat} {w w':World} (h:Fr F w w') (hs:∀ x∈F,x∈G):Fr G w w':=⟨h.os,h.tape,h.output,h.size,fun b hb hn=>h.block b hb fun hx=>hn (hs b hx)⟩
theorem Fr.trans {F G:List Nat} {a b c:World} (h:Fr F a b) (k:Fr G b c) (hG:∀ x∈G,x∈F∨a.heap.size≤x):Fr F a c :=
 ⟨k.os.trans h.os,k.tape.trans h.tape,k.output.trans h.output,Nat.le_trans h.size k.size,fun i hi hn =>
  (k.block i (Nat.lt_of_lt_of_le hi h.size) fun hx=>by rcases hG i hx with h1|h1<;>first|exact hn h1|omega).trans (h.block i hi hn)⟩
theorem Fr.trans0 {F:List Nat} {a b c:World} (h:Fr F a b) (k:Fr [] b c):Fr F a c:=h.trans k i_
theorem Fr.drew {F:List Nat} {a w:World} (h:Fr F a w):Fr F a w.drew:=⟨h.os,h.tape,h.output,h.size,h.block⟩
theorem Fr.drewN {F:List Nat} {a w:World} (h:Fr F a w) (n:Nat):Fr F a (w.drewN n):=⟨h.os,h.tape,h.output,h.size,h.block⟩
theorem Fr.alloc {F:List Nat} {a w:World} (h:Fr F a w) (o:Obj):Fr F a (w.alloc o) :=
 h.trans (G:=[]) ⟨rfl,rfl,rfl,i_,fun k hk _=>Below.heap_alloc _ _ _ hk⟩ i_
theorem Fr.setCell {F:List Nat} {a w:World} (h:Fr F a w) {p:Addr} (hp:p.block∈F∨a.heap.size≤p.block) (u:Value):Fr F a (w.setCell p u) :=
 h.trans (G:=[p.block]) ⟨rfl,rfl,rfl,by simp [World.setCell],fun k hk hn=>Below.heap_setCell _ _ _ _ (by simpa using hn)⟩ (by simpa using hp)
theorem Fr.n {F:List Nat} {a w:World} (h:Fr F a w) (n:Nat):Fr F a (w.drewN n):=h.drewN n
theorem Fr.d {F:List Nat} {a w:World} (h:Fr F a w):Fr F a w.drew:=h.drew
theorem Fr.a {F:List Nat} {a w:World} (h:Fr F a w) (o:Obj):Fr F a (w.alloc o):=h.alloc o
theorem Fr.s {F:List Nat} {a w:World} (h:Fr F a w) {p:Addr} (hp:p.block∈F∨a.heap.size≤p.block) (u:Value):Fr F a (w.setCell p u):=h.setCell hp u
theorem Fr.grown {F:List Nat} {a w w':World} {row:Option Nat} (h:Fr F a w) (hg:w.grownBy w' row) (hr:∀ k,row=some k→k∈F∨a.heap.size≤k):Fr F a w' :=
 h.trans (G:=row.toList) ⟨hg.os,hg.tape,hg.output,hg.size,fun k hk hn=>hg.block k hk fun e=>hn (by simp [← e])⟩ (by intro x hx;exact hr x (by simpa using hx))
theorem Fr.setBlock {F:List Nat} {a w:World} (h:Fr F a w) {b:Nat} (hp:b∈F∨a.heap.size≤b) (o:Obj):Fr F a { w with heap:=w.heap.setIfInBounds b o } :=
 h.trans (G:=[b]) ⟨rfl,rfl,rfl,i_,fun k hk hn=>by
  show (w.heap.setIfInBounds b o)[k]?=_
  rw [Array.getElem?_setIfInBounds_ne (by simpa using fun e:b=k=>hn (by simp [e]))]⟩ (by simpa using hp)
theorem Fr.below {w w':World} (h:Fr [] w w'):Below w.heap.size w w':=⟨h.os,h.tape,h.output,h.size,fun k hk=>h.block k hk i_⟩
theorem Fr.cell {F:List Nat} {w w':World} (h:Fr F w w') {p:Addr} (hp:p.block<w.heap.size) (hn:p.block∉F):w'.cell? p=w.cell? p:=World.cell?_of_block (w:=w) (h.block p.block hp hn)
theorem Fr.frozen {F:List Nat} {w w':World} (h:Fr F w w') {p:Addr} (hp:p.block<w.heap.size) (hn:p.block∉F):w'.frozen? p=w.frozen? p:=World.frozen?_of_block (w:=w) (h.block p.block hp hn)
theorem lBk {w:World} {b:Nat} {o:Obj} (h:w.heap[b]?=some o):b<w.heap.size:=(Array.getElem?_eq_some_iff.1 h).1
theorem oOB {w w':World} {base e size n:Nat} {v:Value} {xs:List Value} (h:w.ownsRow base e size v n xs) (hb:∀ g,v.ownBlock=some g→w'.heap[g]?=w.heap[g]?):w'.ownsRow base e size v n xs:=by
 obtain⟨h1,h2⟩:=h;refine⟨h1,?_⟩;rcases h2 with h2|⟨g,cap,cur,hv,hg,hh,r⟩
 ·exact .inl h2
 ·exact .inr ⟨g,cap,cur,hv,hg,by rw [hb g (by rw [hv];rfl)];exact hh,r⟩
theorem oLT {w:World} {base e size n:Nat} {v:Value} {xs:List Value} (h:w.ownsRow base e size v n xs) {g:Nat} (hg:v.ownBlock=some g):g<w.heap.size:=by
 rcases h.2 with ⟨h2,_⟩|⟨g',cap,cur,hv,_,hh,_⟩
 ·rw [h2] at hg;cases hg
 ·rw [hv] at hg;cases hg;exact lBk hh
theorem oFM {w:World} {base e size n:Nat} {v:Value} {xs:List Value} (h:w.ownsRow base e size v n xs):∃ a cap,v=.slice a n cap∧(0<n→∃ g,a=some ⟨g,0,none⟩)∧(a=none→n=0∧cap=0):=by
 rcases h.2 with ⟨h2,h0⟩|⟨g,cap,cur,hv,_⟩
 ·exact⟨none,0,by rw [h2,h0],o_,o_⟩
 ·exact⟨_,cap,hv,fun _=>⟨g,rfl⟩,i_⟩
theorem owns_cell {w:World} {base e size n:Nat} {v:Value} {xs:List Value} (h:w.ownsRow base e size v n xs) {g cap:Nat} (hv:v=.slice (some ⟨g,0,none⟩) n cap) {j:Nat} {u:Value} (hj:xs[j]?=some u) :
  w.cell? ⟨g,j,none⟩=some u:=by
 rcases h.2 with ⟨h2,h0⟩|⟨g',cap',cur,hv',_,hh,_,_,hs,ht⟩
 ·rw [h2] at hv;cases hv
 ·rw [hv'] at hv;cases hv;have hjl:j<xs.length:=(List.getElem?_eq_some_iff.1 hj).1;rw [← ht] at hj;unfold World.cell?;rw [hh];simp only [Option.isSome_none,Bool.false_eq_true,if_false];rw [List.getElem?_take] at hj;split at hj;·simpa using hj
  ·cases hj
theorem hEC {w:World} {b:Nat} {cs:Array Value} {t:TypeId} {fr:Nat×Nat} (h:w.heap[b]?=some (.cells cs t fr)) (j:Nat):w.cell? ⟨b,j,none⟩=cs[j]?:=by unfold World.cell?;rw [h];rfl
theorem e2_ {w:World} {b:Nat} {cs:Array Value} {t:TypeId} {fr:Nat×Nat} (h:w.heap[b]?=some (.cells cs t fr)):w.cell? ⟨b,0,none⟩=cs[0]?∧w.cell? ⟨b,1,none⟩=cs[1]?:=⟨hEC h 0,hEC h 1⟩
theorem l2_ {w:World} {b:Nat} {cs:Array Value} {t:TypeId} {fr:Nat×Nat} (h:w.heap[b]?=some (.cells cs t fr)):w.cell? ⟨b,0,none⟩=cs[0]?∧w.cell? ⟨b,1,none⟩=cs[1]?∧b<w.heap.size:=⟨hEC h 0,hEC h 1,lBk h⟩
theorem e3_ {w:World} {b:Nat} {cs:Array Value} {t:TypeId} {fr:Nat×Nat} (h:w.heap[b]?=some (.cells cs t fr)):w.cell? ⟨b,0,none⟩=cs[0]?∧w.cell? ⟨b,1,none⟩=cs[1]?∧w.cell? ⟨b,2,none⟩=cs[2]?:=⟨hEC h 0,hEC h 1,hEC h 2⟩
theorem l3_ {w:World} {b:Nat} {cs:Array Value} {t:TypeId} {fr:Nat×Nat} (h:w.heap[b]?=some (.cells cs t fr)):w.cell? ⟨b,0,none⟩=cs[0]?∧w.cell? ⟨b,1,none⟩=cs[1]?∧w.cell? ⟨b,2,none⟩=cs[2]?∧b<w.heap.size:=⟨hEC h 0,hEC h 1,hEC h 2,lBk h⟩
theorem e4_ {w:World} {b:Nat} {cs:Array Value} {t:TypeId} {fr:Nat×Nat} (h:w.heap[b]?=some (.cells cs t fr)):w.cell? ⟨b,0,none⟩=cs[0]?∧w.cell? ⟨b,1,none⟩=cs[1]?∧w.cell? ⟨b,2,none⟩=cs[2]?∧w.cell? ⟨b,3,none⟩=cs[3]?:=⟨hEC h 0,hEC h 1,hEC h 2,hEC h 3⟩
theorem l4_ {w:World} {b:Nat} {cs:Array Value} {t:TypeId} {fr:Nat×Nat} (h:w.heap[b]?=some (.cells cs t fr)):w.cell? ⟨b,0,none⟩=cs[0]?∧w.cell? ⟨b,1,none⟩=cs[1]?∧w.cell? ⟨b,2,none⟩=cs[2]?∧w.cell? ⟨b,3,none⟩=cs[3]?∧b<w.heap.size:=⟨hEC h 0,hEC h 1,hEC h 2,hEC h 3,lBk h⟩
theorem e5_ {w:World} {b:Nat} {cs:Array Value} {t:TypeId} {fr:Nat×Nat} (h:w.heap[b]?=some (.cells cs t fr)):w.cell? ⟨b,0,none⟩=cs[0]?∧w.cell? ⟨b,1,none⟩=cs[1]?∧w.cell? ⟨b,2,none⟩=cs[2]?∧w.cell? ⟨b,3,none⟩=cs[3]?∧w.cell? ⟨b,4,none⟩=cs[4]?:=⟨hEC h 0,hEC h 1,hEC h 2,hEC h 3,hEC h 4⟩
theorem l5_ {w:World} {b:Nat} {cs:Array Value} {t:TypeId} {fr:Nat×Nat} (h:w.heap[b]?=some (.cells cs t fr)):w.cell? ⟨b,0,none⟩=cs[0]?∧w.cell? ⟨b,1,none⟩=cs[1]?∧w.cell? ⟨b,2,none⟩=cs[2]?∧w.cell? ⟨b,3,none⟩=cs[3]?∧w.cell? ⟨b,4,none⟩=cs[4]?∧b<w.heap.size:=⟨hEC h 0,hEC h 1,hEC h 2,hEC h 3,hEC h 4,lBk h⟩
theorem e6_ {w:World} {b:Nat} {cs:Array Value} {t:TypeId} {fr:Nat×Nat} (h:w.heap[b]?=some (.cells cs t fr)):w.cell? ⟨b,0,none⟩=cs[0]?∧w.cell? ⟨b,1,none⟩=cs[1]?∧w.cell? ⟨b,2,none⟩=cs[2]?∧w.cell? ⟨b,3,none⟩=cs[3]?∧w.cell? ⟨b,4,none⟩=cs[4]?∧w.cell? ⟨b,5,none⟩=cs[5]?:=⟨hEC h 0,hEC h 1,hEC h 2,hEC h 3,hEC h 4,hEC h 5⟩
theorem l6_ {w:World} {b:Nat} {cs:Array Value} {t:TypeId} {fr:Nat×Nat} (h:w.heap[b]?=some (.cells cs t fr)):w.cell? ⟨b,0,none⟩=cs[0]?∧w.cell? ⟨b,1,none⟩=cs[1]?∧w.cell? ⟨b,2,none⟩=cs[2]?∧w.cell? ⟨b,3,none⟩=cs[3]?∧w.cell? ⟨b,4,none⟩=cs[4]?∧w.cell? ⟨b,5,none⟩=cs[5]?∧b<w.heap.size:=⟨hEC h 0,hEC h 1,hEC h 2,hEC h 3,hEC h 4,hEC h 5,lBk h⟩
theorem e7_ {w:World} {b:Nat} {cs:Array Value} {t:TypeId} {fr:Nat×Nat} (h:w.heap[b]?=some (.cells cs t fr)):w.cell? ⟨b,0,none⟩=cs[0]?∧w.cell? ⟨b,1,none⟩=cs[1]?∧w.cell? ⟨b,2,none⟩=cs[2]?∧w.cell? ⟨b,3,none⟩=cs[3]?∧w.cell? ⟨b,4,none⟩=cs[4]?∧w.cell? ⟨b,5,none⟩=cs[5]?∧w.cell? ⟨b,6,none⟩=cs[6]?:=⟨hEC h 0,hEC h 1,hEC h 2,hEC h 3,hEC h 4,hEC h 5,hEC h 6⟩
theorem l7_ {w:World} {b:Nat} {cs:Array Value} {t:TypeId} {fr:Nat×Nat} (h:w.heap[b]?=some (.cells cs t fr)):w.cell? ⟨b,0,none⟩=cs[0]?∧w.cell? ⟨b,1,none⟩=cs[1]?∧w.cell? ⟨b,2,none⟩=cs[2]?∧w.cell? ⟨b,3,none⟩=cs[3]?∧w.cell? ⟨b,4,none⟩=cs[4]?∧w.cell? ⟨b,5,none⟩=cs[5]?∧w.cell? ⟨b,6,none⟩=cs[6]?∧b<w.heap.size:=⟨hEC h 0,hEC h 1,hEC h 2,hEC h 3,hEC h 4,hEC h 5,hEC h 6,lBk h⟩
theorem e8_ {w:World} {b:Nat} {cs:Array Value} {t:TypeId} {fr:Nat×Nat} (h:w.heap[b]?=some (.cells cs t fr)):w.cell? ⟨b,0,none⟩=cs[0]?∧w.cell? ⟨b,1,none⟩=cs[1]?∧w.cell? ⟨b,2,none⟩=cs[2]?∧w.cell? ⟨b,3,none⟩=cs[3]?∧w.cell? ⟨b,4,none⟩=cs[4]?∧w.cell? ⟨b,5,none⟩=cs[5]?∧w.cell? ⟨b,6,none⟩=cs[6]?∧w.cell? ⟨b,7,none⟩=cs[7]?:=⟨hEC h 0,hEC h 1,hEC h 2,hEC h 3,hEC h 4,hEC h 5,hEC h 6,hEC h 7⟩
theorem l8_ {w:World} {b:Nat} {cs:Array Value} {t:TypeId} {fr:Nat×Nat} (h:w.heap[b]?=some (.cells cs t fr)):w.cell? ⟨b,0,none⟩=cs[0]?∧w.cell? ⟨b,1,none⟩=cs[1]?∧w.cell? ⟨b,2,none⟩=cs[2]?∧w.cell? ⟨b,3,none⟩=cs[3]?∧w.cell? ⟨b,4,none⟩=cs[4]?∧w.cell? ⟨b,5,none⟩=cs[5]?∧w.cell? ⟨b,6,none⟩=cs[6]?∧w.cell? ⟨b,7,none⟩=cs[7]?∧b<w.heap.size:=⟨hEC h 0,hEC h 1,hEC h 2,hEC h 3,hEC h 4,hEC h 5,hEC h 6,hEC h 7,lBk h⟩
theorem cell_row_add {w:World} {b:Nat} {cs:Array Value} {t:TypeId} {fr:Nat×Nat} (h:w.heap[b]?=some (.cells cs t fr)) (j:Nat):w.cell? ((⟨b,0,none⟩:Addr).add j)=cs[j]?:=by
 rw [← hEC h j];congr 1;unfold Addr.add;split;·rename_i h0;rw [h0]
 ·simp
theorem hEF {w:World} {b:Nat} {cs:Array Value} {t:TypeId} (h:w.heap[b]?=some (.cells cs t (0,0))) (j:Nat):w.frozen? ⟨b,j,none⟩=false:=by unfold World.frozen?;rw [h];simp
theorem heap_setCell_here {w:World} {b:Nat} {cs:Array Value} {t:TypeId} {fr:Nat×Nat} (h:w.heap[b]?=some (.cells cs t fr)) (j:Nat) (v:Value):(w.setCell ⟨b,j,none⟩ v).heap[b]?=some (.cells (cs.setIfInBounds j v) t fr):=by simp only [World.setCell,Array.getElem?_modify,if_true,h];rfl
theorem heap_setCell_else (w:World) (a:Addr) (u:Value) (k:Nat) (h:k≠a.block):(w.setCell a u).heap[k]?=w.heap[k]?:=Below.heap_setCell _ _ _ _ h
theorem hAE (w:World) (o:Obj) (k:Nat) (h:k<w.heap.size):(w.alloc o).heap[k]?=w.heap[k]?:=Below.heap_alloc _ _ _ h
theorem owns_ge {w:World} {base e size n:Nat} {v:Value} {xs:List Value} (h:w.ownsRow base e size v n xs) {g:Nat} (hg:v.ownBlock=some g):base≤g:=by
 rcases h.2 with ⟨h2,_⟩|⟨g',cap,cur,hv,hb,_⟩
 ·rw [h2] at hg;cases hg
 ·rw [hv] at hg;cases hg;exact hb
theorem owns_base {w:World} {base base' e size n:Nat} {v:Value} {xs:List Value} (h:w.ownsRow base e size v n xs) (hb:base'≤base):w.ownsRow base' e size v n xs:=by
 obtain⟨h1,h2⟩:=h;refine⟨h1,?_⟩;rcases h2 with h2|⟨g,cap,cur,hv,hg,r⟩
 ·exact .inl h2
 ·exact .inr ⟨g,cap,cur,hv,Nat.le_trans hb hg,r⟩
theorem heap_setCell2 (w:World) (g i j:Nat) (u v:Value) {x:Nat} (h:x≠g):((w.setCell ⟨g,i,none⟩ u).setCell ⟨g,j,none⟩ v).heap[x]?=w.heap[x]?:=by rw [Below.heap_setCell _ _ _ _ h,Below.heap_setCell _ _ _ _ h]
def upd (off:Nat) (v:Value):Obj→Obj
 | .cells c e f=>.cells (c.setIfInBounds off v) e f
 | o=>o
theorem hDR (w:World):w.drew.heap=w.heap:=rfl
theorem hDN (w:World) (n:Nat):(w.drewN n).heap=w.heap:=rfl
theorem hAz (w:World) (o:Obj):(w.alloc o).heap.size=w.heap.size+1:=by simp
theorem hSz (w:World) (a:Addr) (u:Value):(w.setCell a u).heap.size=w.heap.size:=by simp [World.setCell]
theorem hAC (w:World) (o:Obj) (b:Nat):(w.alloc o).heap[b]?=if b=w.heap.size then some o else w.heap[b]?:=by show (w.heap.push o)[b]?=_;rw [Array.getElem?_push]
theorem hSC (w:World) (g j:Nat) (u:Value) (b:Nat):(w.setCell ⟨g,j,none⟩ u).heap[b]?=if b=g then (w.heap[b]?).map (upd j u) else w.heap[b]?:=by
 simp only [World.setCell,Array.getElem?_modify];by_cases h:g=b;·
  subst h;simp only [if_true];cases w.heap[g]? with
  | none=>rfl
  | some o=>cases o<;>rfl
 ·rw [if_neg h,if_neg fun e=>h e.symm]
theorem oMS {α β:Type} (f:α→β) (a:α):Option.map f (some a)=some (f a):=rfl
theorem lSZ {α:Type} (a b:α) (l:List α):(a::l).set 0 b=b::l:=rfl
theorem lSS {α:Type} (a b:α) (l:List α) (i:Nat):(a::l).set (i+1) b=a::l.set i b:=rfl
theorem uPC (off:Nat) (v:Value) (l:List Value) (e:TypeId) (f:Nat×Nat):upd off v (.cells l.toArray e f)=.cells (l.set off v).toArray e f:=by simp [upd]
theorem append_new {P:Program} {ops:Array Oper} {rest:List Oper} {o:Oper} {a:Act} {W:World} {Q:Exit→Act→World→Prop} (hgd:o.guard=none) {s x:Operand} {t:TypeId}
  (ho:o.op=.call { callee:=.builtin .append,args:=#[s,x],argTypes:=#[t,t] }) {base e:Nat} {z:Value} {size bytes:Nat} (ht:P.underlying t=some (.slice e)) (hinfo:(P.info? e).map (fun i=>(i.zero,i.size,i.bytes))=some (some z,size,bytes))
  (hzs:z.cells.size=size) (hsz:0<size) {v:Value} {n:Nat} {xs:List Value} (hs:a.eval s=v) (hown:W.ownsRow base e size v n xs) {nb c:Nat} {news:List Value} {fr:Nat×Nat} (hx:a.eval x=.slice (some ⟨nb,0,none⟩) 1 c)
  (hnb:W.heap[nb]?=some (.cells news.toArray e fr)) (hl:news.length=size) (h1:∀ u∈news,u.oneCell'=true) (h63:n+1≤maxLen) (hbytes:(n+1)*bytes≤140737488355328) (hbase:base≤W.heap.size)
  (h:∀ g cap w',w'.ownsRow base e size (.slice (some ⟨g,0,none⟩) (n+1) cap) (n+1) (xs++news)→(∀ b,b<W.heap.size→v.ownBlock≠some b→w'.heap[b]?=W.heap[b]?)→Fr v.ownBlock.toList W w'→(v.ownBlock=some g∨g=W.heap.size)→g<w'.heap.size →
   wpList P ops Q rest (a.put o.dst (.slice (some ⟨g,0,none⟩) (n+1) cap)) w'):wpList P ops Q (o::rest) a W:=by
 obtain⟨i,hi,hz0,hz1,hz2⟩:=info_parts hinfo;refine wpList_append_lies W hgd s x t ho base e i z size bytes ht hi hz0 hz1 hz2 hzs hsz v n xs hs hown ⟨nb,0,none⟩ 1 c news hx o_ (fun j u hj=>?_) h1 (by decide) h63 hbytes hbase _ rfl fun g cap w' h1 h2 h3 h4=>h g cap w' h1 (fun b hb hn=>h2.block b hb fun e=>hn e.symm) ((Fr.refl _ _).grown h2 fun k hk=>.inl (by simp [hk])) h3 h4;rw [cell_row_add hnb j];simpa using hj
theorem aBW {P:Program} {c:Code} {Q:Exit→Act→World→Prop} {a:Act} {w:World} (F:World→Prop) (h:F w) (k:∀ w,F w→c.wp P Q a w):c.wp P Q a w:=k w h
def Drew (w w':World):Prop:=∃ n,w'=w.drewN n
theorem Drew.refl (w:World):Drew w w:=⟨0,rfl⟩
theorem Drew.drew {a w:World} (h:Drew a w):Drew a w.drew:=by obtain⟨n,rfl⟩:=h;exact⟨n+1,rfl⟩
theorem Drew.drewN {a w:World} (h:Drew a w) (n:Nat):Drew a (w.drewN n):=by obtain⟨m,rfl⟩:=h;exact⟨m+n,World.drewN_drewN _ _ _⟩
theorem Drew.trans {a b c:World} (h:Drew a b) (k:Drew b c):Drew a c:=by obtain⟨n,rfl⟩:=k;exact h.drewN n
theorem Drew.heap {a w:World} (h:Drew a w):w.heap=a.heap:=by obtain⟨n,rfl⟩:=h;rfl
theorem Drew.fr {a w:World} (h:Drew a w) (F:List Nat):Fr F a w:=by obtain⟨n,rfl⟩:=h;exact (Fr.refl _ _).drewN n
theorem owns_set {w:World} {base e size n:Nat} {v:Value} {xs:List Value} {g cap j:Nat} (h:w.ownsRow base e size v n xs) (hv:v=.slice (some ⟨g,0,none⟩) n cap) (hj:j<xs.length) (u:Value):(w.setCell ⟨g,j,none⟩ u).ownsRow base e size v n (xs.set j u):=by
 obtain⟨h1,h2⟩:=h;refine⟨by rw [List.length_set];exact h1,?_⟩;rcases h2 with ⟨h2,_⟩|⟨g',cap',cur,hv',hb,hh,hn,hm,hs,ht⟩
 ·rw [h2] at hv;cases hv
 ·rw [hv'] at hv;cases hv;refine .inr ⟨g,cap,cur.setIfInBounds j u,hv',hb,heap_setCell_here hh j u,hn,hm,by simpa using hs,?_⟩;rw [Array.toList_setIfInBounds,List.take_set,ht]
theorem owns_frozen {w:World} {base e size n:Nat} {v:Value} {xs:List Value} {g cap:Nat} (h:w.ownsRow base e size v n xs) (hv:v=.slice (some ⟨g,0,none⟩) n cap) (j:Nat):w.frozen? ⟨g,j,none⟩=false:=by
 rcases h.2 with ⟨h2,_⟩|⟨g',cap',cur,hv',_,hh,_⟩
 ·rw [h2] at hv;cases hv
 ·rw [hv'] at hv;cases hv;exact hEF hh j
theorem fr_append {w wr w9:World} {e size n:Nat} {v:Value} {xs:List Value} (hf:Fr [] w wr) (ho:wr.ownsRow w.heap.size e size v n xs) {o:Obj} (h:Fr v.ownBlock.toList (wr.alloc o) w9):Fr [] w w9 :=
 (hf.alloc o).trans h fun x hx=>.inr (owns_ge ho (by simpa using hx))
theorem sCE (w:World) (a:Addr) (u:Value) {k:Nat} (h:k≠a.block):(w.setCell a u).heap[k]?=w.heap[k]?:=Below.heap_setCell _ _ _ _ h
def Reads (w:World) (v:Value) (n size:Nat) (xs:List Value):Prop :=
 xs.length=n*size∧∃ a c,v=.slice a n c∧(0<n→∃ g off,a=some ⟨g,off,none⟩∧g<w.heap.size∧∀ j u,xs[j]?=some u→w.cell? ⟨g,off+j,none⟩=some u)
theorem Reads.keep {w w':World} {v:Value} {n size:Nat} {xs:List Value} (h:Reads w v n size xs) (hk:∀ x,v.ownBlock=some x→x<w.heap.size→w'.heap[x]?=w.heap[x]?):Reads w' v n size xs:=by
 obtain⟨h1,a,c,rfl,h2⟩:=h;refine⟨h1,a,c,rfl,fun hn=>?_⟩;obtain⟨g,off,rfl,hg,hc⟩:=h2 hn;have hb:=hk g rfl hg;refine⟨g,off,rfl,?_,fun j u hj=>?_⟩;·
  have:w.heap[g]?=some w.heap[g]:=Array.getElem?_eq_getElem hg;exact lBk (hb.trans this)
 ·rw [World.cell?_of_block (w:=w) (a:=⟨g,off+j,none⟩) hb];exact hc j u hj
theorem Reads.fr {w w':World} {v:Value} {n size:Nat} {xs:List Value} (h:Reads w v n size xs) (hf:Fr [] w w'):Reads w' v n size xs:=h.keep fun x _ hx=>hf.block x hx i_
theorem Reads.of_owns {w:World} {base e n size:Nat} {v:Value} {xs:List Value} (h:w.ownsRow base e size v n xs):Reads w v n size xs:=by refine⟨h.1,?_⟩;obtain⟨a,c,rfl,ha,_⟩:=oFM h;refine⟨a,c,rfl,fun hn=>?_⟩;obtain⟨g,rfl⟩:=ha hn;exact⟨g,0,rfl,oLT h rfl,fun j u hj=>by rw [Nat.zero_add];exact owns_cell h rfl hj⟩
theorem reads_blk {w:World} {b n size c:Nat} {cs:List Value} {t:TypeId} {fr:Nat×Nat} (h:w.heap[b]?=some (.cells cs.toArray t fr)) (hl:cs.length=n*size):Reads w (.slice (some ⟨b,0,none⟩) n c) n size cs :=
 ⟨hl,_,_,rfl,fun _=>⟨b,0,rfl,lBk h,fun j u hj=>by rw [Nat.zero_add,hEC h];simpa using hj⟩⟩
theorem wpList_make1 {P:Program} {ops:Array Oper} {rest:List Oper} {o:Oper} {a:Act} {W:World} {Q:Exit→Act→World→Prop} (hgd:o.guard=none) {l c:Operand} {t e:TypeId} (ho:o.op=.makeSlice t l c) {n:Nat}
  (hl:a.eval l=.int .i64 n) (hc:a.eval c=.int .i64 n) {z:Value} {bytes:Nat} (ht:P.underlying t=some (.slice e)) (hinfo:(P.info? e).map (fun i=>(i.zero,i.size,i.bytes))=some (some z,1,bytes)) (hz:z.cells=#[z])
  (hb:bytes*n≤281474976710656) (h63:n≤maxLen)
  (h:∀ w',w'.ownsRow W.heap.size e 1 (.slice (some ⟨W.heap.size,0,none⟩) n n) n (List.replicate n z)→Fr [] W w'→W.heap.size<w'.heap.size→wpList P ops Q rest (a.put o.dst (.slice (some ⟨W.heap.size,0,none⟩) n n)) w'):wpList P ops Q (o::rest) a W:=by
 obtain⟨i,hi,hz0,hz1,hz2⟩:=info_parts hinfo;obtain⟨w',hr,ho',hg⟩:=run_make_full W W.heap.size t e i z 1 ht hi hz0 hz1 .i64 .i64 n (by rw [hz2];exact hb) h63 (Nat.le_refl _) (P:=P);have hcells:(madeCells z.cells (n*1)).toList=List.replicate n z:=by
  rw [hz,Nat.mul_one];unfold madeCells;apply List.ext_getElem;·simp
  ·intro j h1 h2;simp [Nat.mod_one]
 rw [hcells] at ho';refine Mp.wpList_run hgd (w':=w') (v:=.slice (some ⟨W.heap.size,0,none⟩) n n) ?_ (h w' ho' ((Fr.refl _ _).grown hg i_) (oLT ho' rfl));unfold execOp;simp only [ho,hl,hc,Sem.run_bind,hr,Result.andThen_ok];rfl
theorem _root_.q_ {p:Prop}(h:p):Go.RowKit.Hid p:=h
theorem tk {F:List Nat}{w w':World}{b:Nat}{o:Obj}(f:Fr F w w')(h:Go.RowKit.Hid (w.heap[b]?=some o))(n:b∉F:=by simp):w'.heap[b]?=some o:=(f.block _ (lBk h.out) n).trans h.out
theorem aq_ {α:Type}{xs:Array α}{i:Nat}{d:α}:xs.getD i d=xs[i]?.getD d:=Array.getD_eq_getD_getElem?
theorem bq_ {α:Type}{xs:List α}{i:Nat}:xs.toArray[i]?=xs[i]?:=List.getElem?_toArray
theorem cq_ {α:Type}{a:α}{l:List α}{i:Nat}:(a::l)[i+1]?=l[i]?:=List.getElem?_cons_succ
theorem dq_ {α:Type}{a:α}{l:List α}:(a::l)[0]?=some a:=List.getElem?_cons_zero
theorem eq_ {α:Type}{a b:α}:(some a).getD b=a:=Option.getD_some
theorem Fr.t {F:List Nat}{w w':World} (h:Fr F w w':=by (repeat first|exact Fr.refl _ _|assumption|apply Fr.n|apply Fr.d|apply Fr.a|refine Fr.s ?_ (.inr (by simp;try omega)) _)):Fr F w w':=h
theorem hpT {α:Type}{x y:α} (h:x=y:=by (repeat first|rw [if_pos o_]|rw [if_neg o_]|rw [hDR]|rw [hDN]|rw [hAz]|rw [hSz]|rw [hAC]|rw [hSC]|rw [oMS]|rw [uPC]|rw [lSZ]|rw [lSS]|rfl)):x=y:=h
end Go.Proofs.Hp
end
section
namespace Go.Proofs.YtebolidfbflkmaaGreat
open Go Go.RowKit Rg Hp Bn
def u32s (l:List Nat):List Value:=l.map fun (n:Nat)=>Value.int .u32 n
theorem u32s_length (l:List Nat):(u32s l).length=l.length:=by simp [u32s]
theorem u32s_get {l:List Nat} {i:Nat} (h:i<l.length):(u32s l)[i]?=some (.int .u32 (l.getD i 0:Nat)):=by rw [u32s,List.getElem?_map,List.getElem?_eq_getElem h,List.getD_eq_getElem?_getD,List.getElem?_eq_getElem h];rfl
theorem Reads.take {w:World} {a:Option Addr} {n c k:Nat} {xs:List Value} (h:Reads w (.slice a n c) n 1 xs) (hk:k≤n):Reads w (.slice a k c) k 1 (xs.take k):=by
 obtain⟨h1,a',c',he,h2⟩:=h;cases he;refine⟨by rw [List.length_take,h1];omega,_,_,rfl,fun hn=>?_⟩;obtain⟨g,off,rfl,hg,hc⟩:=h2 o_;refine⟨g,off,rfl,hg,fun j u hj=>hc j u ?_⟩;rw [List.getElem?_take] at hj;split at hj;·exact hj
 ·cases hj
def RightB (neg:Bool) (ds:List Nat):Bool:=if ds.length=0 then !neg else decide (ds.length≤64∧ds.getD (ds.length - 1) 0≠0)
def mkN (neg:Bool) (V:Nat):Bool×List Nat×Int:=if V=0 then (false,[],0) else if V<4294967296 ^ 64 then (neg,dg 4294967296 V,0) else (false,[],6)
def BigPost (w:World) (A:Nat→Prop) (r:Bool×List Nat×Int) (e:Ending) (w':World):Prop :=
 ∃ a c,(r.2.1.length≤c∧∀ g,(Value.slice a r.2.1.length c).ownBlock=some g→A g)∧e=.returned (.tuple #[.agg #[.bool r.1,.slice a r.2.1.length c],.int .i64 r.2.2])∧Reads w' (.slice a r.2.1.length c) r.2.1.length 1 (u32s r.2.1)∧Fr [] w w'
theorem own_len (a:Option Addr) (n m c d:Nat):(Value.slice a n c).ownBlock=(Value.slice a m d).ownBlock:=by
 cases a with
 | none=>rfl
 | some ad=>rfl
theorem reads_nil (w:World):Reads w (.slice none 0 0) 0 1 []:=⟨rfl,none,0,rfl,fun h=>absurd h o_⟩
theorem results_cell2 {fn:Func} {p u:Tmp} {ty:TypeId} (h:fn.results=#[.cell p ty,.tmp u]) (tmps:Array Value) (P:Program) (w:World) :
  (results fn tmps).run P w=((asAddr (tmps.getD p undef)).run P w).andThen fun a w₁=>((loadVar ty a).run P w₁).andThen fun x w₂=>.ok (.tuple #[x,tmps.getD u undef]) w₂:=by
 simp only [results,h];simp [Sem.run_bind,Result.andThen]
theorem results_cell1 {fn:Func} {p:Tmp} {ty:TypeId} (h:fn.results=#[.cell p ty]) (tmps:Array Value) (P:Program) (w:World) :
  (results fn tmps).run P w=((asAddr (tmps.getD p undef)).run P w).andThen fun a w₁=>(loadVar ty a).run P w₁:=by
 simp only [results,h];simp [Sem.run_bind,Result.andThen]
theorem mkN_len {neg:Bool} {V:Nat}:(mkN neg V).2.1.length≤64:=by
 unfold mkN;split;·simp
 ·split;·rename_i h;exact (dg_length_le o_ 64).2 h
  ·simp
theorem mkN_dig {neg:Bool} {V:Nat}:Dig 4294967296 (mkN neg V).2.1:=by
 unfold mkN;split;·exact Dig.nil
 ·split;·exact dg_dig o_ V
  ·exact Dig.nil
end Go.Proofs.YtebolidfbflkmaaGreat
namespace Go.Proofs.Bn
open Go Go.RowKit Hp
theorem bit31 {z:Nat} (h:z<4294967296):z.testBit 31=decide (2147483648≤z):=by rw [Nat.testBit_eq_decide_div_mod_eq,decide_eq_decide];omega
theorem top31 {z:Nat} (h:z<4294967296):z / 2147483648=(z.testBit 31).toNat:=by
 rw [bit31 h];by_cases hz:2147483648≤z;·rw [decide_eq_true hz];show _=1;omega
 ·rw [decide_eq_false hz];show _=0;omega
def bor (x y b:Nat):Nat:=if x<y+b then 1 else 0
theorem bor_le (x y b:Nat):bor x y b≤1:=by unfold bor;split<;>omega
theorem sub32_bit {x y b:Nat} (hx:x<4294967296) (hy:y<4294967296) (hb:b≤1) :
  (((4294967295 ^^^ x) &&& y) ||| ((4294967295 ^^^ (x ^^^ y)) &&& ((x+4294967296 - y - b) % 4294967296))) / 2147483648=bor x y b:=by
 have hd:(x+4294967296 - y - b) % 4294967296<4294967296:=Nat.mod_lt _ o_;have hn1:4294967295 ^^^ x<4294967296:=Nat.xor_lt_two_pow (n:=32) o_ hx;have hxy:x ^^^ y<4294967296:=Nat.xor_lt_two_pow (n:=32) hx hy;have hn2:4294967295 ^^^ (x ^^^ y)<4294967296:=Nat.xor_lt_two_pow (n:=32) o_ hxy;have ha1:(4294967295 ^^^ x) &&& y<4294967296:=Nat.lt_of_le_of_lt Nat.and_le_right hy;have ha2:(4294967295 ^^^ (x ^^^ y)) &&& ((x+4294967296 - y - b) % 4294967296)<4294967296:=Nat.lt_of_le_of_lt Nat.and_le_right hd;rw [top31 (Nat.or_lt_two_pow (n:=32) ha1 ha2)];rw [Nat.testBit_or,Nat.testBit_and,Nat.testBit_and,Nat.testBit_xor,Nat.testBit_xor,Nat.testBit_xor,bit31 hx,bit31 hy,bit31 hd,bit31 (show 4294967295<4294967296 by omega)];unfold bor;by_cases h1:2147483648≤x<;>by_cases h2:2147483648≤y<;>by_cases h3:2147483648≤(x+4294967296 - y - b) % 4294967296<;>by_cases h4:x<y+b<;>simp [h1,h2,h3,h4]<;>omega
end Go.Proofs.Bn
namespace Go.Proofs.YtebolidfbflkmaaGreat
open Go Go.RowKit Rg Hp Bn
theorem ret_u64 {a b:Int} (h:a=b):Ending.returned (.int .u64 a)=.returned (.int .u64 b):=by rw [h]
theorem wrap_u64 (n:Int):IntKind.u64.wrap n=n % 18446744073709551616:=by simp [IntKind.wrap,IntKind.bits,IntKind.signed]
def cmpN (a b:Nat):Int:=if a<b then -1 else if b<a then 1 else 0
theorem u32s_one (l:List Nat):∀ u∈u32s l,u.oneCell'=true:=by intro u hu;simp only [u32s,List.mem_map] at hu;obtain⟨n,_,rfl⟩:=hu;rfl
end Go.Proofs.YtebolidfbflkmaaGreat
namespace Go.Proofs.Bn
open Go Go.RowKit Hp
theorem val_set_take {B:Nat} {l:List Nat} {k v:Nat} (h:k<l.length):val B ((l.set k v).take (k+1))=val B (l.take k)+B ^ k*v:=by rw [val_take_succ,List.take_set_of_le (Nat.le_refl _),List.getD_eq_getElem?_getD,List.getElem?_set_self h];rfl
theorem plus_end {B vl va vb n c la lb:Nat} (hB:2≤B) (h:vl+B ^ n*c=va+vb) (ha:va<B ^ la) (hb:vb<B ^ lb) (hla:la+1≤n) (hlb:lb+1≤n):c=0:=by
 rcases Nat.eq_zero_or_pos c with h0|h0
 ·exact h0
 ·exfalso;have h1:B ^ la≤B ^ (n - 1):=Nat.pow_le_pow_right o_ o_;have h2:B ^ lb≤B ^ (n - 1):=Nat.pow_le_pow_right o_ o_;have h3:B ^ n=B ^ (n - 1)*B:=by rw [← Nat.pow_succ];congr 1;omega
  have h4:B ^ (n - 1)*2≤B ^ n:=by rw [h3];exact Nat.mul_le_mul_left _ hB
  have h5:B ^ n*1≤B ^ n*c:=Nat.mul_le_mul_left _ h0;omega
theorem minus_end {B vl va vb n b:Nat} (h:vl+vb=va+B ^ n*b) (hl:vl<B ^ n) (hba:vb≤va):b=0∧vl=va - vb:=by
 rcases Nat.eq_zero_or_pos b with h0|h0
 ·subst h0;simp at h;omega
 ·exfalso;have h5:B ^ n*1≤B ^ n*b:=Nat.mul_le_mul_left _ h0;omega
theorem sub_digit {x y b:Nat} (hx:x<4294967296) (hy:y<4294967296) (hb:b≤1):(x+4294967296 - y - b) % 4294967296+y+b=x+4294967296*bor x y b:=by unfold bor;split<;>omega
end Go.Proofs.Bn
namespace Go.Proofs.YtebolidfbflkmaaGreat
open Go Go.RowKit Rg Hp Bn
theorem u32s_set (l:List Nat) (i d:Nat):u32s (l.set i d)=(u32s l).set i (.int .u32 (d:Nat)):=by unfold u32s;rw [List.map_set]
theorem u32s_zero (n:Nat):u32s (List.replicate n 0)=List.replicate n (.int .u32 0):=by simp [u32s]
theorem right_canon {neg:Bool} {ds:List Nat} (h:RightB neg ds=true):Canon ds∧ds.length≤64∧(ds=[]→neg=false):=by
 unfold RightB at h;by_cases h0:ds.length=0;·
  rw [if_pos h0] at h;obtain rfl:=List.eq_nil_of_length_eq_zero h0;exact⟨by decide,i_,fun _=>by simpa using h⟩
 ·rw [if_neg h0] at h;simp only [decide_eq_true_eq] at h;refine⟨?_,h.1,fun e=>absurd (by rw [e];rfl) h0⟩;unfold Canon;rw [List.getLast?_eq_getElem?,List.getElem?_eq_getElem o_];intro e;apply h.2;rw [List.getD_eq_getElem?_getD,List.getElem?_eq_getElem o_];exact Option.some.inj e
def addS (na:Bool) (da:List Nat) (nb:Bool) (db:List Nat):Bool×List Nat×Int :=
 if (RightB na da && RightB nb db)=false then (false,[],2) else if na=nb then mkN na (val 4294967296 da+val 4294967296 db)
 else if val 4294967296 da<val 4294967296 db then mkN nb (val 4294967296 db - val 4294967296 da) else mkN na (val 4294967296 da - val 4294967296 db)
theorem BigPost.mono {w w':World} {A A':Nat→Prop} {r:Bool×List Nat×Int} {e:Ending} (h:BigPost w A r e w') (hl:∀ g,A g→A' g):BigPost w A' r e w':=by obtain⟨a,c,h1,h2⟩:=h;exact⟨a,c,⟨h1.1,fun g hg=>hl g (h1.2 g hg)⟩,h2⟩
def cmpS (na:Bool) (da:List Nat) (nb:Bool) (db:List Nat):Int :=
 if (RightB na da && RightB nb db)=false then 0 else if na=nb then (if na then cmpN (val 4294967296 db) (val 4294967296 da) else cmpN (val 4294967296 da) (val 4294967296 db)) else if na then -1 else 1
def BigPost1 (w:World) (A:Nat→Prop) (r:Bool×List Nat×Int) (e:Ending) (w':World):Prop :=
 ∃ a c,(r.2.1.length≤c∧∀ g,(Value.slice a r.2.1.length c).ownBlock=some g→A g)∧e=.returned (.agg #[.bool r.1,.slice a r.2.1.length c])∧Reads w' (.slice a r.2.1.length c) r.2.1.length 1 (u32s r.2.1)∧Fr [] w w'
def negS (na:Bool) (da:List Nat):Bool×List Nat×Int:=if RightB na da=false then (false,[],0) else mkN (!na) (val 4294967296 da)
theorem frcell {w w':World} (h:Fr [] w w'):(∀ b o,b<w.heap.size→w'.cell? ⟨b,o,none⟩=w.cell? ⟨b,o,none⟩)∧(∀ b o,b<w.heap.size→w'.frozen? ⟨b,o,none⟩=w.frozen? ⟨b,o,none⟩) :=
 ⟨fun b o hb=>h.cell (p:=⟨b,o,none⟩) hb i_,fun b o hb=>h.frozen (p:=⟨b,o,none⟩) hb i_⟩
theorem owns_cap {w:World} {base e size n:Nat} {a:Option Addr} {c:Nat} {xs:List Value} (h:w.ownsRow base e size (.slice a n c) n xs):n≤c:=by
 rcases h.2 with ⟨h1,h0⟩|⟨g,cap,cur,h1,_,_,h2,_⟩
 ·omega
 ·cases h1;exact h2
def fromS (n:Int):Bool×List Nat×Int:=mkN (decide (n<0)) n.natAbs
def intS (neg:Bool) (ds:List Nat):Int×Bool :=
 if RightB neg ds=false∨2<ds.length then (0,false) else if neg then (if val 4294967296 ds≤9223372036854775808 then (-(val 4294967296 ds:Nat),true) else (0,false))
 else (if val 4294967296 ds<9223372036854775808 then ((val 4294967296 ds:Nat),true) else (0,false))
theorem or_shift {x y:Nat} (hx:x<4294967296):x ||| y*4294967296=x+y*4294967296:=by have:=Nat.two_pow_add_eq_or_of_lt (i:=32) hx y;rw [show 2 ^ 32=4294967296 from rfl] at this;rw [Nat.mul_comm,Nat.or_comm];omega
theorem int_pos {x:Nat} (h:x<9223372036854775808):Ending.returned (.tuple #[.int .i64 (wrap64 (x:Int)),.bool true])=.returned (.tuple #[.int .i64 (x:Nat),.bool true]):=by
 have e:wrap64 (x:Int)=x:=by simp only [wrap64];omega
 rw [e]
theorem int_neg {x:Nat} (h:x≤9223372036854775808):Ending.returned (.tuple #[.int .i64 (wrap64 (IntKind.u64.wrap (-(x:Int)))),.bool true])=.returned (.tuple #[.int .i64 (-(x:Nat)),.bool true]):=by
 have e:wrap64 (IntKind.u64.wrap (-(x:Int)))=-(x:Int):=by rw [wrap_u64];simp only [wrap64];omega
 rw [e]
theorem or_two {x y:Nat} (hx:x<4294967296) (hy:y<4294967296):bits BinOp.or IntKind.u64 (x:Int) (IntKind.u64.wrap (IntKind.u64.wrap (y:Int)*4294967296))=((val 4294967296 [x,y]:Nat):Int):=by rw [IntWalk.u64_in (y:Int) o_,show (y:Int)*4294967296=((y*4294967296:Nat):Int) by omega,IntWalk.u64_in _ o_,u64_or_nat _ _ o_ o_,or_shift hx];simp [val];omega
theorem val_zero_iff {B:Nat} (hB:0<B) {l:List Nat}:∀ i,val B (l.take (i+1))=0↔val B (l.take i)=0∧l.getD i 0=0:=by
 intro i;rw [val_take_succ];have:=Nat.pow_pos (n:=i) hB;constructor;·
  intro h;refine⟨o_,?_⟩;have h2:B ^ i*l.getD i 0=0:=o_
  rcases Nat.mul_eq_zero.1 h2 with h|h
  ·omega
  ·exact h
 ·rintro⟨h1,h2⟩;rw [h1,h2,Nat.mul_zero]
theorem val_take_ne {B:Nat} {l:List Nat} (i:Nat) (hB:0<B) (h:val B (l.take (i+1))≠0) (hi:i<l.length):val B l≠0:=by rw [val_take_drop B l (i+1) o_];omega
def DownPost (w:World) (V:Nat) (lost:Bool) (n:Nat) (e:Ending) (w':World):Prop :=
 ∃ a c os,e=.returned (.tuple #[.slice a os.length c,.bool lost])∧Reads w' (.slice a os.length c) os.length 1 (u32s os)∧(∀ g,(Value.slice a os.length c).ownBlock=some g→w.heap.size≤g)∧Dig 4294967296 os∧val 4294967296 os=V∧os.length≤n∧os.length≤c∧Fr [] w w'
theorem two_split {ds:List Nat} {k wd rs:Nat} (hwd:k / 32=wd) (hrs:k % 32=rs):2 ^ k=4294967296 ^ wd*2 ^ rs∧4294967296=2 ^ rs*2 ^ (32 - rs):=by
 constructor;·
  rw [show 4294967296=2 ^ 32 from rfl,← Nat.pow_mul,← Nat.pow_add];congr 1;omega
 ·rw [← Nat.pow_add,show rs+(32 - rs)=32 by omega]
theorem lost_iff {ds:List Nat} {k wd rs:Nat} (hD:Dig 4294967296 ds) (hwd:k / 32=wd) (hrs:k % 32=rs) (hi:wd<ds.length):val 4294967296 ds % 2 ^ k=0↔val 4294967296 (ds.take wd)=0∧ds.getD wd 0 % 2 ^ rs=0:=by
 obtain⟨h1,h2⟩:=two_split (ds:=ds) hwd hrs;have hp:=Nat.pow_pos (n:=wd) (show 0<4294967296 by omega);have hlt:=val_lt (hD.take wd);rw [List.length_take,Nat.min_eq_left o_] at hlt;rw [h1,val_take_drop _ ds wd o_,Nat.mod_mul,Nat.add_mul_mod_self_left,Nat.mod_eq_of_lt hlt,Nat.add_mul_div_left _ _ hp,Nat.div_eq_of_lt hlt,Nat.zero_add,val_drop];have h3:(ds.getD wd 0+4294967296*val 4294967296 (ds.drop (wd+1))) % 2 ^ rs=ds.getD wd 0 % 2 ^ rs:=by
  conv=>lhs;rw [h2,Nat.mul_assoc,Nat.add_mul_mod_self_left]
 rw [h3];constructor;·
  intro h;refine⟨o_,?_⟩;have:4294967296 ^ wd*(ds.getD wd 0 % 2 ^ rs)=0:=o_
  rcases Nat.mul_eq_zero.1 this with h|h
  ·omega
  ·exact h
 ·rintro⟨e1,e2⟩;rw [e1,e2,Nat.mul_zero]
theorem down_digit {ds:List Nat} {k wd rs:Nat} (hD:Dig 4294967296 ds) (hwd:k / 32=wd) (hrs:k % 32=rs) {i:Nat} (hi:wd+i<ds.length):val 4294967296 ds / 2 ^ k / 4294967296 ^ i % 4294967296=val 4294967296 [ds.getD (wd+i) 0,ds.getD (wd+i+1) 0] / 2 ^ rs % 4294967296:=by
 obtain⟨h1,h2⟩:=two_split (ds:=ds) hwd hrs;rw [h1,Nat.div_div_eq_div_mul,show 4294967296 ^ wd*2 ^ rs*4294967296 ^ i=4294967296 ^ (wd+i)*2 ^ rs by rw [Nat.pow_add];simp only [Nat.mul_assoc,Nat.mul_comm,Nat.mul_left_comm],← Nat.div_div_eq_div_mul,val_div hD o_,val_drop,val_drop];have e:val 4294967296 [ds.getD (wd+i) 0,ds.getD (wd+i+1) 0]=ds.getD (wd+i) 0+4294967296*ds.getD (wd+i+1) 0:=by simp [val]
 rw [e];generalize ds.getD (wd+i) 0=x;generalize ds.getD (wd+i+1) 0=y;generalize val 4294967296 (ds.drop (wd+i+1+1))=R;have hp:=Nat.pow_pos (n:=rs) (show 0<2 by omega);have e2:x+4294967296*(y+4294967296*R)=x+4294967296*y+2 ^ rs*(4294967296*(2 ^ (32 - rs)*R)):=by
  rw [Nat.mul_add,← Nat.add_assoc];congr 1
  conv=>lhs;arg 1;rw [h2]
  simp only [Nat.mul_assoc,Nat.mul_left_comm]
 rw [e2,Nat.add_mul_div_left _ _ hp,Nat.add_mul_mod_self_left]
theorem and_mask {x rs:Nat} (hx:x<4294967296) (hr:rs<32):(bits BinOp.and IntKind.u32 (x:Int) (((2:Int) ^ rs - 1) % 4294967296) != 0)=decide (x % 2 ^ rs≠0):=by
 have h1:2 ^ rs≤2 ^ 31:=Nat.pow_le_pow_right o_ o_;have h2:=Nat.pow_pos (n:=rs) (show 0<2 by omega);have e1:(((2:Int) ^ rs - 1) % 4294967296)=((2 ^ rs - 1:Nat):Int):=by
  rw [show ((2:Int) ^ rs)=((2 ^ rs:Nat):Int) by simp];generalize 2 ^ rs=p at *
  omega
 rw [e1,u32_and_nat x (2 ^ rs - 1) hx o_,Nat.and_two_pow_sub_one_eq_mod];generalize x % 2 ^ rs=z;by_cases h:z=0<;>simp [h]
def downN (neg:Bool) (V m:Nat):Nat:=V / 2 ^ m+if neg && decide (V % 2 ^ m≠0) then 1 else 0
def shiftS (neg:Bool) (ds:List Nat) (k:Int):Bool×List Nat×Int :=
 if RightB neg ds=false then (false,[],2) else if ds.length=0 then (false,[],0)
 else if k<0 then mkN neg (downN neg (val 4294967296 ds) (if k < -4096 then 4096 else (-k).toNat))
 else if 2048<k then (false,[],6) else mkN neg (val 4294967296 ds*2 ^ k.toNat)
theorem shl_facts {x o rs:Nat} (hx:x<4294967296) (hr:rs<32) (ho:o<2 ^ rs) :
  ∃ v:Nat,IntKind.u64.wrap ((x:Int)*2 ^ rs)=v∧v / 4294967296<2 ^ rs∧bits BinOp.or IntKind.u32 (o:Int) ((v:Int) % 4294967296)=((o+v % 4294967296:Nat):Int)∧v=x*2 ^ rs∧o+v % 4294967296<4294967296:=by
 have h1:2 ^ rs≤2 ^ 31:=Nat.pow_le_pow_right o_ o_;have h2:x*2 ^ rs≤4294967295*2 ^ rs:=Nat.mul_le_mul_right _ o_;have h3:x*2 ^ rs % 4294967296=2 ^ rs*(x % 2 ^ (32 - rs)):=by rw [show 4294967296=2 ^ (32 - rs)*2 ^ rs by rw [← Nat.pow_add,show 32 - rs+rs=32 by omega],Nat.mul_mod_mul_right,Nat.mul_comm]
 have h4:2 ^ rs*2 ^ (32 - rs)=4294967296:=by rw [← Nat.pow_add,show rs+(32 - rs)=32 by omega]
 have h5:x % 2 ^ (32 - rs)<2 ^ (32 - rs):=Nat.mod_lt _ (Nat.pow_pos o_);have h6:2 ^ rs*(x % 2 ^ (32 - rs))+2 ^ rs≤2 ^ rs*2 ^ (32 - rs):=by rw [← Nat.mul_succ];exact Nat.mul_le_mul_left _ h5
 have hor:=Nat.two_pow_add_eq_or_of_lt (i:=rs) ho (x % 2 ^ (32 - rs));refine⟨x*2 ^ rs,?_,?_,?_,rfl,?_⟩;·
  rw [show ((x:Int)*2 ^ rs)=((x*2 ^ rs:Nat):Int) by simp];exact IntWalk.u64_in _ o_
 ·omega
 ·rw [show (((x*2 ^ rs:Nat):Int) % 4294967296)=((x*2 ^ rs % 4294967296:Nat):Int) by simp,h3,u32_or_nat _ _ o_ o_,Nat.or_comm,← hor,Nat.add_comm]
 ·rw [h3];omega
def bitS (neg:Bool) (ds:List Nat) (k:Int):Nat :=
 if RightB neg ds=false∨k<0 then 0 else if 2048≤k then (if neg then 1 else 0) else (shiftS neg ds (-k)).2.1.getD 0 0 % 2
theorem and_one {x:Nat} (h:x<4294967296):bits BinOp.and IntKind.u32 (x:Int) 1=((x % 2:Nat):Int):=by have e:=u32_and_nat x 1 h o_;rw [Nat.and_one_is_mod] at e;exact e
theorem shiftS_dig {neg:Bool} {ds:List Nat} {k:Int}:Dig 4294967296 (shiftS neg ds k).2.1∧(shiftS neg ds k).2.1.length≤64:=by
 unfold shiftS;split;·exact⟨Dig.nil,i_⟩
 ·split;·exact⟨Dig.nil,i_⟩
  ·split;·exact⟨mkN_dig,mkN_len⟩
   ·split;·exact⟨Dig.nil,i_⟩
    ·exact⟨mkN_dig,mkN_len⟩
end Go.Proofs.YtebolidfbflkmaaGreat
namespace Go.Proofs.Bn
open Go Go.RowKit Hp
theorem low_high (P d:Nat):P*(d % 256)+P*256*(d / 256)=P*d:=by have h1:=Nat.mod_add_div d 256;rw [Nat.mul_assoc,← Nat.mul_add,h1]
end Go.Proofs.Bn
namespace Go.Proofs.YtebolidfbflkmaaGreat
open Go Go.RowKit Rg Hp Bn
def i64s (l:List Nat):List Value:=l.map fun (n:Nat)=>Value.int .i64 n
theorem i64s_get {l:List Nat} {i:Nat} (h:i<l.length):(i64s l)[i]?=some (.int .i64 (l.getD i 0:Nat)):=by rw [i64s,List.getElem?_map,List.getElem?_eq_getElem h,List.getD_eq_getElem?_getD,List.getElem?_eq_getElem h];rfl
theorem i64s_snoc (l:List Nat) (d:Nat):i64s l++[.int .i64 d]=i64s (l++[d]):=by simp [i64s]
def ListPost (w:World) (A:Nat→Prop) (ds:List Nat) (e:Ending) (w':World):Prop :=
 ∃ a c,(ds.length≤c∧∀ g,(Value.slice a ds.length c).ownBlock=some g→A g)∧e=.returned (.slice a ds.length c)∧Reads w' (.slice a ds.length c) ds.length 1 (i64s ds)∧Fr [] w w'
theorem reads_trim' {w:World} {ds:List Nat} {a:Option Addr} {c:Nat} (hv:Reads w (.slice a ds.length c) ds.length 1 (i64s ds)) (hD:Dig 256 ds) (c':Nat) :
  Reads w (.slice a (dg 256 (val 256 ds)).length c') (dg 256 (val 256 ds)).length 1 (i64s (dg 256 (val 256 ds)))∧(dg 256 (val 256 ds)).length≤ds.length:=by
 obtain⟨k,hk,hkt⟩:=trimL_prefix (by omega:2≤256) ds.length rfl hD;have hkl:(trimL 256 ds).length=k:=by rw [hkt,List.length_take,Nat.min_eq_left hk]
 have hr:=Reads.take hv hk;have hu:(i64s ds).take k=i64s (dg 256 (val 256 ds)):=by rw [i64s,i64s,← List.map_take,← hkt];rfl
 rw [hu] at hr;have e:(dg 256 (val 256 ds)).length=k:=hkl;rw [e];obtain⟨h1,a',c2,he,h2⟩:=hr;cases he;exact⟨⟨h1,_,_,rfl,h2⟩,hk⟩
theorem bytes_step {B P vo x0 d2 V:Nat} (h:vo+P*d2=V+B*x0):vo+P*(d2 % 256)+P*256*(d2 / 256)=V+B*x0:=by have:=low_high P d2;omega
theorem pow256 (i:Nat):256 ^ (4*i)=4294967296 ^ i:=by rw [Nat.pow_mul]
theorem two_mono {n m:Nat} (h:n≤m):2 ^ n≤2 ^ m:=Nat.pow_le_pow_right o_ h
theorem pow_two_le {n m:Nat} (h:32*n≤m):4294967296 ^ n≤2 ^ m:=by rw [show (4294967296:Nat)=2 ^ 32 from rfl,← Nat.pow_mul];exact two_mono h
theorem dg_len256 {V n k:Nat} (hn:n≤k) (h:V<4294967296 ^ n):(dg 256 V).length≤4*k:=by rw [dg_length_le o_,pow256];exact Nat.lt_of_lt_of_le h (Nat.pow_le_pow_right o_ hn)
end Go.Proofs.YtebolidfbflkmaaGreat
namespace Go.Proofs.Bn
open Go Go.RowKit Hp
theorem val_quad (T:List Nat) (i k:Nat) (hk:k<4):val 256 ((T.drop (i+k)).take (4 - k))=T.getD (i+k) 0+256*val 256 ((T.drop (i+(k+1))).take (4 - (k+1))):=by
 have e:4 - k=(4 - (k+1))+1:=o_
 by_cases h:i+k<T.length;·rw [List.drop_eq_getElem_cons h,e,List.take_succ_cons,val,List.getD_eq_getElem?_getD,List.getElem?_eq_getElem h];rfl
 ·rw [List.drop_eq_nil_of_le o_,List.drop_eq_nil_of_le o_,List.getD_eq_getElem?_getD,List.getElem?_eq_none o_];simp [val]
theorem val_take4 (T:List Nat) (i:Nat) (h:i≤T.length):val 256 (T.take (i+4))=val 256 (T.take i)+256 ^ i*val 256 ((T.drop i).take 4):=by rw [List.take_add,val_append,List.length_take,Nat.min_eq_left h]
end Go.Proofs.Bn
namespace Go.Proofs.YtebolidfbflkmaaGreat
open Go Go.RowKit Rg Hp Bn
def ListVal (w:World) (A:Nat→Prop) (V n:Nat) (e:Ending) (w':World):Prop:=∃ L,Dig 256 L∧val 256 L=V∧L.length≤n∧ListPost w A L e w'
end Go.Proofs.YtebolidfbflkmaaGreat
namespace Go.Proofs.Bn
open Go Go.RowKit Hp
theorem val_chunk (B m:Nat) (T:List Nat) (i k:Nat) (hk:k<m):val B ((T.drop (i+k)).take (m - k))=T.getD (i+k) 0+B*val B ((T.drop (i+(k+1))).take (m - (k+1))):=by
 have e:m - k=(m - (k+1))+1:=o_
 by_cases h:i+k<T.length;·rw [List.drop_eq_getElem_cons h,e,List.take_succ_cons,val,List.getD_eq_getElem?_getD,List.getElem?_eq_getElem h];rfl
 ·rw [List.drop_eq_nil_of_le o_,List.drop_eq_nil_of_le o_,List.getD_eq_getElem?_getD,List.getElem?_eq_none o_];simp [val]
theorem val_takeN (B m:Nat) (T:List Nat) (i:Nat) (h:i≤T.length):val B (T.take (i+m))=val B (T.take i)+B ^ i*val B ((T.drop i).take m):=by rw [List.take_add,val_append,List.length_take,Nat.min_eq_left h]
theorem bit_val {ds:List Nat} (hD:Dig 256 ds) (k:Nat):ds.getD (k / 8) 0 / 2 ^ (k % 8) % 2=val 256 ds / 2 ^ k % 2:=by
 have h1:=val_digit hD o_ (k / 8);have h2:2 ^ k=256 ^ (k / 8)*2 ^ (k % 8):=by rw [show 256=2 ^ 8 from rfl,← Nat.pow_mul,← Nat.pow_add];congr 1;omega
 rw [h2,← Nat.div_div_eq_div_mul,← h1];generalize val 256 ds / 256 ^ (k / 8)=N;have hr:k % 8<8:=Nat.mod_lt _ o_;generalize k % 8=r at *
 have h3:N=N % 256+256*(N / 256):=(Nat.mod_add_div N 256).symm;have h4:256*(N / 256)=2 ^ r*(2*(2 ^ (7 - r)*(N / 256))):=by rw [← Nat.mul_assoc 2,← Nat.mul_assoc (2 ^ r)];congr 1;rw [← Nat.pow_succ',← Nat.pow_add,show r+(7 - r).succ=8 by omega]
 conv=>rhs;rw [h3,h4,Nat.add_mul_div_left _ _ (Nat.pow_pos o_),Nat.add_mul_mod_self_left]
end Go.Proofs.Bn
namespace Go.Proofs.YtebolidfbflkmaaGreat
open Go Go.RowKit Rg Hp Bn
theorem i64s_snoc0 (l:List Nat):i64s l++[.int .i64 0]=i64s (l++[0]):=i64s_snoc l 0
end Go.Proofs.YtebolidfbflkmaaGreat
namespace Go.Proofs.Bn
open Go Go.RowKit Hp
theorem mod_step (V i:Nat):V % 2 ^ (i+1)=V % 2 ^ i+2 ^ i*(V / 2 ^ i % 2):=by rw [Nat.pow_succ,Nat.mod_mul]
theorem drop_step {V i m:Nat} (h:m≤i):V % 2 ^ (i+1) / 2 ^ m=V % 2 ^ i / 2 ^ m+2 ^ (i - m)*(V / 2 ^ i % 2):=by
 rw [mod_step];have e:2 ^ i*(V / 2 ^ i % 2)=2 ^ m*(2 ^ (i - m)*(V / 2 ^ i % 2)):=by rw [← Nat.mul_assoc,← Nat.pow_add,show m+(i - m)=i by omega]
 rw [e,Nat.add_mul_div_left _ _ (Nat.pow_pos o_)]
theorem lost_step {V i:Nat}:(V % 2 ^ (i+1)≠0)↔(V % 2 ^ i≠0∨V / 2 ^ i % 2=1):=by
 rw [mod_step];have hp:=Nat.pow_pos (n:=i) (show 0<2 by omega);have hb:V / 2 ^ i % 2<2:=Nat.mod_lt _ o_;generalize V / 2 ^ i % 2=b at *
 rcases (show b=0∨b=1 by omega) with rfl|rfl
 ·simp
 ·first|(simp;done)|(simp;omega)
end Go.Proofs.Bn
namespace Go.Proofs.YtebolidfbflkmaaGreat
open Go Go.RowKit Rg Hp Bn
def shV (neg:Bool) (V p m:Nat):Nat:=2 ^ p*(V / 2 ^ m)+if neg && decide (V % 2 ^ m≠0) then 1 else 0
theorem down_big {neg:Bool} {V m M:Nat} (hV:V<2 ^ M) (hm:M≤m):downN neg V m=downN neg V M:=by unfold downN;have h2:V<2 ^ m:=Nat.lt_of_lt_of_le hV (Nat.pow_le_pow_right o_ hm);rw [Nat.div_eq_of_lt hV,Nat.div_eq_of_lt h2,Nat.mod_eq_of_lt hV,Nat.mod_eq_of_lt h2]
theorem big_256 {i k x a b c:Nat} (h1:i≤a) (h2:k≤b) (h3:x<2 ^ k) (h4:a+b≤8*c:=by decide):2 ^ i*x<256 ^ c:=by have h5:2 ^ i*x<2 ^ a*2 ^ b:=Nat.lt_of_le_of_lt (Nat.mul_le_mul (two_mono h1) (Nat.le_refl _)) (Nat.mul_lt_mul_of_pos_left (Nat.lt_of_lt_of_le h3 (two_mono h2)) (Nat.pow_pos o_));rw [← Nat.pow_add] at h5;refine Nat.lt_of_lt_of_le h5 ?_;rw [show 256=2 ^ 8 from rfl,← Nat.pow_mul];exact two_mono h4
theorem getD_set_ne {l:List Nat} {i j d:Nat} (h:j≠i):(l.set i d).getD j 0=l.getD j 0:=by simp only [List.getD_eq_getElem?_getD];rw [List.getElem?_set_ne (fun e=>h e.symm)]
theorem u32s_snoc (l:List Nat) (d:Nat):u32s l++[.int .u32 d]=u32s (l++[d]):=by simp [u32s]
theorem bRS {fn:Func} {p u:Tmp} (h:fn.results=#[.cell p 30,.tmp u]) {tmps:Array Value} {b:Nat} {w':World} {x y v:Value} (h4:tmps.getD p undef=.pointer (some ⟨b,0,none⟩)) (hb:w'.heap[b]?=some (.cells #[x,y] 30 (0,0))) (h5:tmps.getD u undef=v) :
  (results fn tmps).run Tryz.prog w'=.ok (.tuple #[.agg #[x,y],v]) w':=by
 rw [results_cell2 h,h4];simp only [asAddr,Sem.run_pure,Result.andThen];rw [run_loadVar_row w' b _ _ _ _ _ hb Tryz.underlying30 rfl k_];simp only [h5]
theorem big_result1 {fn:Func} {p:Tmp} (h:fn.results=#[.cell p 30]) {tmps:Array Value} {b:Nat} {w':World} {x y:Value} (h4:tmps.getD p undef=.pointer (some ⟨b,0,none⟩)) (hb:w'.heap[b]?=some (.cells #[x,y] 30 (0,0))) :
  (results fn tmps).run Tryz.prog w'=.ok (.agg #[x,y]) w':=by
 rw [results_cell1 h,h4];simp only [asAddr,Sem.run_pure,Result.andThen];rw [run_loadVar_row w' b _ _ _ _ _ hb Tryz.underlying30 rfl k_]
theorem info_u32':(Tryz.prog.info? 75).map (fun i=>(i.zero,i.size,i.bytes))=some (some (.int .u32 0),1,4):=by kernel_rfl
theorem append_u32 {ops:Array Oper} {rest:List Oper} {o:Oper} {a:Act} {W:World} {Q:Exit→Act→World→Prop} (hgd:o.guard=none) {s x:Operand} (ho:o.op=.call { callee:=.builtin .append,args:=#[s,x],argTypes:=#[28,28] })
  {base:Nat} {v:Value} {n:Nat} {xs:List Value} (hs:a.eval s=v) (hown:W.ownsRow base 75 1 v n xs) {nb c:Nat} {y:Int} (hx:a.eval x=.slice (some ⟨nb,0,none⟩) 1 c)
  (hnb:W.heap[nb]?=some (.cells #[.int .u32 y] 75 (0,0))) (hn:n≤4000000000000) (hbase:base≤W.heap.size)
  (h:∀ g cap w',w'.ownsRow base 75 1 (.slice (some ⟨g,0,none⟩) (n+1) cap) (n+1) (xs++[.int .u32 y])→(∀ b,b<W.heap.size→v.ownBlock≠some b→w'.heap[b]?=W.heap[b]?)→Fr v.ownBlock.toList W w'→(v.ownBlock=some g∨g=W.heap.size)→g<w'.heap.size →
   wpList Tryz.prog ops Q rest (a.put o.dst (.slice (some ⟨g,0,none⟩) (n+1) cap)) w'):wpList Tryz.prog ops Q (o::rest) a W :=
 append_new hgd ho Tryz.underlying28 info_u32' rfl (by decide) hs hown hx (news:=[.int .u32 y]) hnb rfl (by intro u hu;simp at hu;subst hu;rfl) (by unfold maxLen;omega) o_ hbase h
end Go.Proofs.YtebolidfbflkmaaGreat
end
