/- Own texts of this claim, part 24: no condition. -/
import Derived.Laws.OwnMore
import Derived.Test.YtppmnmheodimoaaZD20
import Derived.Test.YtppmnmheodimoaaZD6
import Derived.Test.YtppmnmheodimoaaZD8
import Derived.Test.YtppmnmheodimoaaZD22
import Derived.Test.YtppmnmheodimoaaZD17
import Derived.Test.YtppmnmheodimoaaZD3
import Derived.Test.YtppmnmheodimoaaZD16
import Derived.Test.YtppmnmheodimoaaZD11
import Derived.Test.YtppmnmheodimoaaZD10
set_option linter.unusedVariables false
set_option linter.unusedSimpArgs false
section
namespace Go.Proofs.Hp
open Go Go.RowKit
theorem Seps.join {w:World}:∀ {Qs Ps:List Res} {G F:List Nat},Seps w Qs G→Seps w Ps F→(∀ x∈G,x∉F)→Seps w (Qs++Ps) (G++F)
 | [],_,_,_,h,k,_=>by rw [show _=[] from h];exact k
 | Q::Qs,Ps,G,F,⟨G1,G2,h1,h2,h3,h4⟩,k,hd=>by
  subst h4
  refine⟨G1,G2++F,h1,Seps.join h2 k fun x hx=>hd x (by simp [hx]),fun x hx hm=>?_,List.append_assoc _ _ _⟩
  rw [List.mem_append] at hm
  rcases hm with hm|hm
  ·exact h3 x hx hm
  ·exact hd x (by simp [hx]) hm
theorem has_join {W w w':World} {Ps Qs:List Res} (h:Has W w Ps) (k:Has w w' Qs):Has W w' (Qs++Ps):=by
 obtain⟨F,h1,h2,h3⟩:=h
 obtain⟨G,k1,k2,k3⟩:=k
 refine⟨G++F,Seps.join k1 (h1.keep fun x hx=>k2.block x (h1.lt x hx) (by simp)) fun x hx hm=>?_,h2.trans0 k2,fun x hx=>?_⟩
 ·have:=k3 x hx;have:=h1.lt x hm;omega
 ·rw [List.mem_append] at hx
  rcases hx with hx|hx
  ·have:=k3 x hx;have:=h2.size;omega
  ·exact h3 x hx
theorem Seps.mem {w:World}:∀ {Ps:List Res} {F:List Nat},Seps w Ps F→∀ Q∈Ps,∃ G,Q.holds w G∧∀ x∈G,x∈F
 | [],_,_,_,hm=>by cases hm
 | P::Ps,F,⟨F1,F2,h1,h2,h3,h4⟩,Q,hm=>by
  subst h4
  rw [List.mem_cons] at hm
  rcases hm with rfl|hm
  ·exact⟨F1,h1,fun x hx=>by simp [hx]⟩
  ·obtain⟨G,g1,g2⟩:=Seps.mem h2 Q hm
   exact⟨G,g1,fun x hx=>by simp [g2 x hx]⟩
theorem Has.updO {W w:World} {P P':Res} {Ps:List Res} (h:Has W w (P::Ps)) {R:Ending→Prop} {Pr:Program} {f:FuncId} {args:Array Value}
  (hc:∀ F,P.holds w F→(∀ Q∈Ps,∃ G,Q.holds w G∧∀ x∈G,x∉F)→Calls Pr f args w fun e w'=>R e∧∃ F',P'.holds w' F'∧Fr F w w'∧∀ x∈F',x∈F∨w.heap.size≤x):Calls Pr f args w fun e w'=>R e∧Has W w' (P'::Ps):=by
 obtain⟨F,⟨F1,F2,h1,h2,h3,rfl⟩,hf,hge⟩:=h
 refine (hc F1 h1 fun Q hQ=>?_).mono ?_
 ·obtain⟨G,g1,g2⟩:=h2.mem Q hQ
  exact⟨G,g1,fun x hx hm=>h3 x hm (g2 x hx)⟩
 rintro e w' ⟨hR,F',hP,hf',hs⟩
 refine⟨hR,F'++F2,⟨F',F2,hP,h2.keep fun x hx=>hf'.block x (h2.lt x hx) fun hx'=>h3 x hx' hx,fun x hx hx'=>?_,rfl⟩,hf.trans hf' fun x hx=>.inr (hge x (by simp [hx])),fun x hx=>?_⟩
 ·rcases hs x hx with h|h
  ·exact h3 x h hx'
  ·have:=h2.lt x hx';omega
 ·rw [List.mem_append] at hx
  rcases hx with hx|hx
  ·rcases hs x hx with h|h
   ·exact hge x (by simp [h])
   ·have:=hf.size;omega
  ·exact hge x (by simp [hx])
end Go.Proofs.Hp
namespace Go.Proofs.Ytppmnmheodimoaa
open Go Go.RowKit Rg Mp Hp Qs Ev Bn Pt
section
variable {W w:World} {b:Nat} {s:Int} {ns:List K4} {Ps:List Res}
theorem ref_good (h:Has W w (refR b s ns::Ps)):GoodQ s ns:=by obtain⟨F,hS⟩:=h.head;exact hS.1
theorem RData_has (h:Has W w (refR b s ns::Ps)) :
  Calls Try.prog 32 #[.pointer (some ⟨b,0,none⟩)] w fun e w'=>∃ v,e=.returned (.agg #[.int .i64 s,v])∧Has W w' (Hp.row 77 4 v ns.length (flat ns)::refR b s ns::Ps):=by
 obtain⟨F,hS⟩:=h.head
 refine (RData_calls hS).mono ?_
 rintro e w' ⟨v,rfl,ho,hf⟩
 exact⟨v,rfl,h.newRow hf ho⟩
end
theorem run_field_states (w:World) (s:Int) (a:Option Addr) (n c:Nat):(Instr.field 39 (.agg #[.int .i64 s,.slice a n c]) 0).run Try.prog w=.ok (.int .i64 s) w:=by
 simp [Instr.field,Sem.run_bind,run_underlying,Try.underlying39,part,go_sem,asAgg,isAgg,Try.underlying3]
theorem Rtop_p {w:World} {l:List PC} {a:Option Addr} {c:Nat} (hl:CellsAtY w (.slice a l.length c) l) (hlen:l.length≤60000) :
  Calls Try.prog 56 #[.slice a l.length c] w fun e w'=>e=.returned (.int .i64 (topP l))∧Fr [] w w':=by
 have HL:=Lib.hid hl
 obtain⟨m,hm⟩:∃ m,l.length=m:=⟨_,rfl⟩
 rw [hm]
 have HM:=Lib.hid hm
 have hm6:m≤60000:=by omega
 obtain⟨T,hT⟩:∃ T,topP l=T:=⟨_,rfl⟩
 rw [hT]
 have HTT:=Lib.hid hT
 clear hl hlen hm hT
 go_enter Try.func56,Try.ntmps56
 go_wp2
 go_loopw [3,4] (fun x3 x4 wr=>∃ (k:Nat),(x3=.int .i64 (topP (l.take k))∧x4=.int .i64 (k:Nat))∧k≤m∧Fr [] w wr) (fun _ x _=>m - (intOf x).toNat)
 case atStart=>exact⟨0,⟨rfl,rfl⟩,by omega,Fr.refl _ _⟩
 case round =>
  obtain⟨k,⟨rfl,rfl⟩,hk,hf⟩:=hrel
  have Hf:=Lib.hid hf
  clear hf
  by_cases hlt:k<m
  ·obtain⟨⟨cx,cy,st⟩,hp⟩:∃ c,l[k]?=some c:=⟨_,List.getElem?_eq_getElem (by rw [HM.out];exact hlt)⟩
   obtain⟨g,off,rfl,hg,e0,e1,e2⟩:=(HL.out.fr Hf.out).cell hp
   simp only at e0 e1 e2
   have HT:=Lib.hid (show topP (l.take (k+1))=max (topP (l.take k)) st by
    rw [List.take_add_one,hp]
    exact topP_snoc _ _)
   obtain⟨T,hT⟩:∃ T,topP (l.take k)=T:=⟨_,rfl⟩
   rw [hT] at HT ⊢
   clear hp e0 e1 hT
   go_wp2
   go_roundw
   case rel=>exact⟨k+1,⟨by rw [HT.out],by go_num⟩,by omega,by have:=Hf.out;(repeat first|exact Fr.refl _ _|assumption|apply Fr.n|apply Fr.d|apply Fr.a|refine Fr.s ?_ (.inr (by simp;try omega)) _)⟩
   case measure=>simp [intOf];omega
  ·obtain rfl:k=m:=by omega
   rw [List.take_of_length_le (by rw [HM.out];exact Nat.le_refl _),HTT.out]
   go_wp2
   go_ret
   exact⟨rfl,by have:=Hf.out;(repeat first|exact Fr.refl _ _|assumption|apply Fr.n|apply Fr.d|apply Fr.a|refine Fr.s ?_ (.inr (by simp;try omega)) _)⟩
end Go.Proofs.Ytppmnmheodimoaa
end
section
namespace Go.Proofs.Hp
open Go Go.RowKit
theorem wpList_make1 {P:Program} {ops:Array Oper} {rest:List Oper} {o:Oper} {a:Act} {W:World} {Q:Exit→Act→World→Prop} (hgd:o.guard=none) {l c:Operand} {t e:TypeId} (ho:o.op=.makeSlice t l c) {n:Nat}
  (hl:a.eval l=.int .i64 n) (hc:a.eval c=.int .i64 n) {z:Value} {bytes:Nat} (ht:P.underlying t=some (.slice e)) (hinfo:(P.info? e).map (fun i=>(i.zero,i.size,i.bytes))=some (some z,1,bytes)) (hz:z.cells=#[z])
  (hb:bytes*n≤281474976710656) (h63:n≤maxLen)
  (h:∀ w',w'.ownsRow W.heap.size e 1 (.slice (some ⟨W.heap.size,0,none⟩) n n) n (List.replicate n z)→Fr [] W w'→W.heap.size<w'.heap.size→wpList P ops Q rest (a.put o.dst (.slice (some ⟨W.heap.size,0,none⟩) n n)) w'):wpList P ops Q (o::rest) a W:=by
 obtain⟨i,hi,hz0,hz1,hz2⟩:=info_parts hinfo
 obtain⟨w',hr,ho',hg⟩:=run_make_full W W.heap.size t e i z 1 ht hi hz0 hz1 .i64 .i64 n (by rw [hz2];exact hb) h63 (Nat.le_refl _) (P:=P)
 have hcells:(madeCells z.cells (n*1)).toList=List.replicate n z:=by
  rw [hz,Nat.mul_one]
  unfold madeCells
  apply List.ext_getElem
  ·simp
  ·intro j h1 h2
   simp [Nat.mod_one]
 rw [hcells] at ho'
 refine Mp.wpList_run hgd (w':=w') (v:=.slice (some ⟨W.heap.size,0,none⟩) n n) ?_ (h w' ho' ((Fr.refl _ _).grown hg (by simp)) (oLT ho' rfl))
 unfold execOp
 simp only [ho,hl,hc,Sem.run_bind,hr,Result.andThen_ok]
 rfl
end Go.Proofs.Hp
end
section
namespace Go.Proofs.Hp
open Go Go.RowKit Mp
theorem Seps.append {w:World}:∀ {Qs Ps:List Res} {F:List Nat},Seps w (Qs++Ps) F↔∃ F1 F2,Seps w Qs F1∧Seps w Ps F2∧(∀ x∈F1,x∉F2)∧F=F1++F2
 | [],Ps,F=>by
  constructor
  ·intro h;exact⟨[],F,rfl,h,by simp,rfl⟩
  ·rintro⟨F1,F2,h1,h2,_,rfl⟩
   rw [show F1=[] from h1];exact h2
 | Q::Qs,Ps,F=>by
  constructor
  ·rintro⟨F1,F2,h1,h2,h3,rfl⟩
   obtain⟨G1,G2,g1,g2,g3,rfl⟩:=Seps.append.1 h2
   refine⟨F1++G1,G2,⟨F1,G1,h1,g1,fun x hx hx'=>h3 x hx (by simp [hx']),rfl⟩,g2,fun x hx hx'=>?_,by simp⟩
   rcases List.mem_append.1 hx with hx|hx
   ·exact h3 x hx (by simp [hx'])
   ·exact g3 x hx hx'
  ·rintro⟨F1,F2,⟨G1,G2,g1,g2,g3,rfl⟩,h2,h3,rfl⟩
   refine⟨G1,G2++F2,g1,Seps.append.2 ⟨G2,F2,g2,h2,fun x hx=>h3 x (by simp [hx]),rfl⟩,fun x hx hx'=>?_,by simp⟩
   rcases List.mem_append.1 hx' with hx'|hx'
   ·exact g3 x hx hx'
   ·exact h3 x (by simp [hx]) hx'
def bun (Qs:List Res):Res where
 holds w F:=Seps w Qs F
 keep:=fun h hk=>Seps.keep h hk
 lt:=fun h=>Seps.lt h
section
variable {W w w':World} {Qs Ps:List Res}
theorem Has.unbun (h:Has W w (bun Qs::Ps)):Has W w (Qs++Ps):=by
 obtain⟨F,⟨F1,F2,h1,h2,h3,h4⟩,hf,hge⟩:=h
 exact⟨F,Seps.append.2 ⟨F1,F2,h1,h2,h3,h4⟩,hf,hge⟩
theorem Has.rebun (h:Has W w (Qs++Ps)):Has W w (bun Qs::Ps):=by
 obtain⟨F,h1,hf,hge⟩:=h
 obtain⟨F1,F2,h1,h2,h3,h4⟩:=Seps.append.1 h1
 exact⟨F,⟨F1,F2,h1,h2,h3,h4⟩,hf,hge⟩
theorem perm_erase {α:Type} {l:List α} {k:Nat} {a:α} (h:l[k]?=some a):l.Perm (a::l.eraseIdx k):=by
 induction l generalizing k with
 | nil=>cases h
 | cons b l ih =>
  cases k with
  | zero=>cases h;exact List.Perm.refl _
  | succ k=>exact ((ih (k:=k) h).cons b).trans (List.Perm.swap _ _ _)
theorem Has.pick {α:Type} {R:α→Res} {l:List α} {k:Nat} {a:α} (h:Has W w (bun (l.map R)::Ps)) (ha:l[k]?=some a):Has W w (R a::bun ((l.eraseIdx k).map R)::Ps):=by
 have h1:Has W w (R a::((l.eraseIdx k).map R++Ps)):=h.unbun.perm (((perm_erase ha).map R).append_right Ps)
 exact (Has.rebun (Ps:=R a::Ps) (h1.perm List.perm_middle.symm)).swap
theorem Has.vac {P:Res} (h:Has W w Ps) (hP:P.holds w []):Has W w (P::Ps):=h.new (Fr.refl [] w) hP (by simp)
theorem Has.rowSet {T size n g cap:Nat} {xs:List Value} (h:Has W w (Hp.row T size (.slice (some ⟨g,0,none⟩) n cap) n xs::Ps)) {j:Nat} (hj:j<xs.length) (u:Value):Has W (w.setCell ⟨g,j,none⟩ u) (Hp.row T size (.slice (some ⟨g,0,none⟩) n cap) n (xs.set j u)::Ps) :=
 h.turn fun F ⟨h1,h2⟩=>⟨F,⟨owns_set h1 rfl hj u,h2⟩,(Fr.refl F w).setCell (.inl (by rw [h2];simp [Value.ownBlock])) u,fun x hx=>.inl hx⟩
theorem Has.nilRow (h:Has W w Ps) (T size:Nat):Has W w (Hp.row T size (.slice none 0 0) 0 []::Ps):=h.vac ⟨World.ownsRow_nil _ _ _ _,rfl⟩
theorem Has.rowReads {T size n:Nat} {v:Value} {xs:List Value} (h:Has W w (Hp.row T size v n xs::Ps)):Reads w v n size xs:=Reads.of_owns h.row
theorem Has.appended {w9:World} {T size n n' g:Nat} {v v':Value} {xs xs':List Value} (h:Has W w (Hp.row T size v n xs::Ps)) (hown:w9.ownsRow 0 T size v' n' xs') (hv:v'.ownBlock=some g) (hf:Fr v.ownBlock.toList w w9) (hg:v.ownBlock=some g∨w.heap.size≤g):Has W w9 (Hp.row T size v' n' xs'::Ps) :=
 h.turn fun F ⟨h1,h2⟩=>⟨[g],⟨hown,by rw [hv];rfl⟩,by rw [h2];exact hf,fun x hx=>by
   simp only [List.mem_singleton] at hx
   subst hx
   rcases hg with hg|hg
   ·left;rw [h2,hg];simp
   ·right;exact hg⟩
theorem Has.blkSet {b:Nat} {cs:Array Value} {t:TypeId} (h:Has W w (Hp.blk b (.cells cs t (0,0))::Ps)) (j:Nat) (v:Value):Has W (w.setCell ⟨b,j,none⟩ v) (Hp.blk b (.cells (cs.setIfInBounds j v) t (0,0))::Ps) :=
 h.turn fun F ⟨h1,h2⟩=>⟨F,⟨heap_setCell_here h1 j v,h2⟩,(Fr.refl F w).setCell (.inl (by simp [h2])) v,fun x hx=>.inl hx⟩
def mapT {κ ν:Type} (b:Nat) (f:κ→Value) (g:ν→Value) (l:List (κ×ν)):Res where
 holds w F:=MapIs w b f g l∧F=[b]
 keep:=fun ⟨h1,h2⟩ hk=>⟨h1.of_block (hk _ (by simp [h2])),h2⟩
 lt:=fun ⟨h1,h2⟩ x hx=>by rw [h2] at hx;simp at hx;subst hx;exact h1.lt
theorem Has.map {κ ν:Type} {b:Nat} {f:κ→Value} {g:ν→Value} {l:List (κ×ν)} (h:Has W w (mapT b f g l::Ps)):MapIs w b f g l:=by obtain⟨F,h1,_⟩:=h.head;exact h1
end
section
variable {κ ν:Type} [DecidableEq κ]
def out:List (κ×ν)→κ→List (κ×ν)
 | [],_=>[]
 | p::l,k=>if p.1=k then l else p::out l k
end
def nv (l:List Nat):List Value:=l.map fun n:Nat=>Value.int .i64 (n:Int)
section
variable {W w:World} {Ps:List Res} {κ:Type} [DecidableEq κ]
def wl (L:List (κ×(Value×List Nat))) (k:κ):List Nat:=((get? L k).map (·.2)).getD []
end
section
variable {P:Program} {ops:Array Oper} {rest:List Oper} {o:Oper} {a:Act} {w:World} {Q:Exit→Act→World→Prop} {κ:Type} [DecidableEq κ] {f:κ→Value}
end
end Go.Proofs.Hp
end
section
namespace Go.Proofs.Hp
open Go Go.RowKit Mp
theorem append_has {P:Program} {ops:Array Oper} {rest:List Oper} {o:Oper} {a:Act} {W w:World} {Ps:List Res} {Q:Exit→Act→World→Prop} (hgd:o.guard=none) {s x:Operand} {t:TypeId}
  (ho:o.op=.call { callee:=.builtin .append,args:=#[s,x],argTypes:=#[t,t] }) {e:Nat} {z:Value} {size bytes:Nat} (ht:P.underlying t=some (.slice e)) (hinfo:(P.info? e).map (fun i=>(i.zero,i.size,i.bytes))=some (some z,size,bytes))
  (hzs:z.cells.size=size) (hsz:0<size) {v:Value} {n:Nat} {xs:List Value} (hs:a.eval s=v) {nb c:Nat} {news:List Value} {fr:Nat×Nat} (hx:a.eval x=.slice (some ⟨nb,0,none⟩) 1 c)
  (h:Has W w (Hp.row e size v n xs::Ps)) (hnb:w.heap[nb]?=some (.cells news.toArray e fr)) (hl:news.length=size) (h1:∀ u∈news,u.oneCell'=true) (h63:n+1≤maxLen) (hbytes:(n+1)*bytes≤140737488355328)
  (hnext:∀ g cap w',Has W w' (Hp.row e size (.slice (some ⟨g,0,none⟩) (n+1) cap) (n+1) (xs++news)::Ps)→Fr v.ownBlock.toList w w'→g<w'.heap.size→wpList P ops Q rest (a.put o.dst (.slice (some ⟨g,0,none⟩) (n+1) cap)) w'):wpList P ops Q (o::rest) a w :=
 append_new hgd ho (base:=0) ht hinfo hzs hsz hs h.row hx hnb hl h1 h63 hbytes (Nat.zero_le _) fun g cap w' h2 _ h3 h4 h5 =>
  hnext g cap w' (h.appended h2 rfl h3 (by rcases h4 with h4|h4;exact .inl h4;exact .inr (Nat.le_of_eq h4.symm))) h3 h5
theorem Has.bring {W w:World} {Xs:List Res} (i:Nat) (h:Has W w Xs):Has W w ((Xs[i]?).toList++Xs.eraseIdx i):=by
 cases hi:Xs[i]? with
 | none =>
  rw [List.eraseIdx_of_length_le (by rw [List.getElem?_eq_none_iff] at hi;exact hi)]
  exact h
 | some P=>exact h.perm (perm_erase hi)
theorem owns_form2 {w:World} {base e size n:Nat} {v:Value} {xs:List Value} (h:w.ownsRow base e size v n xs):∃ a cap,v=.slice a n cap∧(a=none→n=0∧cap=0)∧∀ ad,a=some ad→∃ g,ad=⟨g,0,none⟩:=by
 rcases h.2 with ⟨h2,h0⟩|⟨g,cap,cur,hv,_⟩
 ·exact⟨none,0,by rw [h2,h0],fun _=>⟨h0,rfl⟩,by simp⟩
 ·exact⟨_,cap,hv,by simp,fun ad e=>⟨g,by simpa using e.symm⟩⟩
theorem owns_cap {w:World} {base e size n:Nat} {a:Option Addr} {c:Nat} {xs:List Value} (h:w.ownsRow base e size (.slice a n c) n xs):n≤c:=by
 rcases h.2 with ⟨h1,h0⟩|⟨g,cap,cur,h1,_,_,h2,_⟩
 ·omega
 ·cases h1;exact h2
theorem Has.apart {W w:World} {Ps:List Res} {P Q:Res} (h:Has W w (P::Q::Ps)):∃ F G,P.holds w F∧Q.holds w G∧∀ x∈F,x∉G:=by
 obtain⟨F,⟨F1,F2,h1,⟨G1,G2,g1,g2,g3,rfl⟩,h3,rfl⟩,hf,hge⟩:=h
 exact⟨F1,G1,h1,g1,fun x hx hx'=>h3 x hx (by simp [hx'])⟩
theorem Has.bb {W w:World} {a b:Nat} {o1 o2:Obj} {Ps:List Res} (h:Has W w (Hp.blk a o1::Hp.blk b o2::Ps)):a≠b:=by
 obtain⟨F,G,⟨_,rfl⟩,⟨_,rfl⟩,h⟩:=h.apart
 rintro rfl
 exact h a (by simp) (by simp)
theorem Has.br {W w:World} {a:Nat} {o1:Obj} {T size n g c:Nat} {xs:List Value} {Ps:List Res} (h:Has W w (Hp.blk a o1::Hp.row T size (.slice (some ⟨g,0,none⟩) n c) n xs::Ps)):a≠g:=by
 obtain⟨F,G,⟨_,rfl⟩,⟨_,rfl⟩,h⟩:=h.apart
 rintro rfl
 exact h a (by simp) (by simp [Value.ownBlock])
end Go.Proofs.Hp
end
section
namespace Go.Proofs.Ytppmnmheodimoaa
open Go Go.RowKit Rg Mp Hp Qs Ev Pt
theorem fld_first {p:List PC} {i:Nat} {c:PC} (h:p[i]?=some c) (hn:∀ d∈p.take i,¬(d.x=c.x∧d.y=c.y)):fldP p c.x c.y=c.st:=by
 have hl:=(List.getElem?_eq_some_iff.1 h).1
 have e:p=p.take i++c::p.drop (i+1):=by
  have:=(List.getElem?_eq_some_iff.1 h).2
  rw [← this,List.getElem_cons_drop,List.take_append_drop]
 unfold fldP
 rw [e,List.find?_append,List.find?_eq_none.2 fun d hd=>by simpa using hn d hd]
 simp
set_option maxHeartbeats 4000000 in
theorem RGet5_calls {w:World} {p:List PC} {a:Option Addr} {c:Nat} (hl:CellsAtY w (.slice a p.length c) p) (hlen:p.length≤60000) (x y:Int) :
  Calls Try.prog 34 #[.slice a p.length c,.int .i64 x,.int .i64 y] w fun e w'=>e=.returned (.int .i64 (fldP p x y))∧Fr [] w w':=by
 have HL:=Lib.hid hl
 obtain⟨m,hm⟩:∃ m,p.length=m:=⟨_,rfl⟩
 rw [hm] at hlen ⊢
 have HM:=Lib.hid hm
 clear hl hm
 go_enter Try.func34,Try.ntmps34
 go_wp2
 go_loopg [7] m (fun gg z wr=>∃ i:Nat,i≤m∧m - i≤gg∧z=.int .i64 (i:Int)∧wr=w∧Hid (∀ d∈p.take i,¬(d.x=x∧d.y=y)))
 case atStart=>exact⟨0,Nat.zero_le _,by omega,rfl,rfl,Lib.hid (by simp)⟩
 case round =>
  obtain⟨i,hi,hg,rfl,rfl,HA⟩:=hrel
  by_cases hin:i<m
  ·obtain⟨⟨cx,cy,st⟩,hp⟩:∃ c,p[i]?=some c:=⟨_,List.getElem?_eq_getElem (by rw [HM.out];exact hin)⟩
   have hL:=HL.out
   rw [HM.out] at hL
   obtain⟨g,off,rfl,hg,e0,e1,e2⟩:=CellsAtY.cell hL hp
   simp only at e0 e1 e2
   have htk:p.take (i+1)=p.take i++[⟨cx,cy,st⟩]:=by rw [List.take_add_one,hp];rfl
   have HTK:=Lib.hid htk
   have HP:=Lib.hid hp
   clear hL hp htk
   by_cases hx:cx=x
   ·subst hx
    by_cases hy:cy=y
    ·subst hy
     have HF:=Lib.hid (fld_first HP.out HA.out)
     go_wp2
     go_ret
     exact⟨by rw [HF.out];rfl,Fr.refl _ _⟩
    ·have b1:(cy == y)=false:=by simpa using hy
     go_wp2
     go_roundg (m - (i+1))
     case measure=>omega
     case rel=>exact⟨i+1,hin,Nat.le_refl _,by simp,rfl,Lib.hid (fun d hd=>by
      rw [HTK.out] at hd
      rcases List.mem_append.1 hd with hd|hd
      ·exact HA.out d hd
      ·simp at hd;rw [hd];exact fun e=>hy e.2)⟩
   ·have b1:(cx == x)=false:=by simpa using hx
    go_wp2
    go_roundg (m - (i+1))
    case measure=>omega
    case rel=>exact⟨i+1,hin,Nat.le_refl _,by simp,rfl,Lib.hid (fun d hd=>by
     rw [HTK.out] at hd
     rcases List.mem_append.1 hd with hd|hd
     ·exact HA.out d hd
     ·simp at hd;rw [hd];exact fun e=>hx e.1)⟩
  ·obtain rfl:m=i:=by omega
   have h2:=HA.out
   rw [List.take_of_length_le (by rw [HM.out];exact Nat.le_refl _)] at h2
   have HF:=Lib.hid (fld_none h2)
   clear h2 HA
   go_wp2
   go_ret
   exact⟨by rw [HF.out];rfl,Fr.refl _ _⟩
theorem Rvalid20_calls {w:World} {x y:Int} (hx:-1000≤x∧x≤1000) (hy:-1000≤y∧y≤1000) :
  Calls Try.prog 97 #[.int .i64 x,.int .i64 y] w fun e w'=>e=.returned (.bool true)∧w'=w:=by
 have b0:decide (x ≥ -1048576)=true:=decide_eq_true (by omega)
 have b1:decide (x≤1048576)=true:=decide_eq_true (by omega)
 have b2:decide (y ≥ -1048576)=true:=decide_eq_true (by omega)
 have b3:decide (y≤1048576)=true:=decide_eq_true (by omega)
 clear hx hy
 go_enter Try.func97,Try.ntmps97
 go_wp2
 go_ret
 exact⟨rfl,rfl⟩
theorem box_result {fn:Func} {p u:Tmp} (h:fn.results=#[.cell p 158,.tmp u]) {tmps:Array Value} {b:Nat} {w':World} {x y z t v:Value} (h4:tmps.getD p undef=.pointer (some ⟨b,0,none⟩)) (hb:w'.heap[b]?=some (.cells #[x,y,z,t] 158 (0,0))) (h5:tmps.getD u undef=v) :
  (results fn tmps).run Try.prog w'=.ok (.tuple #[.agg #[x,y,z,t],v]) w':=by
 rw [results_cell2 h,h4]
 simp only [asAddr,Sem.run_pure,Result.andThen]
 rw [run_loadVar_row w' b _ _ _ _ _ hb Try.underlying158 rfl (by kernel_rfl)]
 simp only [h5]
structure BoxOk (B:Int) (p:List PC) (b:Bx):Prop where
 low:-B≤b.x∧b.x+b.w≤B∧-B≤b.y∧b.y+b.h≤B
 all:∀ c∈p,b.x≤c.x∧c.x<b.x+b.w∧b.y≤c.y∧c.y<b.y+b.h
theorem BoxOk.hold {B:Int} {p:List PC} {b:Bx} (h:BoxOk B p b):Hold b (fldP p):=fun x y hn=>fld_none fun c hc he=>hn (by have:=h.all c hc;omega)
def BoxPost (w:World) (B:Int) (p:List PC) (e:Ending) (w':World):Prop :=
 ∃ (b:Bx) (ok:Bool),e=.returned (.tuple #[.agg #[.int .i64 b.x,.int .i64 b.y,.int .i64 (b.w:Int),.int .i64 (b.h:Int)],.bool ok])∧BoxOk B p b∧Fr [] w w'
set_option maxHeartbeats 8000000 in
set_option maxRecDepth 100000 in
theorem RBox_calls {w:World} {p:List PC} {a:Option Addr} {c:Nat} (hl:CellsAtY w (.slice a p.length c) p) (hr:rightP p=true) {B:Int} (hB:0≤B∧B≤1000) (hw:Wi B p) :
  Calls Try.prog 106 #[.slice a p.length c] w (BoxPost w B p):=by
 have HL:=Lib.hid hl
 have HW:=Lib.hid hw
 have hlen:=(right_parts hr).1
 have HRR:=Lib.hid (fun w' (hf:Fr [] w w')=>RRight_p (hl.fr hf) (by omega))
 rw [hr] at HRR
 have H0:=Lib.hid ((Has.nil (Fr.refl [] w)).newBlk (.cells #[.int .i64 0,.int .i64 0,.int .i64 0,.int .i64 0] 158 (0,0)))
 obtain⟨m,hm⟩:∃ m,p.length=m:=⟨_,rfl⟩
 rw [hm] at hlen HRR ⊢
 have HM:=Lib.hid hm
 clear hl hw hr hm
 by_cases hm0:m=0
 ·subst hm0
  have hb:=H0.out.blk
  have v0:_=some _:=hEC hb 0
  have v1:_=some _:=hEC hb 1
  have v2:_=some _:=hEC hb 2
  have v3:_=some _:=hEC hb 3
  have z0:=hEF hb 0
  have z1:=hEF hb 1
  have z2:=hEF hb 2
  have z3:=hEF hb 3
  have vl:=lBk hb
  clear hb
  go_enter Try.func106,Try.ntmps106
  go_wp2
  (try simp only [Exit.inBlock,Exit.then])
  have h5:=H0.out
  refine bodyPost_ret (box_result rfl (b:=w.heap.size) (x:=.int .i64 0) (y:=.int .i64 0) (z:=.int .i64 0) (t:=.int .i64 0) rfl ?_ rfl) rfl ⟨⟨0,0,0,0⟩,false,rfl,⟨by simp;omega,fun c hc=>?_⟩,?_⟩
  ·exact (h5.step (by (repeat first|exact Fr.refl _ _|assumption|apply Fr.n|apply Fr.d|apply Fr.a|refine Fr.s ?_ (.inr (by simp;try omega)) _))).blk
  ·rw [List.length_eq_zero_iff.1 HM.out] at hc;cases hc
  ·exact (h5.step (by (repeat first|exact Fr.refl _ _|assumption|apply Fr.n|apply Fr.d|apply Fr.a|refine Fr.s ?_ (.inr (by simp;try omega)) _))).fr
 ·go_enter Try.func106,Try.ntmps106
  go_wp2_with fail
  refine (HRR.out _ (by (repeat first|exact Fr.refl _ _|assumption|apply Fr.n|apply Fr.d|apply Fr.a|refine Fr.s ?_ (.inr (by simp;try omega)) _))).mono ?_
  rintro e w1 ⟨rfl,hf1⟩
  have h1:=H0.out.step (Fr.trans0 (by (repeat first|exact Fr.refl _ _|assumption|apply Fr.n|apply Fr.d|apply Fr.a|refine Fr.s ?_ (.inr (by simp;try omega)) _)) hf1)
  obtain⟨fb,hfb⟩:∃ b,w.heap.size=b:=⟨_,rfl⟩
  rw [hfb] at h1 ⊢
  have H1:=Lib.hid h1
  clear h1 hfb hf1 HRR H0
  obtain⟨⟨x0,y0,s0⟩,hp0⟩:∃ c,p[0]?=some c:=⟨_,List.getElem?_eq_getElem (by rw [HM.out];omega)⟩
  have hw0:=HW.out _ (List.mem_of_getElem? hp0)
  have hL:=HL.out.fr H1.out.fr
  rw [HM.out] at hL
  obtain⟨g,off,rfl,hg,e0,e1,e2⟩:=CellsAtY.cell hL hp0
  simp only [Nat.zero_mul,Nat.add_zero] at e0 e1 e2 hw0
  clear hL hp0
  go_wp2
  (refine wRT (by kernel_rfl) (by kernel_rfl) ?_)
  go_wp2
  refine Strict.intro rfl ?_
  go_wp2
  clear e0 e1 e2
  go_loopg [4,5,6,7,8] m (fun gg z4 z5 z6 z7 z8 wr=>∃ (i:Nat) (lx ly rx ry:Int),i≤m∧m - i≤gg∧z8=.int .i64 (i:Int)∧z4=.int .i64 lx∧z5=.int .i64 ly∧z6=.int .i64 rx∧z7=.int .i64 ry∧-B≤lx∧lx≤rx∧rx<B∧-B≤ly∧ly≤ry∧ry<B∧Hid (∀ d∈p.take i,lx≤d.x∧d.x≤rx∧ly≤d.y∧d.y≤ry)∧Hid (Has w wr [Hp.blk fb (.cells #[.int .i64 0,.int .i64 0,.int .i64 0,.int .i64 0] 158 (0,0))]))
  case atStart=>exact⟨0,x0,y0,x0,y0,Nat.zero_le _,by omega,rfl,rfl,rfl,rfl,rfl,hw0.1,Int.le_refl _,hw0.2.1,hw0.2.2.1,Int.le_refl _,hw0.2.2.2,Lib.hid (by simp),Lib.hid (H1.out.step (by (repeat first|exact Fr.refl _ _|assumption|apply Fr.n|apply Fr.d|apply Fr.a|refine Fr.s ?_ (.inr (by simp;try omega)) _)))⟩
  case round =>
   obtain⟨i,lx,ly,rx,ry,hi,hgg,rfl,rfl,rfl,rfl,rfl,hx1,hx2,hx3,hy1,hy2,hy3,HA,HH⟩:=hrel
   clear H1
   by_cases hin:i<m
   ·obtain⟨⟨cx,cy,st⟩,hp⟩:∃ c,p[i]?=some c:=⟨_,List.getElem?_eq_getElem (by rw [HM.out];exact hin)⟩
    have hwc:=HW.out _ (List.mem_of_getElem? hp)
    simp only at hwc
    have hL:=HL.out.fr HH.out.fr
    rw [HM.out] at hL
    obtain⟨g',off',hge,hg',e0,e1,e2⟩:=CellsAtY.cell hL hp
    cases hge
    simp only at e0 e1 e2
    have htk:p.take (i+1)=p.take i++[⟨cx,cy,st⟩]:=by rw [List.take_add_one,hp];rfl
    have HTK:=Lib.hid htk
    clear hL hp htk
    go_wp2
    go_roundg (m - (i+1))
    case measure=>omega
    case rel =>
     refine⟨i+1,min lx cx,min ly cy,max rx cx,max ry cy,hin,Nat.le_refl _,by simp,rfl,rfl,rfl,rfl,by omega,by omega,by omega,by omega,by omega,by omega,Lib.hid (fun d hd=>?_),Lib.hid (HH.out.step (by (repeat first|exact Fr.refl _ _|assumption|apply Fr.n|apply Fr.d|apply Fr.a|refine Fr.s ?_ (.inr (by simp;try omega)) _)))⟩
     rw [HTK.out] at hd
     rcases List.mem_append.1 hd with hd|hd
     ·have:=HA.out d hd;omega
     ·simp at hd;rw [hd];simp only;omega
   ·obtain rfl:m=i:=by omega
    have h2:=HA.out
    rw [List.take_of_length_le (by rw [HM.out];exact Nat.le_refl _)] at h2
    have HB:=Lib.hid h2
    have hb:=HH.out.blk
    have v0:_=some _:=hEC hb 0
    have v1:_=some _:=hEC hb 1
    have v2:_=some _:=hEC hb 2
    have v3:_=some _:=hEC hb 3
    have z0:=hEF hb 0
    have z1:=hEF hb 1
    have z2:=hEF hb 2
    have z3:=hEF hb 3
    have vl:=lBk hb
    obtain⟨bw,hbw⟩:∃ n:Nat,rx - lx+1=n:=⟨(rx - lx+1).toNat,by omega⟩
    obtain⟨bh,hbh⟩:∃ n:Nat,ry - ly+1=n:=⟨(ry - ly+1).toNat,by omega⟩
    clear h2 HA hb
    go_wp2
    (try simp only [Exit.inBlock,Exit.then])
    (try rw [hbw])
    (try rw [hbh])
    have h5:=((((HH.out.blkSet 0 (.int .i64 lx)).blkSet 1 (.int .i64 ly)).blkSet 2 (.int .i64 (bw:Int))).blkSet 3 (.int .i64 (bh:Int)))
    refine bodyPost_ret (box_result rfl (b:=fb) (x:=.int .i64 lx) (y:=.int .i64 ly) (z:=.int .i64 (bw:Int)) (t:=.int .i64 (bh:Int)) rfl ?_ rfl) rfl ⟨⟨lx,ly,bw,bh⟩,true,rfl,⟨by simp only;omega,fun c hc=>?_⟩,?_⟩
    ·exact (h5.step (by (repeat first|exact Fr.refl _ _|assumption|apply Fr.n|apply Fr.d|apply Fr.a|refine Fr.s ?_ (.inr (by simp;try omega)) _))).blk
    ·have:=HB.out c hc
     simp only
     omega
    ·exact (h5.step (by (repeat first|exact Fr.refl _ _|assumption|apply Fr.n|apply Fr.d|apply Fr.a|refine Fr.s ?_ (.inr (by simp;try omega)) _))).fr
end Go.Proofs.Ytppmnmheodimoaa
end
section
namespace Go.Proofs.Ytppmnmheodimoaa
open Go Go.RowKit Rg Mp Hp Qs Ev Pt
def arrA (F:Fld) (b:Bx):List Int:=(List.range (b.w*b.h)).map fun k=>F (b.x+((k % b.w:Nat):Int)) (b.y+((k / b.w:Nat):Int))
theorem arr_len (F:Fld) (b:Bx):(arrA F b).length=b.w*b.h:=by simp [arrA]
theorem arr_ix {b:Bx} {u v:Nat} (hu:u<b.w) (hv:v<b.h):v*b.w+u<b.w*b.h∧(v*b.w+u) % b.w=u∧(v*b.w+u) / b.w=v:=by
 have h1:(v+1)*b.w≤b.h*b.w:=Nat.mul_le_mul_right _ (by omega)
 rw [Nat.add_mul,Nat.mul_comm b.h b.w] at h1
 refine⟨by omega,?_,?_⟩
 ·rw [Nat.mul_comm,Nat.mul_add_mod,Nat.mod_eq_of_lt hu]
 ·rw [Nat.mul_comm,Nat.mul_add_div (by omega),Nat.div_eq_of_lt hu,Nat.add_zero]
theorem arr_at {F:Fld} {b:Bx} {k:Nat} (hk:k<b.w*b.h):(arrA F b)[k]?=some (F (b.x+((k % b.w:Nat):Int)) (b.y+((k / b.w:Nat):Int))):=by
 unfold arrA
 rw [List.getElem?_map,List.getElem?_range hk];rfl
theorem arr_get {F:Fld} {b:Bx} {u v:Nat} (hu:u<b.w) (hv:v<b.h):(arrA F b)[v*b.w+u]?=some (F (b.x+u) (b.y+v)):=by
 obtain⟨h1,h2,h3⟩:=arr_ix hu hv
 rw [arr_at h1,h2,h3]
theorem arr_set {F G:Fld} {b:Bx} {u v:Nat} {s:Int} (hu:u<b.w) (hv:v<b.h) (hG:∀ x y,G x y=if b.x+(u:Int)=x∧b.y+(v:Int)=y then s else F x y):(arrA F b).set (v*b.w+u) s=arrA G b:=by
 obtain⟨h1,h2,h3⟩:=arr_ix hu hv
 apply List.ext_getElem?
 intro k
 by_cases hk:k<b.w*b.h
 ·by_cases e:v*b.w+u=k
  ·subst e
   rw [List.getElem?_set_self (by rw [arr_len];exact hk),arr_at hk,h2,h3,hG,if_pos ⟨rfl,rfl⟩]
  ·rw [List.getElem?_set_ne e,arr_at hk,arr_at hk,hG,if_neg]
   rintro⟨ha,hb⟩
   have hm:=Nat.div_add_mod k b.w
   have h4:k % b.w=u:=by omega
   have h5:k / b.w=v:=by omega
   rw [h4,h5,Nat.mul_comm] at hm
   exact e hm
 ·rw [List.getElem?_eq_none (by rw [List.length_set,arr_len];omega),List.getElem?_eq_none (by rw [arr_len];omega)]
theorem arr_zero (b:Bx):arrA (fldP []) b=List.replicate (b.w*b.h) 0:=by
 rw [List.eq_replicate_iff]
 refine⟨arr_len _ _,fun x hx=>?_⟩
 obtain⟨k,_,rfl⟩:=List.mem_map.1 hx
 rfl
def PatSrc (W:World) (Ps:List Res) (a:Option Addr) (c:Nat) (p:List PC):Prop:=∀ w Qs,Has W w Qs→(∀ P∈Ps,P∈Qs)→CellsAtY w (.slice a p.length c) p
theorem PatSrc.base {W:World} {Ps:List Res} {a:Option Addr} {c:Nat} {p:List PC} (h:CellsAtY W (.slice a p.length c) p):PatSrc W Ps a c p:=fun w Qs hw _=>h.fr hw.fr
theorem PatSrc.more {W:World} {Ps Rs:List Res} {a:Option Addr} {c:Nat} {p:List PC} (h:PatSrc W Ps a c p) (hs:∀ P∈Ps,P∈Rs):PatSrc W Rs a c p:=fun w Qs hw hP=>h w Qs hw fun P hp=>hP P (hs P hp)
theorem has_mem3 {W w:World} {Ps:List Res} {P:Res} (h:Has W w Ps) (hp:P∈Ps):∃ Qs,Has W w (P::Qs):=by
 obtain⟨q1,q2,rfl⟩:=List.append_of_mem hp
 exact⟨q1++q2,h.perm List.perm_middle⟩
theorem PatSrc.row {W:World} {Ps:List Res} {a:Option Addr} {c n:Nat} {p:List PC} (hn:p.length=n) (hm:Hp.row 110 3 (.slice a n c) n (pcs p)∈Ps):PatSrc W Ps a c p:=fun w Qs hw hP=>by
 subst hn
 obtain⟨Q,h1⟩:=has_mem3 hw (hP _ hm)
 exact h1.rowReads
def fieldV (b:Bx) (ca:Option Addr) (n:Nat) (la:Option Addr) (m c:Nat):Value:=.agg #[.bool true,.int .i64 b.x,.int .i64 b.y,.int .i64 (b.w:Int),.int .i64 (b.h:Int),.slice ca n n,.slice la m c]
theorem field_result {fn:Func} {p:Tmp} (h:fn.results=#[.cell p 160]) {tmps:Array Value} {b:Nat} {w':World} {x0 x1 x2 x3 x4 x5 x6:Value} (h4:tmps.getD p undef=.pointer (some ⟨b,0,none⟩)) (hb:w'.heap[b]?=some (.cells #[x0,x1,x2,x3,x4,x5,x6] 160 (0,0))) :
  (results fn tmps).run Try.prog w'=.ok (.agg #[x0,x1,x2,x3,x4,x5,x6]) w':=by
 rw [results_cell1 h,h4]
 simp only [asAddr,Sem.run_pure,Result.andThen]
 rw [run_loadVar_row w' b _ _ _ _ _ hb Try.underlying160 rfl (by kernel_rfl)]
def StatesPost (W:World) (Ps:List Res) (B:Int) (p:List PC) (a:Option Addr) (c:Nat) (e:Ending) (w':World):Prop :=
 ∃ (b:Bx) (cb:Nat),e=.returned (fieldV b (some ⟨cb,0,none⟩) (b.w*b.h) a p.length c)∧BoxOk B p b∧Has W w' (Hp.row 3 1 (.slice (some ⟨cb,0,none⟩) (b.w*b.h) (b.w*b.h)) (b.w*b.h) (iv (arrA (fldP p) b))::Ps)
set_option maxHeartbeats 8000000 in
set_option maxRecDepth 100000 in
theorem RStates_calls {W w:World} {Ps:List Res} (h:Has W w Ps) {p:List PC} {a:Option Addr} {c:Nat} (hl:PatSrc W Ps a c p) (hr:rightP p=true) {B:Int} (hB:0≤B∧B≤100) (hw:Wi B p) :
  Calls Try.prog 94 #[.slice a p.length c] w (StatesPost W Ps B p a c):=by
 have HL:=Lib.hid hl
 have HR:=Lib.hid (right_parts hr)
 have H0:=Lib.hid (h.newBlk (.cells #[.bool false,.int .i64 0,.int .i64 0,.int .i64 0,.int .i64 0,.slice none 0 0,.slice none 0 0] 160 (0,0)))
 have hBX:=fun w' (hf:Fr [] w w')=>RBox_calls ((hl w' Ps (h.step hf) fun P hP=>hP)) hr (B:=B) (by omega) hw
 obtain⟨m,hm⟩:∃ m,p.length=m:=⟨_,rfl⟩
 rw [hm] at hBX ⊢
 have HBX:=Lib.hid hBX
 have HM:=Lib.hid hm
 have HM5:=Lib.hid (show m≤5000 from by rw [← hm];exact HR.out.1)
 clear h hl hw hr hm hBX
 go_enter Try.func94,Try.ntmps94
 go_wp2_with fail
 refine (HBX.out _ (by (repeat first|exact Fr.refl _ _|assumption|apply Fr.n|apply Fr.d|apply Fr.a|refine Fr.s ?_ (.inr (by simp;try omega)) _))).mono ?_
 rintro e w1 ⟨b,ok,rfl,hbo,hf1⟩
 obtain⟨bx,by',bw,bh⟩:=b
 have h1:=H0.out.step (Fr.trans0 (by (repeat first|exact Fr.refl _ _|assumption|apply Fr.n|apply Fr.d|apply Fr.a|refine Fr.s ?_ (.inr (by simp;try omega)) _)) hf1)
 obtain⟨rb,hrb⟩:∃ b,w.heap.size=b:=⟨_,rfl⟩
 rw [hrb] at h1 ⊢
 have h2:=(h1.newBlk (.cells #[.int .i64 bx,.int .i64 by',.int .i64 (bw:Int),.int .i64 (bh:Int)] 158 (0,0))).newBlk (.cells #[.bool true,.int .i64 bx,.int .i64 by',.int .i64 (bw:Int),.int .i64 (bh:Int),.slice none 0 0,.slice a m c] 160 (0,0))
 have hlow:=hbo.low
 simp only at hlow
 have hw200:bw≤200:=by omega
 have hh200:bh≤200:=by omega
 have hmul:bw*bh≤200*200:=Nat.mul_le_mul hw200 hh200
 obtain⟨n,hn⟩:∃ n,bw*bh=n:=⟨_,rfl⟩
 rw [hn] at hmul
 have hni:(bw:Int)*(bh:Int)=(n:Int):=by rw [← hn];simp
 have hnw:wrap64 (n:Int)=(n:Int):=by unfold wrap64;omega
 have HNW:=Lib.hid hnw
 have hnd:decide ((n:Int)≤40000)=true:=decide_eq_true (by omega)
 have HBO:=Lib.hid hbo
 have HNN:=Lib.hid hn
 have H2:=Lib.hid h2
 have hmaxl:(40000:Nat)≤maxLen:=by decide
 have hlm:n≤maxLen:=by omega
 have hn4:n≤40000:=by omega
 clear hbo hf1 h1 h2 hrb H0 HBX hmaxl hn hmul
 go_wp2_with (refine wpList_make1 (n:=n) (z:=.int .i64 0) (bytes:=8) (e:=3) rfl rfl (by first|rfl|exact congrArg (Value.int .i64) HNW.out) (by first|rfl|exact congrArg (Value.int .i64) HNW.out) Try.underlying71 (by kernel_rfl) rfl (by omega) hlm ?_)
 intro w3 hrow3 hf3 hs3
 have h3:=H2.out.newRow hf3 (by simp only [hAz];exact hrow3)
 simp only [hAz] at h3
 obtain⟨xb,hxb⟩:∃ b,w1.heap.size=b:=⟨_,rfl⟩
 rw [hxb] at h3 ⊢
 obtain⟨fb,hfb⟩:∃ b,xb+1=b:=⟨_,rfl⟩
 rw [hfb] at h3 ⊢
 obtain⟨cb,hcb⟩:∃ b,fb+1=b:=⟨_,rfl⟩
 rw [hcb] at h3 ⊢
 have hb:=(h3.bring 1).blk
 have v5:_=some _:=hEC hb 5
 have z5:=hEF hb 5
 have vl:=lBk hb
 have H3:=Lib.hid h3
 clear h3 hrow3 hf3 hs3 hxb hfb hcb hb H2 hlm
 go_wp2
 have h4:=((H3.out.bring 1).blkSet 5 (.slice (some ⟨cb,0,none⟩) n n)).ord 2 [1,0]
 simp only [List.filterMap_cons,List.filterMap_nil,List.getElem?_cons_zero,List.getElem?_cons_succ,List.drop_succ_cons,List.drop_zero,List.cons_append,List.nil_append,List.take_succ_cons,List.take_zero,List.eraseIdx_cons_succ,List.eraseIdx_zero,List.eraseIdx_cons_zero,List.tail_cons,Option.toList_some] at h4
 have H4:=Lib.hid h4
 clear h4 H3 v5 z5 vl
 go_loopg [6] m (fun gg z wr=>∃ i:Nat,i≤m∧m - i≤gg∧z=.int .i64 (i:Int)∧Hid (Has W wr (Hp.row 3 1 (.slice (some ⟨cb,0,none⟩) n n) n (iv (arrA (fldP (p.take i)) ⟨bx,by',bw,bh⟩))::Hp.blk fb (.cells #[.bool true,.int .i64 bx,.int .i64 by',.int .i64 (bw:Int),.int .i64 (bh:Int),.slice (some ⟨cb,0,none⟩) n n,.slice a m c] 160 (0,0))::Hp.blk xb (.cells #[.int .i64 bx,.int .i64 by',.int .i64 (bw:Int),.int .i64 (bh:Int)] 158 (0,0))::Hp.blk rb (.cells #[.bool false,.int .i64 0,.int .i64 0,.int .i64 0,.int .i64 0,.slice none 0 0,.slice none 0 0] 160 (0,0))::Ps)))
 case atStart =>
  refine⟨0,Nat.zero_le _,by omega,rfl,Lib.hid ?_⟩
  rw [List.take_zero,arr_zero,← iv_replicate]
  simp only [HNN.out]
  exact H4.out.step (by (repeat first|exact Fr.refl _ _|assumption|apply Fr.n|apply Fr.d|apply Fr.a|refine Fr.s ?_ (.inr (by simp;try omega)) _))
 case round =>
  obtain⟨i,hi,hg,rfl,HH⟩:=hrel
  clear H4
  have hb:=(HH.out.bring 1).blk
  have v0:_=some _:=hEC hb 0
  have v1:_=some _:=hEC hb 1
  have v2:_=some _:=hEC hb 2
  have v3:_=some _:=hEC hb 3
  have v4:_=some _:=hEC hb 4
  have v5:_=some _:=hEC hb 5
  have v6:_=some _:=hEC hb 6
  have vl:=lBk hb
  have hb:=(HH.out.bring 2).blk
  have x0:_=some _:=hEC hb 0
  have x1:_=some _:=hEC hb 1
  have x2:_=some _:=hEC hb 2
  have x3:_=some _:=hEC hb 3
  have xl:=lBk hb
  clear hb
  by_cases hin:i<m
  ·obtain⟨⟨cx,cy,st⟩,hp⟩:∃ c,p[i]?=some c:=⟨_,List.getElem?_eq_getElem (by rw [HM.out];exact hin)⟩
   have hca:=HBO.out.all _ (List.mem_of_getElem? hp)
   simp only at hca
   obtain⟨u,rfl⟩:∃ u:Nat,cx=bx+u:=⟨(cx - bx).toNat,by omega⟩
   obtain⟨v,rfl⟩:∃ v:Nat,cy=by'+v:=⟨(cy - by').toNat,by omega⟩
   have hu:u<bw:=by omega
   have hv:v<bh:=by omega
   have hL:=HL.out _ _ HH.out (fun P hP=>by simp [hP])
   rw [HM.out] at hL
   obtain⟨g,off,rfl,hg8,e0,e1,e2⟩:=CellsAtY.cell hL hp
   simp only at e0 e1 e2
   obtain⟨hk1,_,_⟩:=arr_ix (b:=⟨bx,by',bw,bh⟩) hu hv
   simp only at hk1
   rw [HNN.out] at hk1
   obtain⟨k,hk⟩:∃ k,v*bw+u=k:=⟨_,rfl⟩
   rw [hk] at hk1
   have hr:=HH.out.row
   have hlen:(iv (arrA (fldP (p.take i)) ⟨bx,by',bw,bh⟩)).length=n:=by rw [iv_length,arr_len];exact HNN.out
   obtain⟨y,hy⟩:∃ y,(iv (arrA (fldP (p.take i)) ⟨bx,by',bw,bh⟩))[k]?=some y:=⟨_,List.getElem?_eq_getElem (by omega)⟩
   have r0:=owns_cell hr rfl hy
   have rz:=owns_frozen hr rfl k
   have rl:=oLT hr rfl
   have hset:=Has.rowSet (j:=k) HH.out (by omega) (.int .i64 st)
   have hst:(arrA (fldP (p.take i)) ⟨bx,by',bw,bh⟩).set k st=arrA (fldP (p.take (i+1))) ⟨bx,by',bw,bh⟩:=by
    rw [← hk]
    refine arr_set hu hv fun x y=>?_
    rw [List.take_add_one,hp]
    refine fld_snoc (fun d hd he=>?_) x y
    have hdm:d∈p:=List.mem_of_mem_take hd
    obtain⟨j,hj,rfl⟩:=List.getElem_of_mem hd
    rw [List.length_take] at hj
    have hpp:=List.pairwise_iff_getElem.1 (strict_pair HR.out.2.2) j i (by omega) (by rw [HM.out];exact hin) (by omega)
    have e9:p[i]'(by rw [HM.out];exact hin)=⟨bx+u,by'+v,st⟩:=Option.some.inj ((List.getElem?_eq_getElem _).symm.trans hp)
    rw [e9] at hpp
    simp only [List.getElem_take] at he
    simp only [pBef,decide_eq_true_eq] at hpp
    omega
   rw [iv_set,hst] at hset
   have HS:=Lib.hid hset
   have hwi:wrap64 ((i:Int)+1)=(i:Int)+1:=by have:=HM5.out;unfold wrap64;omega
   have q1:by'+(v:Int) - by'=(v:Int):=by omega
   have hvw:v*bw≤200*200:=Nat.mul_le_mul (by omega) hw200
   obtain⟨t,ht⟩:∃ t,v*bw=t:=⟨_,rfl⟩
   have q2:(v:Int)*(bw:Int)=(t:Int):=by rw [← ht];simp
   rw [ht] at hk hvw
   have q3:(t:Int)+(bx+(u:Int)) - bx=(k:Int):=by omega
   clear hL hp hr hlen hy hset hst HH hca ht
   go_wp2
   (refine wRT (by kernel_rfl) (by kernel_rfl) ?_)
   go_wp2
   refine Strict.intro rfl ?_
   go_wp2
   clear q1 q2 q3 hvw hk hk1 hu hv hw200 hh200 hn4 hnw hnd hni hlow hB e0 e1 e2 r0 rz rl v0 v1 v2 v3 v4 v5 v6 vl x0 x1 x2 x3 xl hg8
   go_roundg (m - (i+1))
   case measure=>exact Nat.lt_of_lt_of_le (Nat.sub_succ_lt_self _ _ hin) hg
   case rel=>exact⟨i+1,hin,Nat.le_refl _,by simpa using hwi,Lib.hid (HS.out.step (by (repeat first|exact Fr.refl _ _|assumption|apply Fr.n|apply Fr.d|apply Fr.a|refine Fr.s ?_ (.inr (by simp;try omega)) _)))⟩
  ·obtain rfl:m=i:=by omega
   have h5:=HH.out
   rw [List.take_of_length_le (by rw [HM.out];exact Nat.le_refl _)] at h5
   have H5:=Lib.hid h5
   have hb:=(h5.bring 3).blk
   have w0:_=some _:=hEC hb 0
   have w1':_=some _:=hEC hb 1
   have w2':_=some _:=hEC hb 2
   have w3':_=some _:=hEC hb 3
   have w4':_=some _:=hEC hb 4
   have w5':_=some _:=hEC hb 5
   have w6':_=some _:=hEC hb 6
   have y0:=hEF hb 0
   have y1:=hEF hb 1
   have y2:=hEF hb 2
   have y3:=hEF hb 3
   have y4:=hEF hb 4
   have y5:=hEF hb 5
   have y6:=hEF hb 6
   have yl:=lBk hb
   clear h5 HH hb x0 x1 x2 x3 xl
   go_wp2
   (try simp only [Exit.inBlock,Exit.then])
   have h6:=(((((((H5.out.bring 3).blkSet 0 (.bool true)).blkSet 1 (.int .i64 bx)).blkSet 2 (.int .i64 by')).blkSet 3 (.int .i64 (bw:Int))).blkSet 4 (.int .i64 (bh:Int))).blkSet 5 (.slice (some ⟨cb,0,none⟩) n n)).blkSet 6 (.slice a m c)
   refine bodyPost_ret (field_result rfl (b:=rb) (x0:=.bool true) (x1:=.int .i64 bx) (x2:=.int .i64 by') (x3:=.int .i64 (bw:Int)) (x4:=.int .i64 (bh:Int)) (x5:=.slice (some ⟨cb,0,none⟩) n n) (x6:=.slice a m c) rfl ?_) rfl ⟨⟨bx,by',bw,bh⟩,cb,?_,HBO.out,?_⟩
   ·exact (h6.step (by (repeat first|exact Fr.refl _ _|assumption|apply Fr.n|apply Fr.d|apply Fr.a|refine Fr.s ?_ (.inr (by simp;try omega)) _))).blk
   ·unfold fieldV;simp only [HNN.out,HM.out]
   ·simp only [HNN.out]
    exact (h6.ord 4 [1]).step (by (repeat first|exact Fr.refl _ _|assumption|apply Fr.n|apply Fr.d|apply Fr.a|refine Fr.s ?_ (.inr (by simp;try omega)) _))
end Go.Proofs.Ytppmnmheodimoaa
end
section
namespace Go.Proofs.Ytppmnmheodimoaa
open Go Go.RowKit Rg Mp Hp Qs Ev Pt
set_option maxHeartbeats 8000000 in
set_option maxRecDepth 100000 in
theorem RAt_calls {w:World} {b:Bx} {F:Fld} (hh:Hold b F) (hlow:-100≤b.x∧b.x+b.w≤100∧-100≤b.y∧b.y+b.h≤100) {cb:Nat} (hc:IntsAt w (.slice (some ⟨cb,0,none⟩) (b.w*b.h) (b.w*b.h)) (arrA F b)) {la:Option Addr} {m c:Nat} {x y:Int} (hx:-1000≤x∧x≤1000) (hy:-1000≤y∧y≤1000) :
  Calls Try.prog 108 #[fieldV b (some ⟨cb,0,none⟩) (b.w*b.h) la m c,.int .i64 x,.int .i64 y] w fun e w'=>e=.returned (.int .i64 (F x y))∧Fr [] w w':=by
 obtain⟨bx,by',bw,bh⟩:=b
 simp only at hlow
 unfold fieldV
 obtain⟨n,hn⟩:∃ n,bw*bh=n:=⟨_,rfl⟩
 simp only at hc ⊢
 rw [hn] at hc ⊢
 have H0:=Lib.hid ((Has.nil (Fr.refl [] w)).newBlk (.cells #[.bool true,.int .i64 bx,.int .i64 by',.int .i64 (bw:Int),.int .i64 (bh:Int),.slice (some ⟨cb,0,none⟩) n n,.slice la m c] 160 (0,0)))
 have hb:=H0.out.blk
 have v0:_=some _:=hEC hb 0
 have v1:_=some _:=hEC hb 1
 have v2:_=some _:=hEC hb 2
 have v3:_=some _:=hEC hb 3
 have v4:_=some _:=hEC hb 4
 have v5:_=some _:=hEC hb 5
 have vl:=lBk hb
 clear hb
 have HH:=Lib.hid hh
 have HC:=Lib.hid hc
 have HN:=Lib.hid hn
 clear hh hc hn
 by_cases h1:x<bx
 ·have HF:=Lib.hid (HH.out x y (by simp only;omega))
  go_enter Try.func108,Try.ntmps108
  go_wp2
  go_ret
  exact⟨by rw [HF.out];rfl,(H0.out.step (by (repeat first|exact Fr.refl _ _|assumption|apply Fr.n|apply Fr.d|apply Fr.a|refine Fr.s ?_ (.inr (by simp;try omega)) _))).fr⟩
 by_cases h2:bx+(bw:Int)≤x
 ·have HF:=Lib.hid (HH.out x y (by simp only;omega))
  go_enter Try.func108,Try.ntmps108
  go_wp2
  go_ret
  exact⟨by rw [HF.out];rfl,(H0.out.step (by (repeat first|exact Fr.refl _ _|assumption|apply Fr.n|apply Fr.d|apply Fr.a|refine Fr.s ?_ (.inr (by simp;try omega)) _))).fr⟩
 by_cases h3:y<by'
 ·have HF:=Lib.hid (HH.out x y (by simp only;omega))
  go_enter Try.func108,Try.ntmps108
  go_wp2
  go_ret
  exact⟨by rw [HF.out];rfl,(H0.out.step (by (repeat first|exact Fr.refl _ _|assumption|apply Fr.n|apply Fr.d|apply Fr.a|refine Fr.s ?_ (.inr (by simp;try omega)) _))).fr⟩
 by_cases h4:by'+(bh:Int)≤y
 ·have HF:=Lib.hid (HH.out x y (by simp only;omega))
  go_enter Try.func108,Try.ntmps108
  go_wp2
  go_ret
  exact⟨by rw [HF.out];rfl,(H0.out.step (by (repeat first|exact Fr.refl _ _|assumption|apply Fr.n|apply Fr.d|apply Fr.a|refine Fr.s ?_ (.inr (by simp;try omega)) _))).fr⟩
 obtain⟨u,rfl⟩:∃ u:Nat,x=bx+u:=⟨(x - bx).toNat,by omega⟩
 obtain⟨v,rfl⟩:∃ v:Nat,y=by'+v:=⟨(y - by').toNat,by omega⟩
 have hu:u<bw:=by omega
 have hv:v<bh:=by omega
 have hg:=arr_get (F:=F) (b:=⟨bx,by',bw,bh⟩) hu hv
 obtain⟨hk1,_,_⟩:=arr_ix (b:=⟨bx,by',bw,bh⟩) hu hv
 simp only at hg hk1
 rw [HN.out] at hk1
 have hw200:bw≤200:=by omega
 have hvw:v*bw≤200*200:=Nat.mul_le_mul (by omega) hw200
 obtain⟨t,ht⟩:∃ t,v*bw=t:=⟨_,rfl⟩
 rw [ht] at hg hk1 hvw
 obtain⟨k,hk⟩:∃ k,t+u=k:=⟨_,rfl⟩
 rw [hk] at hg hk1
 have q1:by'+(v:Int) - by'=(v:Int):=by omega
 have q2:(v:Int)*(bw:Int)=(t:Int):=by rw [← ht];simp
 have q3:(t:Int)+(bx+(u:Int)) - bx=(k:Int):=by omega
 obtain⟨g,off,he,hgl,hcell⟩:=IntsAt.cell (HC.out.fr (show Fr [] w _ from H0.out.fr)) hg
 cases he
 rw [Nat.zero_add] at hcell
 obtain⟨z,hz⟩:∃ z,F (bx+u) (by'+v)=z:=⟨_,rfl⟩
 rw [hz] at hcell ⊢
 have HB:=Lib.hid hlow
 clear hg ht hk hz HN HC HH
 go_enter Try.func108,Try.ntmps108
 go_wp2
 go_ret
 exact⟨rfl,(H0.out.step (by (repeat first|exact Fr.refl _ _|assumption|apply Fr.n|apply Fr.d|apply Fr.a|refine Fr.s ?_ (.inr (by simp;try omega)) _))).fr⟩
theorem hood_two {r:Rule} (h:rightR r=true) {q:Int×Int} (hq:q∈r.hood):-2≤q.1∧q.1≤2∧-2≤q.2∧q.2≤2:=by
 have:=hood_in (right_hood h) hq
 have:=radius_le r.hood
 omega
def hoodV (F:Fld) (x y:Int) (l:List (Int×Int)):List Int:=l.map fun q=>F (x+q.1) (y+q.2)
set_option maxHeartbeats 8000000 in
set_option maxRecDepth 100000 in
theorem RNext20_calls {W w:World} {Ps:List Res} (h:Has W w Ps) {r:Rule} {ha na:Option Addr} {hc nc:Nat} (hR:rightR r=true) (hsrc:RuleSrc W (.slice ha r.hood.length hc) (.slice na r.nodes.length nc) r Ps)
  {b:Bx} {F:Fld} (hh:Hold b F) (hlow:-100≤b.x∧b.x+b.w≤100∧-100≤b.y∧b.y+b.h≤100) {cb:Nat} (hm:Hp.row 3 1 (.slice (some ⟨cb,0,none⟩) (b.w*b.h) (b.w*b.h)) (b.w*b.h) (iv (arrA F b))∈Ps) (hF:∀ x y,0≤F x y∧F x y<r.S) {la:Option Addr} {lm lc:Nat} {x y:Int} (hx:-200≤x∧x≤200) (hy:-200≤y∧y≤200) :
  Calls Try.prog 96 #[.agg #[.int .i64 r.S,.slice ha r.hood.length hc,.slice na r.nodes.length nc],fieldV b (some ⟨cb,0,none⟩) (b.w*b.h) la lm lc,.int .i64 x,.int .i64 y] w fun e w'=>e=.returned (.int .i64 (gen r F x y))∧Has W w' Ps:=by
 have hhl:=right_hlen hR
 have HR:=Lib.hid hR
 have HSRC:=Lib.hid hsrc
 have HF:=Lib.hid hF
 have hcells:∀ w',Has W w' Ps→IntsAt w' (.slice (some ⟨cb,0,none⟩) (b.w*b.h) (b.w*b.h)) (arrA F b):=fun w' hw=>by
  obtain⟨Q,h1⟩:=has_mem3 hw hm
  have:=h1.rowReads
  unfold IntsAt
  rw [arr_len]
  exact this
 have HAT:=Lib.hid (fun (w':World) (x y:Int) (hw:Has W w' Ps) (hx:-1000≤x∧x≤1000) (hy:-1000≤y∧y≤1000)=>RAt_calls (w:=w') hh hlow (hcells w' hw) (la:=la) (m:=lm) (c:=lc) hx hy)
 obtain⟨bx,by',bw,bh⟩:=b
 unfold fieldV at HAT ⊢
 obtain⟨n,hn⟩:∃ n,bw*bh=n:=⟨_,rfl⟩
 simp only at HAT ⊢
 rw [hn] at HAT ⊢
 have h1:=(h.newBlk (.cells #[.int .i64 r.S,.slice ha r.hood.length hc,.slice na r.nodes.length nc] 31 (0,0))).newBlk (.cells #[.bool true,.int .i64 bx,.int .i64 by',.int .i64 (bw:Int),.int .i64 (bh:Int),.slice (some ⟨cb,0,none⟩) n n,.slice la lm lc] 160 (0,0))
 simp only [hAz] at h1
 have H1:=Lib.hid (h1.nilRow 3 1)
 obtain⟨m,hml⟩:∃ m,r.hood.length=m:=⟨_,rfl⟩
 rw [hml] at hhl H1 HSRC ⊢
 have HML:=Lib.hid hml
 clear h hR hsrc hh hlow hm hF hcells hn h1 hml
 go_enter Try.func96,Try.ntmps96
 go_wp2
 go_loopg [9,10] m (fun gg z9 z10 wr=>∃ (i:Nat) (va:Option Addr) (vc:Nat),i≤m∧m - i≤gg∧z10=.int .i64 (i:Int)∧z9=.slice va i vc∧Hid (Has W wr (Hp.row 3 1 (.slice va i vc) i (iv (hoodV F x y (r.hood.take i)))::Hp.blk (w.heap.size+1) (.cells #[.bool true,.int .i64 bx,.int .i64 by',.int .i64 (bw:Int),.int .i64 (bh:Int),.slice (some ⟨cb,0,none⟩) n n,.slice la lm lc] 160 (0,0))::Hp.blk w.heap.size (.cells #[.int .i64 r.S,.slice ha m hc,.slice na r.nodes.length nc] 31 (0,0))::Ps)))
 case atStart=>exact⟨0,none,0,Nat.zero_le _,by omega,rfl,rfl,Lib.hid (by rw [List.take_zero];exact H1.out.step (by (repeat first|exact Fr.refl _ _|assumption|apply Fr.n|apply Fr.d|apply Fr.a|refine Fr.s ?_ (.inr (by simp;try omega)) _)))⟩
 case round =>
  obtain⟨i,va,vc,hi,hg,rfl,rfl,HH⟩:=hrel
  clear H1
  have hb:=(HH.out.bring 1).blk
  have v0:_=some _:=hEC hb 0
  have v1:_=some _:=hEC hb 1
  have v2:_=some _:=hEC hb 2
  have v3:_=some _:=hEC hb 3
  have v4:_=some _:=hEC hb 4
  have v5:_=some _:=hEC hb 5
  have v6:_=some _:=hEC hb 6
  have vl:=lBk hb
  have hb:=(HH.out.bring 2).blk
  have x0:_=some _:=hEC hb 0
  have x1:_=some _:=hEC hb 1
  have x2:_=some _:=hEC hb 2
  have xl:=lBk hb
  clear hb
  by_cases hin:i<m
  ·obtain⟨⟨qx,qy⟩,hq⟩:∃ q,r.hood[i]?=some q:=⟨_,List.getElem?_eq_getElem (by rw [HML.out];exact hin)⟩
   have hq2:=hood_two HR.out (List.mem_of_getElem? hq)
   simp only at hq2
   have hru:=(HSRC.out _ _ HH.out (fun P hP=>by simp [hP])).1
   obtain⟨g,off,rfl,hgl,e0,e1⟩:=PtsAt.cell hru hq
   simp only at e0 e1
   have hnx:iv (hoodV F x y (r.hood.take (i+1)))=iv (hoodV F x y (r.hood.take i))++[.int .i64 (F (x+qx) (y+qy))]:=by
    rw [List.take_add_one,hq]
    simp [hoodV,iv]
   have HNX:=Lib.hid hnx
   have hmaxl:(30:Nat)≤maxLen:=by decide
   have HLL:=Lib.hid (show i+1≤maxLen∧(i+1)*8≤140737488355328 from by omega)
   have HAQ:=Lib.hid (fun w' (hf:Fr [] wr w')=>HAT.out w' (x+qx) (y+qy) ((HH.out.step hf).drop.drop.drop) (by omega) (by omega))
   clear hq hru hnx hmaxl
   go_wp2
   (refine wRT (by kernel_rfl) (by kernel_rfl) ?_)
   go_wp2_with fail
   refine (HAQ.out _ (by (repeat first|exact Fr.refl _ _|assumption|apply Fr.n|apply Fr.d|apply Fr.a|refine Fr.s ?_ (.inr (by simp;try omega)) _))).mono ?_
   rintro e w3 ⟨rfl,hf3⟩
   have H3:=Lib.hid (HH.out.step (Fr.trans0 (by (repeat first|exact Fr.refl _ _|assumption|apply Fr.n|apply Fr.d|apply Fr.a|refine Fr.s ?_ (.inr (by simp;try omega)) _)) hf3))
   clear hf3 HAQ HH v0 v1 v2 v3 v4 v5 v6 vl x0 x1 x2 xl e0 e1 hgl
   go_wp2_with (at_builtin;refine append_has (W:=W) (size:=1) (bytes:=8) (z:=.int .i64 0) (e:=3) (n:=i) (xs:=iv (hoodV F x y (r.hood.take i))) (news:=[.int .i64 (F (x+qx) (y+qy))]) rfl rfl Try.underlying71 (by kernel_rfl) rfl (by decide) rfl rfl (H3.out.step (by (repeat first|exact Fr.refl _ _|assumption|apply Fr.n|apply Fr.d|apply Fr.a|refine Fr.s ?_ (.inr (by simp;try omega)) _))) (by (repeat first|rw [if_pos (by omega)]|rw [if_neg (by omega)]|rw [hDR]|rw [hDN]|rw [hAz]|rw [hSz]|rw [hAC]|rw [hSC]|rw [oMS]|rw [uPC]|rw [lSZ]|rw [lSS]|rfl)) rfl (by simp [Value.oneCell']) HLL.out.1 HLL.out.2 ?_)
   intro g2 cap2 w5 h5 hf5 hg5
   rw [← HNX.out] at h5
   have H5:=Lib.hid h5
   clear h5 hf5 hg5 H3
   go_wp2
   refine Strict.intro rfl ?_
   go_wp2
   go_roundg (m - (i+1))
   case measure=>exact Nat.lt_of_lt_of_le (Nat.sub_succ_lt_self _ _ hin) hg
   case rel=>exact⟨i+1,some ⟨g2,0,none⟩,cap2,hin,Nat.le_refl _,by simp,rfl,Lib.hid (H5.out.step (by (repeat first|exact Fr.refl _ _|assumption|apply Fr.n|apply Fr.d|apply Fr.a|refine Fr.s ?_ (.inr (by simp;try omega)) _)))⟩
  ·obtain rfl:m=i:=by omega
   have h5:=HH.out
   rw [List.take_of_length_le (by rw [HML.out];exact Nat.le_refl _)] at h5
   have hru:=(HSRC.out _ _ h5 (fun P hP=>by simp [hP])).2
   have hvl:(hoodV F x y r.hood).length=m:=by rw [hoodV,List.length_map,HML.out]
   have hia:IntsAt wr (.slice va (hoodV F x y r.hood).length vc) (hoodV F x y r.hood):=by
    have:=h5.rowReads
    unfold IntsAt
    rw [hvl]
    exact this
   have hVC:=fun w' (hf:Fr [] wr w')=>RValue_calls (ha:=ha) (hc:=hc) HR.out (hru.fr hf) (hia.fr hf) (by rw [hvl,HML.out]) (fun s hs=>by
    obtain⟨q,_,rfl⟩:=List.mem_map.1 hs
    exact HF.out _ _)
   rw [hvl,HML.out] at hVC
   have HVC:=Lib.hid hVC
   have H5:=Lib.hid h5
   clear h5 hru hvl hia hVC HH
   go_wp2_with fail
   refine (HVC.out _ (by (repeat first|exact Fr.refl _ _|assumption|apply Fr.n|apply Fr.d|apply Fr.a|refine Fr.s ?_ (.inr (by simp;try omega)) _))).mono ?_
   rintro e w6 ⟨rfl,hf6⟩
   have H6:=Lib.hid ((H5.out.step (Fr.trans0 (by (repeat first|exact Fr.refl _ _|assumption|apply Fr.n|apply Fr.d|apply Fr.a|refine Fr.s ?_ (.inr (by simp;try omega)) _)) hf6)).drop.drop.drop)
   clear hf6 HVC H5
   go_wp2
   go_ret
   exact⟨rfl,H6.out.step (by (repeat first|exact Fr.refl _ _|assumption|apply Fr.n|apply Fr.d|apply Fr.a|refine Fr.s ?_ (.inr (by simp;try omega)) _))⟩
end Go.Proofs.Ytppmnmheodimoaa
end
