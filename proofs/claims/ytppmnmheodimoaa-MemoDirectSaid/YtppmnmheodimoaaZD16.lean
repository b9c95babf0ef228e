/- Own texts of this claim, part 17: no condition. -/
import Derived.Lib.MinMax
import Derived.Deep.RegionHeld3
import Derived.Deep.DeepCutAuto
import Derived.IntWalk
import Derived.Shelf.SlSortCmp.InsertionK
import Derived.Test.YtppmnmheodimoaaZD4
import Derived.Test.YtppmnmheodimoaaZD7
import Derived.Test.YtppmnmheodimoaaZD3
import Derived.Test.YtppmnmheodimoaaZD8
import Derived.Test.YtppmnmheodimoaaZD12
import Derived.Test.YtppmnmheodimoaaZD2
import Derived.Test.YtppmnmheodimoaaZD9
set_option linter.unusedVariables false
set_option linter.unusedSimpArgs false
section
namespace Go.Proofs.Pt
structure PC where
 x:Int
 y:Int
 st:Int
 deriving DecidableEq
def placeB (x y:Int):Bool:=decide (-1048576≤x∧x≤1048576∧-1048576≤y∧y≤1048576)
def pBef (a b:PC):Bool:=decide (a.y<b.y∨a.y=b.y∧a.x<b.x)
theorem pBef_asymm {a b:PC} (h:pBef a b=true) (h':pBef b a=true):False:=by simp only [pBef,decide_eq_true_eq] at h h';omega
theorem pBef_trans {a b c:PC} (h:pBef a b=true) (h':pBef b c=true):pBef a c=true:=by simp only [pBef,decide_eq_true_eq] at *;omega
theorem pBef_weak {a b c:PC} (h:pBef b a=false) (h':pBef c b=false):pBef c a=false:=by simp only [pBef,decide_eq_false_iff_not] at *;omega
def samePos (a b:PC):Bool:=decide (a.x=b.x∧a.y=b.y)
theorem samePos_iff {a b:PC} (h:pBef b a=false):samePos a b=!pBef a b:=by
 rw [Bool.eq_iff_iff]
 simp only [samePos,pBef,decide_eq_true_eq,decide_eq_false_iff_not,Bool.not_eq_true'] at *
 omega
def strictB:List PC→Bool
 | []=>true
 | [_]=>true
 | a::b::l=>pBef a b && strictB (b::l)
theorem strict_pair:∀ {l:List PC},strictB l=true→l.Pairwise fun a b=>pBef a b=true
 | [],_=>List.Pairwise.nil
 | [a],_=>by simp
 | a::b::l,h=>by
  simp only [strictB,Bool.and_eq_true] at h
  have ih:=strict_pair h.2
  refine List.Pairwise.cons ?_ ih
  intro c hc
  rw [List.mem_cons] at hc
  rcases hc with rfl|hc
  ·exact h.1
  ·exact pBef_trans h.1 ((List.pairwise_cons.1 ih).1 c hc)
theorem strict_of_pair:∀ {l:List PC},(l.Pairwise fun a b=>pBef a b=true)→strictB l=true
 | [],_=>rfl
 | [a],_=>rfl
 | a::b::l,h=>by
  obtain⟨h1,h2⟩:=List.pairwise_cons.1 h
  simp only [strictB,Bool.and_eq_true]
  exact⟨h1 b (by simp),strict_of_pair h2⟩
theorem strict_perm_eq:∀ {l m:List PC},(l.Pairwise fun a b=>pBef a b=true)→(m.Pairwise fun a b=>pBef a b=true)→l.Perm m→l=m
 | [],m,_,_,h=>(List.perm_nil.1 h.symm).symm
 | a::l,[],_,_,h=>by have:=h.length_eq;simp at this
 | a::l,b::m,hl,hm,h=>by
  obtain⟨l1,l2⟩:=List.pairwise_cons.1 hl
  obtain⟨m1,m2⟩:=List.pairwise_cons.1 hm
  have ha:a∈b::m:=h.subset (by simp)
  have hb:b∈a::l:=h.symm.subset (by simp)
  rw [List.mem_cons] at ha hb
  rcases ha with rfl|ha
  ·rw [strict_perm_eq l2 m2 (List.Perm.cons_inv h)]
  ·rcases hb with rfl|hb
   ·rw [strict_perm_eq l2 m2 (List.Perm.cons_inv h)]
   ·exact (pBef_asymm (m1 a ha) (l1 b hb)).elim
def Weak (l:List PC):Prop:=l.Pairwise fun a b=>pBef b a=false
theorem weak_strict:∀ {l:List PC},Weak l→(strictB l=true↔l.Pairwise fun a b=>samePos a b=false)
 | [],_=>by simp [strictB]
 | a::l,h=>by
  obtain⟨h1,h2⟩:=List.pairwise_cons.1 h
  constructor
  ·intro hs
   refine (strict_pair hs).imp_of_mem ?_
   intro x y hx hy hxy
   cases hq:samePos x y with
   | false=>rfl
   | true=>simp only [samePos,pBef,decide_eq_true_eq] at hxy hq;omega
  ·intro hd
   apply strict_of_pair
   refine (List.Pairwise.and h hd).imp ?_
   intro x y ⟨hxy,hq⟩
   rw [samePos_iff hxy] at hq
   simpa using hq
theorem pair_perm {R:PC→PC→Prop} (hR:∀ a b,R a b→R b a) {l m:List PC} (h:l.Perm m):l.Pairwise R→m.Pairwise R:=(h.pairwise_iff (fun hab=>hR _ _ hab)).1
theorem weak_same {l m:List PC} (hl:Weak l) (hm:Weak m) (h:l.Perm m):strictB l=strictB m∧(strictB l=true→l=m):=by
 have hs:∀ a b,samePos a b=false→samePos b a=false:=fun a b=>by simp only [samePos,decide_eq_false_iff_not];omega
 constructor
 ·rw [Bool.eq_iff_iff,weak_strict hl,weak_strict hm]
  exact⟨pair_perm hs h,pair_perm hs h.symm⟩
 ·intro hst
  refine strict_perm_eq (strict_pair hst) (strict_pair ?_) h
  rw [weak_strict hm]
  exact pair_perm hs h ((weak_strict hl).1 hst)
def insP (c:PC):List PC→List PC
 | []=>[c]
 | d::l=>if pBef c d then c::d::l else d::insP c l
def sortP (l:List PC):List PC:=l.foldl (fun q c=>insP c q) []
theorem insP_perm (c:PC):∀ l:List PC,(insP c l).Perm (c::l)
 | []=>List.Perm.refl _
 | d::l=>by
  unfold insP
  split
  ·exact List.Perm.refl _
  ·exact ((insP_perm c l).cons d).trans (List.Perm.swap c d l)
theorem insP_weak (c:PC):∀ {l:List PC},Weak l→Weak (insP c l)
 | [],_=>by simp [insP,Weak]
 | d::l,h=>by
  obtain⟨h1,h2⟩:=List.pairwise_cons.1 h
  unfold insP
  split
  ·rename_i hc
   have hdc:pBef d c=false:=by
    cases hq:pBef d c with
    | false=>rfl
    | true=>exact (pBef_asymm hc hq).elim
   refine List.Pairwise.cons ?_ h
   intro x hx
   rw [List.mem_cons] at hx
   rcases hx with rfl|hx
   ·exact hdc
   ·exact pBef_weak hdc (h1 x hx)
  ·rename_i hc
   refine List.Pairwise.cons ?_ (insP_weak c h2)
   intro x hx
   have:=(insP_perm c l).subset hx
   rw [List.mem_cons] at this
   rcases this with rfl|hx
   ·simpa using hc
   ·exact h1 x hx
theorem sortP_snoc (l:List PC) (c:PC):sortP (l++[c])=insP c (sortP l):=by simp [sortP]
theorem sortP_fold:∀ (l q:List PC),Weak q→Weak (l.foldl (fun q c=>insP c q) q)∧(l.foldl (fun q c=>insP c q) q).Perm (q++l)
 | [],q,h=>⟨h,by simp⟩
 | c::l,q,h=>by
  obtain⟨h1,h2⟩:=sortP_fold l (insP c q) (insP_weak c h)
  refine⟨h1,h2.trans ?_⟩
  refine ((insP_perm c q).append_right l).trans ?_
  exact (List.perm_middle (l₁:=q)).symm
theorem sortP_weak (l:List PC):Weak (sortP l):=(sortP_fold l [] List.Pairwise.nil).1
theorem sortP_perm (l:List PC):(sortP l).Perm l:=(sortP_fold l [] List.Pairwise.nil).2
def badP:List PC→Int
 | []=>0
 | c::l=>if placeB c.x c.y=false then 5 else if c.st<0∨8≤c.st then 10 else badP l
theorem badP_snoc:∀ (l:List PC) (c:PC),badP (l++[c])=if badP l≠0 then badP l else badP [c]
 | [],c=>by simp [badP]
 | d::l,c=>by
  have:=badP_snoc l c
  simp only [List.cons_append,badP]
  split
  ·simp
  ·split
   ·simp
   ·exact this
theorem badP_app {l m:List PC} (h:badP l≠0):badP (l++m)=badP l:=by
 induction l with
 | nil=>exact absurd rfl h
 | cons d l ih =>
  simp only [List.cons_append,badP] at h ⊢
  split
  ·rfl
  ·split
   ·rfl
   ·rename_i h1 h2
    rw [if_neg h1,if_neg h2] at h
    exact ih h
def someP (l:List PC):List PC:=l.filter fun c=>decide (c.st≠0)
def fromP (l:List PC):List PC×Int :=
 if badP l≠0 then ([],badP l) else if strictB (sortP (someP l))=false then ([],8) else if 5000<(sortP (someP l)).length then ([],6) else (sortP (someP l),0)
theorem fromP_of {l q:List PC} (hb:badP l=0) (hw:Weak q) (hp:q.Perm (someP l)):fromP l=if strictB q=false then ([],8) else if 5000<q.length then ([],6) else (q,0):=by
 obtain⟨h1,h2⟩:=weak_same hw (sortP_weak (someP l)) (hp.trans (sortP_perm _).symm)
 unfold fromP
 rw [if_neg (by simp [hb]),← h1]
 cases hs:strictB q with
 | false=>rfl
 | true =>
  have:=h2 hs
  simp only [reduceCtorEq,if_false]
  rw [← this]
def cellB (c:PC):Bool:=placeB c.x c.y && decide (1≤c.st∧c.st<8)
def rightP (l:List PC):Bool:=decide (l.length≤5000) && (l.all cellB && strictB l)
theorem from_right {p l:List PC} (h:rightP p=true) (hl:l.Perm p):fromP l=(p,0):=by
 unfold rightP at h
 simp only [Bool.and_eq_true,decide_eq_true_eq,List.all_eq_true] at h
 obtain⟨h1,h2,h3⟩:=h
 have hc:∀ c∈l,cellB c=true:=fun c hc=>h2 c (hl.subset hc)
 have hb:badP l=0:=by
  clear h1 h2 h3 hl
  induction l with
  | nil=>rfl
  | cons c l ih =>
   have:=hc c (by simp)
   simp only [cellB,Bool.and_eq_true,decide_eq_true_eq] at this
   unfold badP
   rw [if_neg (by simp [this.1]),if_neg (by omega)]
   exact ih fun d hd=>hc d (by simp [hd])
 have hs:someP l=l:=by
  unfold someP
  rw [List.filter_eq_self]
  intro c hcl
  have:=hc c hcl
  simp only [cellB,Bool.and_eq_true,decide_eq_true_eq] at this
  simp;omega
 have hw:Weak p:=(strict_pair h3).imp fun hab=>by
  cases hq:pBef _ _ with
  | false=>rfl
  | true=>exact (pBef_asymm hab hq).elim
 rw [fromP_of hb hw (by rw [hs];exact hl.symm),h3]
 simp only [Bool.true_eq_false,if_false]
 rw [if_neg (by omega)]
def topP (l:List PC):Int:=l.foldl (fun m c=>max m c.st) 0
theorem topP_snoc (l:List PC) (c:PC):topP (l++[c])=max (topP l) c.st:=by simp [topP]
theorem topP_lt {l:List PC} {s:Int} (hs:0<s):topP l<s↔∀ c∈l,c.st<s:=by
 have:∀ (l:List PC) (m:Int),l.foldl (fun m c=>max m c.st) m<s↔m<s∧∀ c∈l,c.st<s:=by
  intro l
  induction l with
  | nil=>intro m;simp
  | cons c l ih =>
   intro m
   simp only [List.foldl_cons,ih,List.mem_cons,forall_eq_or_imp]
   rw [← and_assoc,show max m c.st<s↔m<s∧c.st<s by omega]
 unfold topP
 rw [this]
 exact⟨fun h=>h.2,fun h=>⟨hs,h⟩⟩
end Go.Proofs.Pt
end
section
namespace Go.Proofs.Pt
open Qs Ev
def fldP (p:List PC):Fld:=fun x y=>match p.find? (fun c=>decide (c.x=x∧c.y=y)) with
 | some c=>c.st
 | none=>0
theorem right_parts {p:List PC} (h:rightP p=true):p.length≤5000∧(∀ c∈p,cellB c=true)∧strictB p=true:=by
 unfold rightP at h
 simp only [Bool.and_eq_true,decide_eq_true_eq,List.all_eq_true] at h
 exact⟨h.1,h.2.1,h.2.2⟩
theorem right_make {p:List PC} (h1:p.length≤5000) (h2:∀ c∈p,cellB c=true) (h3:strictB p=true):rightP p=true:=by
 unfold rightP
 simp only [Bool.and_eq_true,decide_eq_true_eq,List.all_eq_true]
 exact⟨h1,h2,h3⟩
theorem pos_unique {p:List PC} (h:strictB p=true) {c d:PC} (hc:c∈p) (hd:d∈p) (hx:c.x=d.x) (hy:c.y=d.y):c=d:=by
 have hp:=strict_pair h
 obtain⟨i,hi,rfl⟩:=List.getElem_of_mem hc
 obtain⟨j,hj,rfl⟩:=List.getElem_of_mem hd
 have key:∀ (a b:Nat) (ha:a<p.length) (hb:b<p.length),a<b→p[a].x=p[b].x→p[a].y=p[b].y→False:=fun a b ha hb hab h1 h2=>by
  have:=List.pairwise_iff_getElem.1 hp a b ha hb hab
  simp only [pBef,decide_eq_true_eq] at this
  omega
 rcases Nat.lt_trichotomy i j with h1|h1|h1
 ·exact (key i j hi hj h1 hx hy).elim
 ·subst h1;rfl
 ·exact (key j i hj hi h1 hx.symm hy.symm).elim
theorem fld_some {p:List PC} {x y:Int} (h:fldP p x y≠0):∃ c∈p,c.x=x∧c.y=y∧fldP p x y=c.st:=by
 unfold fldP at h ⊢
 cases hf:p.find? (fun c=>decide (c.x=x∧c.y=y)) with
 | none=>rw [hf] at h;exact absurd rfl h
 | some c =>
  have h1:=List.find?_some hf
  simp only [decide_eq_true_eq] at h1
  exact⟨c,List.mem_of_find?_eq_some hf,h1.1,h1.2,rfl⟩
theorem fld_mem {p:List PC} (h:strictB p=true) {c:PC} (hc:c∈p):fldP p c.x c.y=c.st:=by
 unfold fldP
 cases hf:p.find? (fun d=>decide (d.x=c.x∧d.y=c.y)) with
 | none =>
  have:=List.find?_eq_none.1 hf c hc
  simp at this
 | some d =>
  have h1:=List.find?_some hf
  simp only [decide_eq_true_eq] at h1
  rw [pos_unique h (List.mem_of_find?_eq_some hf) hc h1.1 h1.2]
theorem fld_none {p:List PC} {x y:Int} (h:∀ c∈p,¬(c.x=x∧c.y=y)):fldP p x y=0:=by
 unfold fldP
 rw [List.find?_eq_none.2 fun c hc=>by simpa using h c hc]
theorem fld_snoc {p:List PC} {c:PC} (h:∀ d∈p,¬(d.x=c.x∧d.y=c.y)) (x y:Int):fldP (p++[c]) x y=if c.x=x∧c.y=y then c.st else fldP p x y:=by
 by_cases he:c.x=x∧c.y=y
 ·rw [if_pos he]
  unfold fldP
  rw [List.find?_append,List.find?_eq_none.2 fun d hd=>by have:=h d hd;rw [he.1,he.2] at this;simpa using this]
  simp [he]
 ·rw [if_neg he]
  unfold fldP
  rw [List.find?_append]
  cases p.find? (fun c=>decide (c.x=x∧c.y=y)) with
  | some d=>rfl
  | none=>simp [he]
theorem fld_range {p:List PC} {s:Int} (hs:0<s) (hc:∀ c∈p,0≤c.st∧c.st<s) (x y:Int):0≤fldP p x y∧fldP p x y<s:=by
 by_cases h:fldP p x y=0
 ·rw [h];omega
 ·obtain⟨c,hcm,_,_,he⟩:=fld_some h
  rw [he]
  exact hc c hcm
def Wi (B:Int) (p:List PC):Prop:=∀ c∈p,-B≤c.x∧c.x<B∧-B≤c.y∧c.y<B
def quietB (r:Rule):Bool:=rightR r && down r (List.replicate r.hood.length 0) == 0
theorem quiet_parts {r:Rule} (h:quietB r=true):rightR r=true∧down r (List.replicate r.hood.length 0)=0:=by
 unfold quietB at h
 rw [Bool.and_eq_true,beq_iff_eq] at h
 exact h
theorem gen_quiet {r:Rule} (h:quietB r=true) {F:Fld} {x y:Int} (hF:∀ i j,-2≤i→i≤2→-2≤j→j≤2→F (x+i) (y+j)=0):gen r F x y=0:=by
 obtain⟨h1,h2⟩:=quiet_parts h
 have hr:=radius_le r.hood
 unfold gen
 rw [show (r.hood.map fun p=>F (x+p.1) (y+p.2))=List.replicate r.hood.length 0 from ?_,h2]
 rw [List.eq_replicate_iff]
 refine⟨by simp,fun b hb=>?_⟩
 obtain⟨p,hp,rfl⟩:=List.mem_map.1 hb
 have:=hood_in (right_hood h1) hp
 exact hF _ _ (by omega) (by omega) (by omega) (by omega)
structure Bx where
 x:Int
 y:Int
 w:Nat
 h:Nat
def nearAt (b:Bx) (k:Nat):Int×Int:=(b.x - 2+((k % (b.w+4):Nat):Int),b.y - 2+((k / (b.w+4):Nat):Int))
def nearL (b:Bx):List (Int×Int):=(List.range ((b.h+4)*(b.w+4))).map (nearAt b)
theorem nearL_length (b:Bx):(nearL b).length=(b.h+4)*(b.w+4):=by simp [nearL]
theorem nearL_get {b:Bx} {k:Nat} (hk:k<(b.h+4)*(b.w+4)):(nearL b)[k]?=some (nearAt b k):=by
 unfold nearL
 rw [List.getElem?_map,List.getElem?_range hk];rfl
theorem mem_near {b:Bx} {q:Int×Int}:q∈nearL b↔b.x - 2≤q.1∧q.1<b.x+b.w+2∧b.y - 2≤q.2∧q.2<b.y+b.h+2:=by
 unfold nearL
 rw [List.mem_map]
 constructor
 ·rintro⟨k,hk,rfl⟩
  have hk:=List.mem_range.1 hk
  have h1:k % (b.w+4)<b.w+4:=Nat.mod_lt _ (by omega)
  have h2:k / (b.w+4)<b.h+4:=Nat.div_lt_of_lt_mul (by rw [Nat.mul_comm];exact hk)
  unfold nearAt
  simp only
  generalize k % (b.w+4)=u at *
  generalize k / (b.w+4)=v at *
  omega
 ·rintro⟨h1,h2,h3,h4⟩
  obtain⟨u,hu⟩:∃ u:Nat,q.1=b.x - 2+u:=⟨(q.1 - (b.x - 2)).toNat,by omega⟩
  obtain⟨v,hv⟩:∃ v:Nat,q.2=b.y - 2+v:=⟨(q.2 - (b.y - 2)).toNat,by omega⟩
  have hu4:u<b.w+4:=by omega
  have hv4:v<b.h+4:=by omega
  refine⟨v*(b.w+4)+u,List.mem_range.2 ?_,?_⟩
  ·have:(v+1)*(b.w+4)≤(b.h+4)*(b.w+4):=Nat.mul_le_mul_right _ (by omega)
   rw [Nat.add_mul] at this
   omega
  ·unfold nearAt
   have e1:(v*(b.w+4)+u) % (b.w+4)=u:=by rw [Nat.mul_comm,Nat.mul_add_mod,Nat.mod_eq_of_lt hu4]
   have e2:(v*(b.w+4)+u) / (b.w+4)=v:=by rw [Nat.mul_comm,Nat.mul_add_div (by omega),Nat.div_eq_of_lt hu4,Nat.add_zero]
   rw [e1,e2,← hu,← hv]
theorem near_sorted (b:Bx):(nearL b).Pairwise fun p q=>p.2<q.2∨p.2=q.2∧p.1<q.1:=by
 unfold nearL
 rw [List.pairwise_map]
 refine List.pairwise_lt_range.imp fun {i j} hij=>?_
 unfold nearAt
 simp only
 have hm:0<b.w+4:=by omega
 have h1:=Nat.div_add_mod i (b.w+4)
 have h2:=Nat.div_add_mod j (b.w+4)
 have h3:i / (b.w+4)≤j / (b.w+4):=Nat.div_le_div_right (Nat.le_of_lt hij)
 by_cases he:i / (b.w+4)=j / (b.w+4)
 ·rw [he] at h1
  omega
 ·omega
def cellAt (r:Rule) (F:Fld) (q:Int×Int):Option PC:=if gen r F q.1 q.2=0 then none else some ⟨q.1,q.2,gen r F q.1 q.2⟩
def nextL (r:Rule) (F:Fld) (l:List (Int×Int)):List PC:=l.filterMap (cellAt r F)
theorem nextL_snoc (r:Rule) (F:Fld) (l:List (Int×Int)) (q:Int×Int):nextL r F (l++[q])=nextL r F l++if gen r F q.1 q.2=0 then [] else [⟨q.1,q.2,gen r F q.1 q.2⟩]:=by
 unfold nextL
 rw [List.filterMap_append]
 congr 1
 unfold cellAt
 by_cases h:gen r F q.1 q.2=0<;>simp [h]
theorem mem_nextL {r:Rule} {F:Fld} {l:List (Int×Int)} {c:PC}:c∈nextL r F l↔(c.x,c.y)∈l∧c.st=gen r F c.x c.y∧c.st≠0:=by
 unfold nextL
 rw [List.mem_filterMap]
 constructor
 ·rintro⟨q,hq,h⟩
  unfold cellAt at h
  split at h
  ·cases h
  ·rename_i h0
   obtain rfl:=Option.some.inj h
   exact⟨hq,rfl,h0⟩
 ·rintro⟨h1,h2,h3⟩
  refine⟨(c.x,c.y),h1,?_⟩
  unfold cellAt
  rw [if_neg (by rw [← h2];exact h3)]
  simp only [← h2]
theorem nextL_len (r:Rule) (F:Fld) (l:List (Int×Int)):(nextL r F l).length≤l.length:=List.length_filterMap_le _ _
theorem nextL_strict {r:Rule} {F:Fld} (b:Bx):strictB (nextL r F (nearL b))=true:=by
 refine strict_of_pair ?_
 unfold nextL
 rw [List.pairwise_filterMap]
 refine (near_sorted b).imp fun {p q} h c hc d hd=>?_
 have key:∀ {q:Int×Int} {c:PC},cellAt r F q=some c→c.x=q.1∧c.y=q.2:=fun {q c} h=>by
  unfold cellAt at h
  split at h
  ·cases h
  ·obtain rfl:=Option.some.inj h
   exact⟨rfl,rfl⟩
 obtain⟨c1,c2⟩:=key hc
 obtain⟨d1,d2⟩:=key hd
 simp only [pBef,decide_eq_true_eq]
 rw [c1,c2,d1,d2]
 exact h
def Hold (b:Bx) (F:Fld):Prop:=∀ x y,¬(b.x≤x∧x<b.x+b.w∧b.y≤y∧y<b.y+b.h)→F x y=0
theorem nextL_fld {r:Rule} (h:quietB r=true) {F:Fld} {b:Bx} (hb:Hold b F):fldP (nextL r F (nearL b))=gen r F:=by
 funext x y
 by_cases h0:gen r F x y=0
 ·rw [h0]
  refine fld_none fun c hc he=>?_
  obtain⟨_,h2,h3⟩:=mem_nextL.1 hc
  rw [he.1,he.2,h0] at h2
  exact h3 h2
 ·have hm:(⟨x,y,gen r F x y⟩:PC)∈nextL r F (nearL b):=by
   refine mem_nextL.2 ⟨mem_near.2 ?_,rfl,h0⟩
   refine Classical.byContradiction fun hn=>h0 (gen_quiet h fun i j a1 a2 a3 a4=>hb _ _ fun hh=>hn ?_)
   simp only
   omega
  exact fld_mem (nextL_strict b) hm
structure StepOk (r:Rule) (B:Int) (p q:List PC):Prop where
 right:rightP q=true
 wi:Wi (B+2) q
 st:∀ c∈q,c.st<r.S
 fld:fldP q=gen r (fldP p)
theorem step_ok {r:Rule} (h:quietB r=true) {B:Int} (hB0:0≤B) (hB:B≤30) {p:List PC} (hst:∀ c∈p,0≤c.st∧c.st<r.S) {b:Bx} (hb:Hold b (fldP p)) (hx:-B≤b.x∧b.x+b.w≤B∧-B≤b.y∧b.y+b.h≤B) :
  StepOk r B p (nextL r (fldP p) (nearL b))∧(nextL r (fldP p) (nearL b)).length≤5000:=by
 obtain⟨hr,_⟩:=quiet_parts h
 have hS:=right_S hr
 have hwi:Wi (B+2) (nextL r (fldP p) (nearL b)):=fun c hc=>by
  have:=mem_near.1 (mem_nextL.1 hc).1
  simp only at this
  omega
 have hgs:∀ c∈nextL r (fldP p) (nearL b),0<c.st∧c.st<r.S:=fun c hc=>by
  obtain⟨_,h2,h3⟩:=mem_nextL.1 hc
  have:=gen_ok hr (F:=fldP p) (x:=c.x) (y:=c.y) fun i j _ _ _ _=>fld_range (by omega) hst _ _
  omega
 have hlen:(nextL r (fldP p) (nearL b)).length≤5000:=by
  refine Nat.le_trans (nextL_len _ _ _) ?_
  rw [nearL_length]
  have:(b.h+4)*(b.w+4)≤64*64:=Nat.mul_le_mul (by omega) (by omega)
  omega
 refine⟨⟨right_make hlen (fun c hc=>?_) (nextL_strict b),hwi,fun c hc=>(hgs c hc).2,nextL_fld h hb⟩,hlen⟩
 have h1:=hwi c hc
 have h2:=hgs c hc
 unfold cellB placeB
 simp only [Bool.and_eq_true,decide_eq_true_eq]
 omega
end Go.Proofs.Pt
end
section
namespace Go.Proofs.Ytppmnmheodimoaa
open Go Go.RowKit Rg Mp Hp Qs
def Chain (s:Int) (ns:List K4):Nat→Int→Prop
 | 0,a=>a=0
 | L+1,a=>∃ (c:Int) (i:Nat),Chain s ns L c∧ns.idxOf? (four c)=some i∧a=s+i
theorem idx_append {ns t:List K4} {k:K4} {i:Nat} (h:ns.idxOf? k=some i):(ns++t).idxOf? k=some i:=by
 rw [List.idxOf?_eq_some_iff] at h ⊢
 obtain⟨h1,h2,h3⟩:=h
 refine⟨by simp;omega,by rw [List.getElem_append_left h1];exact h2,fun j hj=>?_⟩
 rw [List.getElem_append_left (by omega)]
 exact h3 j hj
theorem idx_get {ns:List K4} {k:K4} {i:Nat} (h:ns.idxOf? k=some i):ns[i]?=some k:=by
 rw [List.idxOf?_eq_some_iff] at h
 obtain⟨h1,h2,_⟩:=h
 rw [List.getElem?_eq_getElem h1]
 simpa using h2
theorem idx_last {ns:List K4} {k:K4} (h:ns.idxOf? k=none):(ns++[k]).idxOf? k=some ns.length:=by
 have hn:k∉ns:=by simpa using h
 rw [List.idxOf?_eq_some_iff]
 refine⟨by simp,by simp,fun j hj he=>hn ?_⟩
 rw [List.getElem_append_left (by omega)] at he
 have he':ns[j]=k:=by simpa using he
 rw [← he']
 exact List.getElem_mem _
theorem Chain_append {s:Int} {ns:List K4} (t:List K4):∀ {L:Nat} {a:Int},Chain s ns L a→Chain s (ns++t) L a
 | 0,_,h=>h
 | _+1,_,⟨c,i,h1,h2,h3⟩=>⟨c,i,Chain_append t h1,idx_append h2,h3⟩
theorem Chain_level {s:Int} {ns:List K4} (hg:GoodQ s ns):∀ {L:Nat} {a:Int},Chain s ns L a→lvl s (levs s ns) a=L
 | 0,a,h=>by
  have h:a=0:=h
  subst h
  have:=hg.1
  unfold lvl
  rw [if_neg (by omega),if_pos (by omega)]
  rfl
 | L+1,a,⟨c,i,h1,h2,h3⟩=>by
  subst h3
  have h0:=(good_lvl hg (idx_get h2)).1
  have:=Chain_level hg h1
  simp only [four] at h0
  omega
theorem climb_chain {s:Int} {ns:List K4}:∀ (m:Nat) {id:Int} {n:Nat},Chain s ns n id→Chain s ns (climb s ns m id n).2 (climb s ns m id n).1
 | 0,_,_,h=>h
 | m+1,id,n,h=>by
  unfold climb
  split
  ·rename_i i hi
   exact climb_chain m ⟨id,i,h,hi,rfl⟩
  ·exact h
theorem grow_chain {s:Int}:∀ (m:Nat) {id:Int} {n:Nat} {ns:List K4},GoodQ s ns→Chain s ns n id→n+m≤256→ns.length+m≤100000 →
  GoodQ s (grow s m id ns).2∧Chain s (grow s m id ns).2 (n+m) (grow s m id ns).1
 | 0,_,_,_,hg,h,_,_=>⟨hg,h⟩
 | m+1,id,n,ns,hg,h,hn,hl=>by
  have hlv:=Chain_level hg h
  have hfit:Fits s ns (four id):=⟨by show 0≤lvl s (levs s ns) id;omega,by show lvl s (levs s ns) id<256;omega,rfl,rfl,rfl⟩
  have hj:join s ns (four id)=joinIn s ns (four id):=by
   unfold join
   rw [if_neg (by show ¬ (lvl s (levs s ns) id<0∨lvl s (levs s ns) id<0∨lvl s (levs s ns) id<0∨lvl s (levs s ns) id<0);omega),if_neg (fun hh=>hh hfit)]
  unfold grow
  rw [hj,show n+(m+1)=(n+1)+m by omega]
  cases hi:ns.idxOf? (four id) with
  | some i =>
   rw [joinIn_hit hi]
   exact grow_chain m hg ⟨id,i,h,hi,rfl⟩ (by omega) (by show ns.length+m≤100000;omega)
  | none =>
   rw [joinIn_new hi (by omega)]
   exact grow_chain m (hg.snoc hfit (by simpa using hi) (by omega)) ⟨id,ns.length,Chain_append _ h,idx_last hi,rfl⟩ (by omega) (by simp;omega)
theorem empty_high {s:Int} {ns:List K4} {l:Int} (h:256<l):emptyQ s ns l=((0,18),ns):=by
 unfold emptyQ
 rw [if_pos (.inr h)]
theorem join_len (s:Int) (ns:List K4) (k:K4):(join s ns k).2.length≤ns.length+1:=by
 unfold join
 split
 ·simp
 ·split
  ·simp
  ·unfold joinIn
   split
   ·simp
   ·split<;>simp
end Go.Proofs.Ytppmnmheodimoaa
end
section
namespace Go.Proofs.Ytppmnmheodimoaa
open Go Qs Ev
def kr (f:List K4→Nat→(Int×Int)×List K4):Nat→List K4→Int×List Int×List K4
 | 0,ns=>(0,[],ns)
 | k+1,ns=>if (kr f k ns).1≠0 then kr f k ns else if (f (kr f k ns).2.2 k).1.2=0 then (0,(kr f k ns).2.1++[(f (kr f k ns).2.2 k).1.1],(f (kr f k ns).2.2 k).2) else ((f (kr f k ns).2.2 k).1.2,(kr f k ns).2.1,(f (kr f k ns).2.2 k).2)
def k4l (l:List Int):K4:=⟨l.getD 0 0,l.getD 1 0,l.getD 2 0,l.getD 3 0⟩
def fin4 (s:Int) (f:List K4→Nat→(Int×Int)×List K4) (ns:List K4):(Int×Int)×List K4 :=
 if (kr f 4 ns).1≠0 then ((0,(kr f 4 ns).1),(kr f 4 ns).2.2) else join s (kr f 4 ns).2.2 (k4l (kr f 4 ns).2.1)
theorem kr_ok {f:List K4→Nat→(Int×Int)×List K4} {k:Nat} {ns ms ms':List K4} {ids:List Int} {id:Int} (h:kr f k ns=(0,ids,ms)) (h2:f ms k=((id,0),ms')):kr f (k+1) ns=(0,ids++[id],ms'):=by
 rw [kr,h]
 simp only [ne_eq,not_true_eq_false,if_false]
 rw [h2]
 simp
theorem kr_bad {f:List K4→Nat→(Int×Int)×List K4} {k:Nat} {ns ms ms':List K4} {ids:List Int} {id e:Int} (h:kr f k ns=(0,ids,ms)) (h2:f ms k=((id,e),ms')) (he:e≠0):kr f (k+1) ns=(e,ids,ms'):=by
 rw [kr,h]
 simp only [ne_eq,not_true_eq_false,if_false]
 rw [h2]
 simp [he]
theorem kr_stay {f:List K4→Nat→(Int×Int)×List K4} {k:Nat} {ns ms:List K4} {ids:List Int} {e:Int} (h:kr f k ns=(e,ids,ms)) (he:e≠0):∀ m,kr f (k+m) ns=(e,ids,ms)
 | 0=>h
 | m+1=>by
  show kr f (k+m+1) ns=_
  rw [kr,kr_stay h he m,if_pos he]
theorem fin4_ok {s:Int} {f:List K4→Nat→(Int×Int)×List K4} {ns ms:List K4} {ids:List Int} (h:kr f 4 ns=(0,ids,ms)):fin4 s f ns=join s ms (k4l ids):=by
 unfold fin4
 rw [h,if_neg (by simp)]
theorem kr_len {f:List K4→Nat→(Int×Int)×List K4}:∀ {k:Nat} {ns ms:List K4} {ids:List Int},kr f k ns=(0,ids,ms)→ids.length=k
 | 0,ns,ms,ids,h=>by
  simp only [kr,Prod.mk.injEq] at h
  rw [← h.2.1];rfl
 | k+1,ns,ms,ids,h=>by
  obtain⟨e,i2,m2,h2⟩:∃ e i2 m2,kr f k ns=(e,i2,m2):=⟨_,_,_,rfl⟩
  by_cases he:e=0
  ·subst he
   obtain⟨id,e3,m3,h3⟩:∃ id e3 m3,f m2 k=((id,e3),m3):=⟨_,_,_,rfl⟩
   by_cases h4:e3=0
   ·subst h4
    rw [kr_ok h2 h3] at h
    simp only [Prod.mk.injEq] at h
    rw [← h.2.1]
    simp [kr_len h2]
   ·rw [kr_bad h2 h3 h4] at h
    simp only [Prod.mk.injEq] at h
    exact absurd h.1 h4
  ·have:=kr_stay h2 he 1
   rw [this] at h
   simp only [Prod.mk.injEq] at h
   exact absurd h.1 he
structure Spot where
 x:Nat
 y:Nat
 st:Int
def quadOf (h:Nat) (c:Spot):Nat:=(if h≤c.x then 1 else 0)+(if h≤c.y then 2 else 0)
def intoQ (h:Nat) (c:Spot):Spot:=⟨if h≤c.x then c.x - h else c.x,if h≤c.y then c.y - h else c.y,c.st⟩
def partQ (h:Nat) (k:Nat) (l:List Spot):List Spot:=(l.filter fun c=>decide (quadOf h c=k)).map (intoQ h)
theorem partQ_snoc (h k:Nat) (l:List Spot) (c:Spot):partQ h k (l++[c])=partQ h k l++if quadOf h c=k then [intoQ h c] else []:=by
 unfold partQ
 rw [List.filter_append,List.map_append]
 by_cases hc:quadOf h c=k<;>simp [hc]
def buildQ (s:Int):Nat→List K4→List Spot→(Int×Int)×List K4
 | n,ns,[]=>emptyQ s ns n
 | 0,ns,c::_=>((c.st,0),ns)
 | n+1,ns,c::l=>fin4 s (fun ms k=>buildQ s n ms (partQ (2 ^ n) k (c::l))) ns
theorem buildQ_nil (s:Int) (n:Nat) (ns:List K4):buildQ s n ns []=emptyQ s ns n:=by cases n<;>rfl
theorem mod_step (x n:Nat):x % 2 ^ (n+1)=x % 2 ^ n+2 ^ n*(x / 2 ^ n % 2):=by rw [Nat.pow_succ,Nat.mod_mul]
end Go.Proofs.Ytppmnmheodimoaa
end
section
namespace Go.Proofs.Ytppmnmheodimoaa
open Go Qs Ev
def popT:Tr→Nat
 | .leaf v=>if v=0 then 0 else 1
 | .node a b c d=>popT a+popT b+popT c+popT d
def cellsT:Nat→Tr→Nat→Nat→List Spot
 | 0,.leaf v,x,y=>if v=0 then [] else [⟨x,y,v⟩]
 | n+1,.node a b c d,x,y=>cellsT n a x y++(cellsT n b (x+2 ^ n) y++(cellsT n c x (y+2 ^ n)++cellsT n d (x+2 ^ n) (y+2 ^ n)))
 | _,_,_,_=>[]
theorem cellsT_len:∀ {n:Nat} {t:Tr} {x y:Nat},Full n t→(cellsT n t x y).length=popT t
 | 0,.leaf v,x,y,_=>by unfold cellsT popT;split<;>simp
 | 0,.node _ _ _ _,_,_,h=>h.elim
 | n+1,.leaf _,_,_,h=>h.elim
 | n+1,.node a b c d,x,y,⟨ha,hb,hc,hd⟩=>by
  unfold cellsT popT
  rw [List.length_append,List.length_append,List.length_append,cellsT_len ha,cellsT_len hb,cellsT_len hc,cellsT_len hd];omega
theorem cellsT_none {n:Nat} {t:Tr} {x y:Nat} (h:Full n t) (h0:popT t=0):cellsT n t x y=[]:=List.length_eq_zero_iff.1 ((cellsT_len h).trans h0)
abbrev Frm:=Int×Int×Int×Int
def joinF (o x:Option Frm) (dx dy:Int):Option Frm :=
 match x,o with
 | none,o=>o
 | some (l,t,r,b),none=>some (l+dx,t+dy,r+dx,b+dy)
 | some (l,t,r,b),some (l',t',r',b')=>some (min (l+dx) l',min (t+dy) t',max (r+dx) r',max (b+dy) b')
def frT:Nat→Tr→Option Frm
 | 0,.leaf v=>if v=0 then none else some (0,0,0,0)
 | n+1,.node a b c d=>joinF (joinF (joinF (joinF none (frT n a) 0 0) (frT n b) ((2 ^ n:Nat):Int) 0) (frT n c) 0 ((2 ^ n:Nat):Int)) (frT n d) ((2 ^ n:Nat):Int) ((2 ^ n:Nat):Int)
 | _,_=>none
def emptyT:Nat→Tr
 | 0=>.leaf 0
 | n+1=>.node (emptyT n) (emptyT n) (emptyT n) (emptyT n)
theorem pop_empty:∀ n,popT (emptyT n)=0
 | 0=>rfl
 | n+1=>by simp [emptyT,popT,pop_empty n]
theorem empty_full:∀ n,Full n (emptyT n)
 | 0=>trivial
 | n+1=>⟨empty_full n,empty_full n,empty_full n,empty_full n⟩
theorem chain_is {s:Int} {ns:List K4} (hg:GoodQ s ns):∀ {L:Nat} {a:Int},Chain s ns L a→Is s ns L a (emptyT L)
 | 0,a,h=>by
  have:a=0:=h
  subst this
  exact Is.leaf (by omega) (by have:=hg.1;omega)
 | L+1,a,h=>by
  obtain⟨b,i,hb,hi,rfl⟩:=h
  have hk:=idx_get hi
  have h1:=chain_is hg hb
  refine⟨⟨by have:=hg.1;omega,?_⟩,?_,⟨h1.2.2.1,h1.2.2.1,h1.2.2.1,h1.2.2.1⟩,⟨h1.2.2.2,h1.2.2.2,h1.2.2.2,h1.2.2.2⟩⟩
  ·have:=(List.getElem?_eq_some_iff.1 hk).1;omega
  ·rw [tr_node hg hk]
   show Tr.node (tr s ns b) (tr s ns b) (tr s ns b) (tr s ns b)=_
   rw [h1.2.1];rfl
end Go.Proofs.Ytppmnmheodimoaa
end
section
namespace Go.Proofs.Ytppmnmheodimoaa
open Go Go.RowKit Rg Mp Hp Qs Ev
def mixL (k:K4) (ids:List Int):List Int:=ids++[k.a,k.b,k.c,k.d].drop ids.length
theorem len2 {α:Type} {l:List α} (h:l.length=2):∃ a b,l=[a,b]:=by
 rcases l with _|⟨a,_|⟨b,_|⟨c,l⟩⟩⟩<;>simp at h
 exact⟨_,_,rfl⟩
theorem len3 {α:Type} {l:List α} (h:l.length=3):∃ a b c,l=[a,b,c]:=by
 rcases l with _|⟨a,_|⟨b,_|⟨c,_|⟨d,l⟩⟩⟩⟩<;>simp at h
 exact⟨_,_,_,rfl⟩
theorem len4 {α:Type} {l:List α} (h:l.length=4):∃ a b c d,l=[a,b,c,d]:=by
 rcases l with _|⟨a,_|⟨b,_|⟨c,_|⟨d,_|⟨e,l⟩⟩⟩⟩⟩<;>simp at h
 exact⟨_,_,_,_,rfl⟩
end Go.Proofs.Ytppmnmheodimoaa
end
section
namespace Go.Proofs.Ytppmnmheodimoaa
open Go Go.RowKit Rg Mp Hp Qs Ev Bn
structure BigIn (w:World) (neg:Bool) (ds:List Nat) (a:Option Addr) (c:Nat):Prop where
 rd:Reads w (.slice a ds.length c) ds.length 1 (u32s ds)
 dig:Dig 4294967296 ds
 len:ds.length≤c
 big:ds.length≤9223372036854775807
theorem BigIn.fr {w w':World} {neg:Bool} {ds:List Nat} {a:Option Addr} {c:Nat} (h:BigIn w neg ds a c) (hf:Fr [] w w'):BigIn w' neg ds a c:=⟨h.rd.fr hf,h.dig,h.len,h.big⟩
theorem BigIn.z {w:World} {neg:Bool} {ds:List Nat} {a:Option Addr} {c:Nat} (h:BigIn w neg ds a c) (hR:RightB neg ds=true):∃ z,Zok z∧neg=decide (z<0)∧ds=zd z∧BigZ w (fun _=>True) (.agg #[.bool neg,.slice a ds.length c]) z:=by
 obtain⟨z,h1,rfl,rfl⟩:=right_z hR h.dig
 exact⟨z,h1,rfl,rfl,a,c,rfl,h.len,fun _ _=>trivial,h.rd⟩
end Go.Proofs.Ytppmnmheodimoaa
end
section
namespace Go.Proofs.Ytppmnmheodimoaa
open Go Go.RowKit Rg Mp Hp Qs Ev Bn
theorem seps_mem {w:World} {P:Res}:∀ {Ps:List Res} {F:List Nat},Seps w Ps F→P∈Ps→∃ G,P.holds w G
 | Q::Ps,F,⟨F1,F2,h1,h2,_,_⟩,hm=>by
  rw [List.mem_cons] at hm
  rcases hm with rfl|hm
  ·exact⟨_,h1⟩
  ·exact seps_mem h2 hm
theorem has_memY {W w:World} {P:Res} {Ps:List Res} (h:Has W w Ps) (hm:P∈Ps):∃ G,P.holds w G:=by
 obtain⟨F,h1,_⟩:=h
 exact seps_mem h1 hm
def BigSrc (W:World) (Ps:List Res) (neg:Bool) (ds:List Nat) (a:Option Addr) (c:Nat):Prop :=
 ∀ w Qs,Has W w Qs→(∀ P∈Ps,P∈Qs)→BigIn w neg ds a c
theorem BigSrc.base {W:World} {Ps:List Res} {neg:Bool} {ds:List Nat} {a:Option Addr} {c:Nat} (h:BigIn W neg ds a c):BigSrc W Ps neg ds a c:=fun w Qs hw _=>h.fr hw.fr
theorem BigSrc.at {W w:World} {Ps:List Res} {neg:Bool} {ds:List Nat} {a:Option Addr} {c:Nat} (h:BigSrc W Ps neg ds a c) {P:Res} (hw:Has W w (P::Ps)):BigIn w neg ds a c:=h w _ hw fun Q hQ=>by simp [hQ]
def bigR (neg:Bool) (ds:List Nat) (a:Option Addr) (c:Nat):Res where
 holds w F:=BigIn w neg ds a c∧F=if ds.length=0 then [] else (Value.slice a ds.length c).ownBlock.toList
 keep:=fun {w w' F} ⟨h1,h2⟩ hk=>by
  refine⟨⟨?_,h1.dig,h1.len,h1.big⟩,h2⟩
  by_cases h0:ds.length=0
  ·exact⟨h1.rd.1,a,c,rfl,fun h=>by omega⟩
  ·rw [if_neg h0] at h2
   exact h1.rd.keep fun x hx _=>hk x (by rw [h2];simpa using hx)
 lt:=fun {w F} ⟨h1,h2⟩ x hx=>by
  by_cases h0:ds.length=0
  ·rw [h2,if_pos h0] at hx;cases hx
  ·rw [h2,if_neg h0] at hx
   obtain⟨_,a',c',he,h3⟩:=h1.rd
   cases he
   obtain⟨g,off,rfl,hg,_⟩:=h3 (by omega)
   simp [Value.ownBlock] at hx
   omega
theorem has_big {W w w':World} {Ps:List Res} {z:Int} {v:Value} (h:Has W w Ps) (hf:Fr [] w w') (hb:BigZ w' (w.heap.size≤·) v z) (hz:Zok z) :
  ∃ a c,v=.agg #[.bool (decide (z<0)),.slice a (zd z).length c]∧Has W w' (bigR (decide (z<0)) (zd z) a c::Ps):=by
 obtain⟨a,c,rfl,h1,h2,h3⟩:=hb
 refine⟨a,c,rfl,h.new hf (F:=if (zd z).length=0 then [] else (Value.slice a (zd z).length c).ownBlock.toList) ⟨⟨h3,zd_dig z,h1,by have:=zd_len hz;omega⟩,rfl⟩ fun x hx=>?_⟩
 split at hx
 ·cases hx
 ·exact h2 x (by simpa using hx)
end Go.Proofs.Ytppmnmheodimoaa
end
section
namespace Go.Proofs.Mp
open Go Go.RowKit
end Go.Proofs.Mp
namespace Go.Proofs.Hp
open Go Go.RowKit
theorem Has.merge {W w w':World} {P Q R:Res} {Ps:List Res} (h:Has W w (P::Q::Ps)) (hc:∀ F G,P.holds w F→Q.holds w G→(∀ x∈F,x∉G)→∃ H,R.holds w' H∧Fr F w w'∧∀ x∈H,x∈F∨x∈G):Has W w' (R::Ps):=by
 obtain⟨F,⟨F1,F2,h1,⟨G1,G2,g1,g2,g3,rfl⟩,h3,rfl⟩,hf,hge⟩:=h
 obtain⟨H,r1,r2,r3⟩:=hc F1 G1 h1 g1 fun x hx hx'=>h3 x hx (by simp [hx'])
 refine⟨H++G2,⟨H,G2,r1,g2.keep fun x hx=>r2.block x (g2.lt x hx) fun hx'=>h3 x hx' (by simp [hx]),fun x hx hx'=>?_,rfl⟩,hf.trans r2 fun x hx=>.inr (hge x (by simp [hx])),fun x hx=>?_⟩
 ·rcases r3 x hx with h|h
  ·exact h3 x h (by simp [hx'])
  ·exact g3 x h hx'
 ·rw [List.mem_append] at hx
  rcases hx with hx|hx
  ·rcases r3 x hx with h|h
   ·exact hge x (by simp [h])
   ·exact hge x (by simp [h])
  ·exact hge x (by simp [hx])
end Go.Proofs.Hp
namespace Go.Proofs.Ytppmnmheodimoaa
open Go Go.RowKit Rg Mp Hp Qs Ev Bn
abbrev BV:=Nat×Option Addr×Nat
def bvV (p:BV):Value:=.agg #[.bool false,.slice p.2.1 (zd (p.1:Int)).length p.2.2]
def bvF (p:BV):List Nat:=if (zd (p.1:Int)).length=0 then [] else (Value.slice p.2.1 (zd (p.1:Int)).length p.2.2).ownBlock.toList
theorem big_lt {w:World} {neg:Bool} {ds:List Nat} {a:Option Addr} {c:Nat} (h:BigIn w neg ds a c):∀ x∈(if ds.length=0 then [] else (Value.slice a ds.length c).ownBlock.toList),x<w.heap.size :=
 fun x hx=>(bigR neg ds a c).lt (w:=w) ⟨h,rfl⟩ x hx
theorem big_keep {w w':World} {neg:Bool} {ds:List Nat} {a:Option Addr} {c:Nat} (h:BigIn w neg ds a c) (hk:∀ x∈(if ds.length=0 then [] else (Value.slice a ds.length c).ownBlock.toList),w'.heap[x]?=w.heap[x]?):BigIn w' neg ds a c :=
 ((bigR neg ds a c).keep (w:=w) ⟨h,rfl⟩ hk).1
theorem _root_.Go.Proofs.Hp.Has.front {W w:World} {P:Res} {Xs Ys:List Res} (h:Has W w (Xs++P::Ys)):Has W w (P::(Xs++Ys)):=h.perm List.perm_middle
theorem _root_.Go.Proofs.Hp.Has.f2 {W w:World} {A B P:Res} {Ys:List Res} (h:Has W w (A::B::P::Ys)):Has W w (P::A::B::Ys):=h.front (Xs:=[A,B])
theorem _root_.Go.Proofs.Hp.Has.f3 {W w:World} {A B C P:Res} {Ys:List Res} (h:Has W w (A::B::C::P::Ys)):Has W w (P::A::B::C::Ys):=h.front (Xs:=[A,B,C])
theorem in_z {w:World} {V:Nat} {a:Option Addr} {c:Nat} (h:BigIn w false (zd (V:Int)) a c):BigZ w (fun _=>True) (.agg #[.bool false,.slice a (zd (V:Int)).length c]) (V:Int) :=
 ⟨a,c,by rw [show decide ((V:Int)<0)=false by simp],h.len,fun _ _=>trivial,h.rd⟩
end Go.Proofs.Ytppmnmheodimoaa
end
section
namespace Go.Proofs.Ytppmnmheodimoaa
open Go Go.RowKit Rg Mp Hp Qs Ev Bn
def poolR (L:List BV):Res where
 holds w F:=(∀ e∈L,BigIn w false (zd (e.1:Int)) e.2.1 e.2.2∧∀ x∈bvF e,x∈F)∧∀ x∈F,x<w.heap.size
 keep:=fun {w w' F} ⟨h1,h2⟩ hk=>⟨fun e he=>⟨big_keep (h1 e he).1 fun x hx=>hk x ((h1 e he).2 x hx),(h1 e he).2⟩,fun x hx=>by
  obtain⟨o,ho⟩:∃ o,w.heap[x]?=some o:=⟨_,Array.getElem?_eq_getElem (h2 x hx)⟩
  exact lBk ((hk x hx).trans ho)⟩
 lt:=fun ⟨_,h2⟩=>h2
theorem pool_nil {W w:World} {Ps:List Res} (h:Has W w Ps):Has W w (poolR []::Ps):=h.new (Fr.refl [] w) (F:=[]) ⟨by simp,by simp⟩ (by simp)
theorem pool_add {W w:World} {L:List BV} {V:Nat} {a:Option Addr} {c:Nat} {Ps:List Res} (h:Has W w (bigR false (zd (V:Int)) a c::poolR L::Ps)):Has W w (poolR ((V,a,c)::L)::Ps) :=
 h.merge fun F G hF hG hd=>by
  obtain⟨f1,f2⟩:=hF
  obtain⟨g1,g2⟩:=hG
  refine⟨F++G,⟨fun e he=>?_,fun x hx=>?_⟩,Fr.refl _ _,fun x hx=>List.mem_append.1 hx⟩
  ·rw [List.mem_cons] at he
   rcases he with rfl|he
   ·refine⟨f1,fun x hx=>List.mem_append.2 (.inl ?_)⟩
    rw [f2];exact hx
   ·exact⟨(g1 e he).1,fun x hx=>List.mem_append.2 (.inr ((g1 e he).2 x hx))⟩
  ·rw [List.mem_append] at hx
   rcases hx with hx|hx
   ·exact big_lt f1 x (by rw [f2] at hx;exact hx)
   ·exact g2 x hx
theorem in_z' {w:World} {e:BV} (h:BigIn w false (zd (e.1:Int)) e.2.1 e.2.2):BigZ w (fun _=>True) (bvV e) (e.1:Int):=in_z h
end Go.Proofs.Ytppmnmheodimoaa
end
section
namespace Go.Proofs.Ytppmnmheodimoaa
open Go Go.RowKit Rg Mp Hp Qs Ev Bn
abbrev FV:=Bool×BV×BV×BV×BV
def coF (o:Option Frm):Frm:=o.getD (0,0,0,0)
def FrOk (o:Option Frm) (f:FV):Prop:=f.1=o.isSome∧(f.2.1.1:Int)=(coF o).1∧(f.2.2.1.1:Int)=(coF o).2.1∧(f.2.2.2.1.1:Int)=(coF o).2.2.1∧(f.2.2.2.2.1:Int)=(coF o).2.2.2
def InL (L:List BV) (f:FV):Prop:=f.2.1∈L∧f.2.2.1∈L∧f.2.2.2.1∈L∧f.2.2.2.2∈L
theorem InL.mono {L M:List BV} {f:FV} (h:InL L f) (hs:∀ x∈L,x∈M):InL M f:=⟨hs _ h.1,hs _ h.2.1,hs _ h.2.2.1,hs _ h.2.2.2⟩
def FInv (s:Int) (ns:List K4) (L:List BV) (mm:List (Int×FV)):Prop:=∀ e∈mm,FrOk (frT (tr s ns e.1).ht (tr s ns e.1)) e.2∧InL L e.2
theorem FInv.mono {s:Int} {ns:List K4} {L M:List BV} {mm:List (Int×FV)} (h:FInv s ns L mm) (hs:∀ x∈L,x∈M):FInv s ns M mm:=fun e he=>⟨(h e he).1,(h e he).2.mono hs⟩
end Go.Proofs.Ytppmnmheodimoaa
end
section
namespace Go.Proofs.Hp
open Go Go.RowKit
theorem range_take {α:Type} (n:Nat) (xs:List α):(List.range n).filterMap (fun i=>xs[i]?)=xs.take n:=by
 induction n with
 | zero=>simp
 | succ n ih =>
  rw [List.range_succ,List.filterMap_append,ih]
  by_cases h:n<xs.length
  ·rw [List.take_add_one,List.getElem?_eq_getElem h];simp [h]
  ·rw [List.take_add_one];simp [List.getElem?_eq_none (by omega:xs.length≤n)]
theorem Has.drops {W w:World} {Qs:List Res}:∀ {Es:List Res},Has W w (Es++Qs)→Has W w Qs
 | [],h=>h
 | _::_,h=>Has.drops h.drop
theorem Has.ord {W w:World} {Xs:List Res} (n:Nat) (is:List Nat) (h:Has W w Xs) (hs:(is++(List.range n).filter (fun i=>!is.contains i)).isPerm (List.range n)=true:=by decide):Has W w (is.filterMap (fun i=>Xs[i]?)++Xs.drop n):=by
 have hp:=List.isPerm_iff.1 hs
 have h2:=hp.filterMap (fun i=>Xs[i]?)
 rw [range_take,List.filterMap_append] at h2
 have h3:Xs.Perm ((((List.range n).filter (fun i=>!is.contains i)).filterMap fun i=>Xs[i]?)++(is.filterMap (fun i=>Xs[i]?)++Xs.drop n)):=by
  refine (List.Perm.of_eq (List.take_append_drop n Xs).symm).trans ?_
  refine (h2.symm.append_right _).trans ?_
  rw [← List.append_assoc]
  exact List.perm_append_comm.append_right _
 exact Has.drops (h.perm h3)
end Go.Proofs.Hp
end
section
namespace Go.Proofs.Ytppmnmheodimoaa
open Go Go.RowKit Rg Mp Hp Qs Ev Bn
theorem zok_lt {V k:Nat} (h:V<2 ^ k) (hk:k≤2047):Zok (V:Int):=zok_le (zok_pow hk) (by rw [Int.natAbs_natCast,Int.natAbs_natCast];omega)
end Go.Proofs.Ytppmnmheodimoaa
end
section
namespace Go.Proofs.Hp
open Go Go.RowKit
structure Gr (w w':World):Prop where
 fr:Fr [] w w'
 dr:w.drawn≤w'.drawn
theorem Gr.refl (w:World):Gr w w:=⟨Fr.refl [] w,Nat.le_refl _⟩
theorem Gr.trans {a b c:World} (h:Gr a b) (k:Gr b c):Gr a c:=⟨h.fr.trans0 k.fr,Nat.le_trans h.dr k.dr⟩
theorem Gr.drew {a w:World} (h:Gr a w):Gr a w.drew:=⟨h.fr.drew,Nat.le_succ_of_le h.dr⟩
theorem Gr.drewN {a w:World} (h:Gr a w) (n:Nat):Gr a (w.drewN n):=⟨h.fr.drewN n,Nat.le_trans h.dr (Nat.le_add_right _ _)⟩
theorem Gr.alloc {a w:World} (h:Gr a w) (o:Obj):Gr a (w.alloc o):=⟨h.fr.alloc o,h.dr⟩
theorem drawn_setCell (w:World) (p:Addr) (u:Value):(w.setCell p u).drawn=w.drawn:=by
 unfold World.setCell
 repeat' split
 all_goals rfl
theorem Gr.setCell {a w:World} (h:Gr a w) {p:Addr} (hp:a.heap.size≤p.block) (u:Value):Gr a (w.setCell p u):=⟨h.fr.setCell (.inr hp) u,by rw [drawn_setCell];exact h.dr⟩
theorem Gr.grow {w w':World} (h:Gr w w'):∃ q os,w'=Go.Sort.grow (w.drewN q) os:=by
 refine⟨w'.drawn - w.drawn,w'.heap.extract w.heap.size w'.heap.size,?_⟩
 have hp:w'.heap=w.heap++w'.heap.extract w.heap.size w'.heap.size:=by
  apply Array.ext'
  rw [Array.toList_append,Array.toList_extract]
  have hl:=h.fr.size
  apply List.ext_getElem?
  intro i
  by_cases hi:i<w.heap.size
  ·rw [List.getElem?_append_left (by simpa using hi),Array.getElem?_toList,Array.getElem?_toList]
   exact h.fr.block i hi (by simp)
  ·rw [List.getElem?_append_right (by simpa using hi)]
   simp only [Array.length_toList,List.extract_eq_take_drop,List.getElem?_take,List.getElem?_drop]
   by_cases hi2:i<w'.heap.size
   ·rw [if_pos (by omega),show w.heap.size+(i - w.heap.size)=i by omega]
   ·rw [if_neg (by omega),List.getElem?_eq_none (by simp;omega)]
 obtain⟨hh,ht,hd,ho,hu⟩:=w'
 obtain⟨gh,gt,gd,go,gu⟩:=w
 have h1:=h.fr.os
 have h2:=h.fr.tape
 have h3:=h.fr.output
 have h4:=h.dr
 simp only at h1 h2 h3 h4 hp
 subst h1;subst h2;subst h3
 simp only [Go.Sort.grow,World.drewN]
 rw [← hp]
 congr 1
 omega
end Go.Proofs.Hp
namespace Go.Proofs.Ytppmnmheodimoaa
open Go Go.RowKit Rg Hp Pt
def pcV (c:PC):Value:=.agg #[.int .i64 c.x,.int .i64 c.y,.int .i64 c.st]
end Go.Proofs.Ytppmnmheodimoaa
end
section
namespace Go.Proofs.Pt
def z3:PC:=⟨0,0,0⟩
def rgtAt (l:List PC) (k:Nat):Bool:=cellB (l.getD k z3) && (decide (k=0) || pBef (l.getD (k - 1) z3) (l.getD k z3))
theorem strict_at:∀ {l:List PC} {k:Nat},strictB l=true→k+1<l.length→pBef (l.getD k z3) (l.getD (k+1) z3)=true
 | [],k,_,h=>by simp at h
 | [_],k,_,h=>by simp at h
 | a::b::l,0,h,_=>by simp only [strictB,Bool.and_eq_true] at h;exact h.1
 | a::b::l,k+1,h,hk=>by
  simp only [strictB,Bool.and_eq_true] at h
  have:=strict_at (k:=k) h.2 (by simpa using hk)
  simpa using this
theorem strict_mk:∀ {l:List PC},(∀ k,k+1<l.length→pBef (l.getD k z3) (l.getD (k+1) z3)=true)→strictB l=true
 | [],_=>rfl
 | [_],_=>rfl
 | a::b::l,h=>by
  simp only [strictB,Bool.and_eq_true]
  refine⟨by simpa using h 0 (by simp),strict_mk fun k hk=>?_⟩
  have:=h (k+1) (by simpa using hk)
  simpa using this
theorem rgt_false {l:List PC} {k:Nat} (hk:k<l.length) (h:rgtAt l k=false):rightP l=false:=by
 cases hr:rightP l with
 | false=>rfl
 | true =>
  unfold rightP at hr
  simp only [Bool.and_eq_true,decide_eq_true_eq,List.all_eq_true] at hr
  obtain⟨_,h2,h3⟩:=hr
  unfold rgtAt at h
  have e:l.getD k z3=l[k]:=by rw [List.getD_eq_getElem?_getD,List.getElem?_eq_getElem hk];rfl
  rw [e,h2 _ (List.getElem_mem hk),Bool.true_and] at h
  cases k with
  | zero=>simp at h
  | succ k =>
   have:=strict_at (k:=k) h3 hk
   rw [e,Nat.add_sub_cancel] at *
   rw [this] at h
   simp at h
theorem rgt_true {l:List PC} (h5:l.length≤5000) (h:∀ k,k<l.length→rgtAt l k=true):rightP l=true:=by
 unfold rightP
 simp only [Bool.and_eq_true,decide_eq_true_eq,List.all_eq_true]
 refine⟨h5,fun c hc=>?_,strict_mk fun k hk=>?_⟩
 ·obtain⟨i,hi,rfl⟩:=List.mem_iff_getElem.1 hc
  have:=h i hi
  unfold rgtAt at this
  rw [Bool.and_eq_true,List.getD_eq_getElem?_getD,List.getElem?_eq_getElem hi] at this
  exact this.1
 ·have:=h (k+1) hk
  unfold rgtAt at this
  simp only [Bool.and_eq_true,Nat.add_sub_cancel,Bool.or_eq_true,decide_eq_true_eq] at this
  rcases this.2 with h|h
  ·omega
  ·exact h
theorem rgt_zero {l:List PC} {c:PC} (h:l[0]?=some c):rgtAt l 0=cellB c:=by
 unfold rgtAt
 rw [List.getD_eq_getElem?_getD,h];simp
theorem rgt_succ {l:List PC} {k:Nat} {c d:PC} (h:l[k+1]?=some c) (h':l[k]?=some d):rgtAt l (k+1)=(cellB c && pBef d c):=by
 unfold rgtAt
 rw [List.getD_eq_getElem?_getD,h,Nat.add_sub_cancel,List.getD_eq_getElem?_getD,h'];simp
end Go.Proofs.Pt
namespace Go.Proofs.Ytppmnmheodimoaa
open Go Go.RowKit Rg Hp Pt
def pcs (l:List PC):List Value:=l.flatMap fun c=>[.int .i64 c.x,.int .i64 c.y,.int .i64 c.st]
theorem pcs_get:∀ {l:List PC} {i:Nat} {c:PC},l[i]?=some c→(pcs l)[i*3]?=some (.int .i64 c.x)∧(pcs l)[i*3+1]?=some (.int .i64 c.y)∧(pcs l)[i*3+2]?=some (.int .i64 c.st)
 | [],i,c,h=>by simp at h
 | d::l,0,c,h=>by
  simp only [List.getElem?_cons_zero,Option.some.injEq] at h
  subst h
  exact⟨rfl,rfl,rfl⟩
 | d::l,i+1,c,h=>by
  have:=pcs_get (l:=l) (i:=i) (by simpa using h)
  have e:pcs (d::l)=[.int .i64 d.x,.int .i64 d.y,.int .i64 d.st]++pcs l:=rfl
  rw [e]
  have f:∀ j,([Value.int .i64 d.x,.int .i64 d.y,.int .i64 d.st]++pcs l)[3+j]?=(pcs l)[j]?:=fun j=>by rw [List.getElem?_append_right (by simp)];simp
  rw [show (i+1)*3=3+i*3 by omega,show 3+i*3+1=3+(i*3+1) by omega,show 3+i*3+2=3+(i*3+2) by omega,f,f,f]
  exact this
def CellsAtY (w:World) (v:Value) (l:List PC):Prop:=Reads w v l.length 3 (pcs l)
theorem CellsAtY.fr {w w':World} {v:Value} {l:List PC} (h:CellsAtY w v l) (hf:Fr [] w w'):CellsAtY w' v l:=Reads.fr h hf
theorem CellsAtY.cell {w:World} {a:Option Addr} {n c:Nat} {l:List PC} (h:CellsAtY w (.slice a n c) l) {i:Nat} {p:PC} (hi:l[i]?=some p) :
  ∃ g off,a=some ⟨g,off,none⟩∧g<w.heap.size∧w.cell? ⟨g,off+i*3,none⟩=some (.int .i64 p.x)∧w.cell? ⟨g,off+i*3+1,none⟩=some (.int .i64 p.y)∧w.cell? ⟨g,off+i*3+2,none⟩=some (.int .i64 p.st):=by
 obtain⟨_,a',c',he,h2⟩:=h
 cases he
 obtain⟨g,off,rfl,hg,hc⟩:=h2 (by have:=(List.getElem?_eq_some_iff.1 hi).1;omega)
 obtain⟨h0,h1,h2⟩:=pcs_get hi
 exact⟨g,off,rfl,hg,hc _ _ h0,by have:=hc _ _ h1;rwa [← Nat.add_assoc] at this,by have:=hc _ _ h2;rwa [← Nat.add_assoc] at this⟩
end Go.Proofs.Ytppmnmheodimoaa
end
