/- Own texts of this claim, part 5: no condition. -/
import Derived.Test.YtppmnmheodimoaaRows
import Derived.Test.YtppmnmheodimoaaZD3
import Derived.Test.YtppmnmheodimoaaZD2
set_option linter.unusedVariables false
set_option linter.unusedSimpArgs false
section
namespace Go.Proofs.Qs
open Ev
def Tr.ok (s:Int):Tr→Prop
 | .leaf v=>0≤v∧v<s
 | .node a b c d=>a.ok s∧b.ok s∧c.ok s∧d.ok s
def Is (s:Int) (ns:List K4) (n:Nat) (id:Int) (t:Tr):Prop:=Kn s ns id∧tr s ns id=t∧Full n t∧t.ok s
theorem Is.kn {s:Int} {ns:List K4} {n:Nat} {id:Int} {t:Tr} (h:Is s ns n id t):Kn s ns id:=h.1
theorem Is.grow {s:Int} {ns ms:List K4} {n:Nat} {id:Int} {t:Tr} (h:Is s ns n id t) (hp:ns <+: ms):Is s ms n id t:=by
 obtain⟨xs,rfl⟩:=hp
 obtain⟨hk,ht,hf⟩:=h
 refine⟨⟨hk.1,by have:=hk.2;simp;omega⟩,?_,hf⟩
 rw [tr_app hk.2,ht]
theorem Is.lvl {s:Int} {ns:List K4} (hg:GoodQ s ns) {n:Nat} {id:Int} {t:Tr} (h:Is s ns n id t):lvl s (levs s ns) id=n:=by
 obtain⟨hk,ht,hf,_⟩:=h
 rw [lvl_ht hg ns.length (by have:=hk.2;omega) hk,ht,full_ht n hf]
theorem Is.inj {s:Int} {ns:List K4} (hg:GoodQ s ns) {n m:Nat} {x y:Int} {t:Tr} (h:Is s ns n x t) (h':Is s ns m y t):x=y :=
 tr_inj hg ns.length (by have:=h.1.2;omega) h.1 h'.1 (h.2.1.trans h'.2.1.symm)
theorem good_full {s:Int} {ns:List K4} (h:GoodQ s ns):∀ (m:Nat) {x:Int},x<s+m→Kn s ns x→Full (tr s ns x).ht (tr s ns x)∧(tr s ns x).ok s
 | 0,x,hx,kx=>by rw [tr_leaf (by omega)];exact⟨trivial,kx.1,by omega⟩
 | m+1,x,hx,kx=>by
  rcases kx.cases with ⟨h0,hxs⟩|⟨i,k,rfl,hk⟩
  ·rw [tr_leaf hxs];exact⟨trivial,h0,hxs⟩
  ·obtain⟨ka,kb,kc,kd⟩:=good_kids h hk
   obtain⟨_,_,_,lb,lc,ld⟩:=good_lvl h hk
   have hi:=(List.getElem?_eq_some_iff.1 hk).1
   have na:Kn s ns k.a:=⟨ka.1,by omega⟩
   have nb:Kn s ns k.b:=⟨kb.1,by omega⟩
   have nc:Kn s ns k.c:=⟨kc.1,by omega⟩
   have nd:Kn s ns k.d:=⟨kd.1,by omega⟩
   have fa:=good_full h m (x:=k.a) (by omega) na
   have fb:=good_full h m (x:=k.b) (by omega) nb
   have fc:=good_full h m (x:=k.c) (by omega) nc
   have fd:=good_full h m (x:=k.d) (by omega) nd
   rw [lvl_ht h ns.length (by have:=nb.2;omega) nb,lvl_ht h ns.length (by have:=na.2;omega) na] at lb
   rw [lvl_ht h ns.length (by have:=nc.2;omega) nc,lvl_ht h ns.length (by have:=na.2;omega) na] at lc
   rw [lvl_ht h ns.length (by have:=nd.2;omega) nd,lvl_ht h ns.length (by have:=na.2;omega) na] at ld
   rw [tr_node h hk]
   refine⟨⟨fa.1,?_,?_,?_⟩,fa.2,fb.2,fc.2,fd.2⟩
   ·rw [show (tr s ns k.a).ht=(tr s ns k.b).ht by omega];exact fb.1
   ·rw [show (tr s ns k.a).ht=(tr s ns k.c).ht by omega];exact fc.1
   ·rw [show (tr s ns k.a).ht=(tr s ns k.d).ht by omega];exact fd.1
theorem Is.of_lvl {s:Int} {ns:List K4} (hg:GoodQ s ns) {id:Int} {n:Nat} (h:Go.Proofs.Qs.lvl s (levs s ns) id=n):Is s ns n id (tr s ns id):=by
 have hk:Kn s ns id:=(kn_lvl hg id).1 (by omega)
 have hf:=good_full hg ns.length (x:=id) (by have:=hk.2;omega) hk
 rw [lvl_ht hg ns.length (by have:=hk.2;omega) hk] at h
 refine⟨hk,rfl,?_,hf.2⟩
 rw [show n=(tr s ns id).ht by omega]
 exact hf.1
theorem Is.leaf {s:Int} {ns:List K4} {v:Int} (h:0≤v) (h':v<s):Is s ns 0 v (.leaf v):=⟨⟨h,by omega⟩,tr_leaf h',trivial,h,h'⟩
theorem Is.zero {s:Int} {ns:List K4} (hg:GoodQ s ns) {v:Int} {t:Tr} (h:Is s ns 0 v t):0≤v∧v<s∧t=.leaf v:=by
 obtain⟨hk,ht,hf,hok⟩:=h
 rcases hk.cases with ⟨h0,h1⟩|⟨i,k,rfl,hi⟩
 ·exact⟨h0,h1,by rw [← ht,tr_leaf h1]⟩
 ·rw [tr_node hg hi] at ht
  subst ht
  exact hf.elim
theorem Is.kids {s:Int} {ns:List K4} (hg:GoodQ s ns) {n:Nat} {id:Int} {t:Tr} (h:Is s ns (n+1) id t) :
  ∃ i k,id=s+(i:Nat)∧ns[i]?=some k∧Is s ns n k.a (Tr.q t 0)∧Is s ns n k.b (Tr.q t 1)∧Is s ns n k.c (Tr.q t 2)∧Is s ns n k.d (Tr.q t 3)∧t=.node (Tr.q t 0) (Tr.q t 1) (Tr.q t 2) (Tr.q t 3):=by
 obtain⟨hk,ht,hf,hok⟩:=h
 rcases hk.cases with ⟨h0,h1⟩|⟨i,k,rfl,hi⟩
 ·rw [tr_leaf h1] at ht
  subst ht
  exact hf.elim
 ·obtain⟨ka,kb,kc,kd⟩:=good_kids hg hi
  have hl:=(List.getElem?_eq_some_iff.1 hi).1
  rw [tr_node hg hi] at ht
  subst ht
  exact⟨i,k,rfl,hi,⟨⟨ka.1,by omega⟩,rfl,hf.1,hok.1⟩,⟨⟨kb.1,by omega⟩,rfl,hf.2.1,hok.2.1⟩,⟨⟨kc.1,by omega⟩,rfl,hf.2.2.1,hok.2.2.1⟩,⟨⟨kd.1,by omega⟩,rfl,hf.2.2.2,hok.2.2.2⟩,rfl⟩
theorem Is.fits {s:Int} {ns:List K4} (hg:GoodQ s ns) {n:Nat} (hn:n<256) {a b c d:Int} {ta tb tc td:Tr} (ha:Is s ns n a ta) (hb:Is s ns n b tb) (hc:Is s ns n c tc) (hd:Is s ns n d td):Fits s ns ⟨a,b,c,d⟩:=by
 have la:=ha.lvl hg
 have lb:=hb.lvl hg
 have lc:=hc.lvl hg
 have ld:=hd.lvl hg
 unfold Fits
 simp only
 rw [la,lb,lc,ld]
 omega
def room (s:Int) (ns:List K4) (L:List Tr):Prop:=ns.length+(L.filter fun t=>decide (t∉trs s ns)).length≤90000
theorem room.len {s:Int} {ns:List K4} {L:List Tr} (h:room s ns L):ns.length≤90000:=by unfold room at h;omega
theorem room.of_len {s:Int} {ns:List K4} {L:List Tr} (h:ns.length+L.length≤90000):room s ns L:=by
 have:=List.length_filter_le (fun t=>decide (t∉trs s ns)) L
 unfold room;omega
theorem trs_mem {s:Int} {ns:List K4} (hg:GoodQ s ns) {i:Nat} {k:K4} (hk:ns[i]?=some k):(trs s ns)[i]?=some (.node (tr s ns k.a) (tr s ns k.b) (tr s ns k.c) (tr s ns k.d)):=by
 have h:=tr_node hg hk
 have hi:=(List.getElem?_eq_some_iff.1 hk).1
 unfold tr tget at h
 rw [if_neg (by omega),show (s+(i:Int) - s).toNat=i by omega,List.getD_eq_getElem?_getD,List.getElem?_eq_getElem (by rw [trs_length];exact hi)] at h
 rw [List.getElem?_eq_getElem (by rw [trs_length];exact hi)]
 exact congrArg some h
theorem filter_drop {α:Type} [DecidableEq α] {l m:List α} {x:α} (hx:x∈l) (hm:x∉m):(l.filter fun t=>decide (t∉m++[x])).length+1≤(l.filter fun t=>decide (t∉m)).length:=by
 have hle:∀ l:List α,(l.filter fun t=>decide (t∉m++[x])).length≤(l.filter fun t=>decide (t∉m)).length:=by
  intro l
  induction l with
  | nil=>simp
  | cons y l ih =>
   simp only [List.filter_cons]
   by_cases h1:y∉m++[x]
   ·have h2:y∉m:=fun h=>h1 (by simp [h])
    simp [h1,h2] at ih ⊢
    exact ih
   ·have:decide (y∉m++[x])=false:=by simpa using h1
    rw [this]
    simp only [Bool.false_eq_true,if_false]
    split
    ·simp only [List.length_cons];omega
    ·exact ih
 induction l with
 | nil=>cases hx
 | cons y l ih =>
  simp only [List.filter_cons]
  by_cases hy:y=x
  ·subst hy
   have h1:decide (y∉m++[y])=false:=by simp
   have h2:decide (y∉m)=true:=by simpa using hm
   rw [h1,h2]
   simp only [Bool.false_eq_true,if_false,if_true,List.length_cons]
   have:=hle l
   omega
  ·have hx':x∈l:=by
    rw [List.mem_cons] at hx
    rcases hx with h|h
    ·exact absurd h.symm hy
    ·exact h
   have:=ih hx'
   by_cases h1:y∉m
   ·have h2:decide (y∉m++[x])=true:=by simp [h1,hy]
    have h3:decide (y∉m)=true:=by simpa using h1
    rw [h2,h3]
    simp only [if_true,List.length_cons]
    omega
   ·have h2:decide (y∉m++[x])=false:=by simp at h1;simp [h1]
    have h3:decide (y∉m)=false:=by simpa using h1
    rw [h2,h3]
    simpa using this
theorem join_room {s:Int} {ns:List K4} (hg:GoodQ s ns) {L:List Tr} (hr:room s ns L) {n:Nat} (hn:n<256) {a b c d:Int} {ta tb tc td:Tr} (ha:Is s ns n a ta) (hb:Is s ns n b tb) (hc:Is s ns n c tc) (hd:Is s ns n d td)
  (hL:Tr.node ta tb tc td∈L):∃ id ms,join s ns ⟨a,b,c,d⟩=((id,0),ms)∧GoodQ s ms∧ns <+: ms∧room s ms L∧Is s ms (n+1) id (.node ta tb tc td):=by
 have hf:=Is.fits hg hn ha hb hc hd
 have h0:join s ns ⟨a,b,c,d⟩=joinIn s ns ⟨a,b,c,d⟩:=by
  unfold join
  rw [if_neg,if_neg (by simpa using hf)]
  have la:=ha.lvl hg
  have lb:=hb.lvl hg
  have lc:=hc.lvl hg
  have ld:=hd.lvl hg
  simp only [la,lb,lc,ld]
  omega
 have hfull:Full (n+1) (.node ta tb tc td):=⟨ha.2.2.1,hb.2.2.1,hc.2.2.1,hd.2.2.1⟩
 have hok:(Tr.node ta tb tc td).ok s:=⟨ha.2.2.2,hb.2.2.2,hc.2.2.2,hd.2.2.2⟩
 cases hi:ns.idxOf? ⟨a,b,c,d⟩ with
 | some i =>
  obtain⟨hlt,he,_⟩:=List.idxOf?_eq_some_iff.1 hi
  have hk:ns[i]?=some ⟨a,b,c,d⟩:=by rw [List.getElem?_eq_getElem hlt,he]
  refine⟨s+i,ns,by rw [h0,joinIn_hit hi],hg,List.prefix_refl _,hr,⟨by have:=hg.1;omega,by omega⟩,?_,hfull,hok⟩
  rw [tr_node hg hk,ha.2.1,hb.2.1,hc.2.1,hd.2.1]
 | none =>
  have hnm:(⟨a,b,c,d⟩:K4)∉ns:=List.idxOf?_eq_none_iff.1 hi
  have hT:Tr.node ta tb tc td∉trs s ns:=by
   intro hm
   obtain⟨i,hi',he⟩:=List.mem_iff_getElem.1 hm
   rw [trs_length] at hi'
   have h1:Kn s ns (s+i):=⟨by have:=hg.1;omega,by omega⟩
   have hk:ns[i]?=some ns[i]:=List.getElem?_eq_getElem hi'
   have h2:=trs_mem hg hk
   rw [List.getElem?_eq_getElem (by rw [trs_length];exact hi'),he] at h2
   injection h2 with h2
   injection h2 with e1 e2 e3 e4
   obtain⟨ka,kb,kc,kd⟩:=good_kids hg hk
   have f1:=tr_inj hg ns.length (x:=a) (y:=(ns[i]).a) (by have:=ha.1.2;omega) ha.1 ⟨ka.1,by omega⟩ (ha.2.1.trans e1)
   have f2:=tr_inj hg ns.length (x:=b) (y:=(ns[i]).b) (by have:=hb.1.2;omega) hb.1 ⟨kb.1,by omega⟩ (hb.2.1.trans e2)
   have f3:=tr_inj hg ns.length (x:=c) (y:=(ns[i]).c) (by have:=hc.1.2;omega) hc.1 ⟨kc.1,by omega⟩ (hc.2.1.trans e3)
   have f4:=tr_inj hg ns.length (x:=d) (y:=(ns[i]).d) (by have:=hd.1.2;omega) hd.1 ⟨kd.1,by omega⟩ (hd.2.1.trans e4)
   apply hnm
   rw [f1,f2,f3,f4]
   exact List.getElem_mem hi'
  have hlt:ns.length<100000:=by
   have:1≤(L.filter fun t=>decide (t∉trs s ns)).length:=List.length_pos_of_mem (List.mem_filter.2 ⟨hL,by simpa using hT⟩)
   unfold room at hr;omega
  have hg':=hg.snoc hf hnm hlt
  have hpre:ns <+: ns++[⟨a,b,c,d⟩]:=List.prefix_append _ _
  have ha':=ha.grow hpre
  have hb':=hb.grow hpre
  have hc':=hc.grow hpre
  have hd':=hd.grow hpre
  refine⟨s+ns.length,ns++[⟨a,b,c,d⟩],by rw [h0,joinIn_new hi hlt],hg',hpre,?_,⟨by have:=hg.1;omega,by simp;omega⟩,?_,hfull,hok⟩
  ·unfold room at hr ⊢
   rw [trs_snoc,show (Tr.node (tget s (trs s ns) a) (tget s (trs s ns) b) (tget s (trs s ns) c) (tget s (trs s ns) d))=.node ta tb tc td by rw [← ha.2.1,← hb.2.1,← hc.2.1,← hd.2.1];rfl]
   have:=filter_drop hL hT
   simp only [List.length_append,List.length_cons,List.length_nil]
   omega
  ·rw [tr_node hg' (i:=ns.length) (k:=⟨a,b,c,d⟩) (by simp),ha'.2.1,hb'.2.1,hc'.2.1,hd'.2.1]
end Go.Proofs.Qs
namespace Go.Proofs.Ev
open Qs
def subs:Tr→List Tr
 | .leaf _=>[]
 | .node a b c d=>subs a++subs b++subs c++subs d++[.node a b c d]
def subN:Nat→Nat
 | 0=>0
 | n+1=>4*subN n+1
theorem subs_length:∀ (n:Nat) {t:Tr},Full n t→(subs t).length=subN n
 | 0,.leaf v,_=>rfl
 | 0,.node _ _ _ _,h=>h.elim
 | n+1,.leaf _,h=>h.elim
 | n+1,.node a b c d,h=>by
  simp only [subs,List.length_append,List.length_cons,List.length_nil,subs_length n h.1,subs_length n h.2.1,subs_length n h.2.2.1,subs_length n h.2.2.2,subN]
  omega
def i9:List (Nat×Nat):=[(0,0),(0,1),(0,2),(1,0),(1,1),(1,2),(2,0),(2,1),(2,2)]
def i4:List (Nat×Nat):=[(0,0),(0,1),(1,0),(1,1)]
def need (g:Fld→Fld) (lost:Nat):Nat→Nat→Tr→List Tr
 | 0,_,_=>[]
 | n+1,k,t =>
  if n+1≤lost then subs (stp g (n+1) k t)
  else
   (i9.flatMap fun p=>part9 t p.1 p.2::if k=n+1 - lost then need g lost n (k - 1) (part9 t p.1 p.2) else [ctr (part9 t p.1 p.2)]) ++
   (i4.flatMap fun p=>out4 g (n+1) k (decide (k=n+1 - lost)) t p.1 p.2::need g lost n (if k=n+1 - lost then k - 1 else k) (out4 g (n+1) k (decide (k=n+1 - lost)) t p.1 p.2)) ++
   [stp g (n+1) k t]
def cost (lost:Nat):Nat→Nat→Nat
 | 0,_=>0
 | n+1,k =>
  if n+1≤lost then subN n
  else 9*(1+if k=n+1 - lost then cost lost n (k - 1) else 1)+4*(1+cost lost n (if k=n+1 - lost then k - 1 else k))+1
theorem need_length (g:Fld→Fld) (lost:Nat):∀ (n k:Nat) (t:Tr),(need g lost n k t).length=cost lost n k
 | 0,k,t=>rfl
 | n+1,k,t=>by
  unfold need cost
  by_cases h:n+1≤lost
  ·rw [if_pos h,if_pos h,subs_length n (stp_full g (n+1) k t)]
  ·rw [if_neg h,if_neg h]
   by_cases h2:k=n+1 - lost
   ·simp only [if_pos h2,List.length_append,List.length_flatMap,i9,i4,List.map_cons,List.map_nil,List.length_cons,need_length g lost n,List.sum_cons,List.sum_nil,List.length_nil]
    omega
   ·simp only [if_neg h2,List.length_append,List.length_flatMap,i9,i4,List.map_cons,List.map_nil,List.length_cons,need_length g lost n,List.sum_cons,List.sum_nil,List.length_nil]
    omega
theorem cost_tab:((List.range 2).all fun a=>(List.range 7).all fun n=>(List.range 5).all fun k=>decide (cost (a+2) n k≤61881))=true:=by decide +kernel
theorem cost_all {lost n k:Nat} (h1:2≤lost) (h2:lost≤3) (hn:n≤6) (hk:k≤4):cost lost n k≤61881:=by
 have h:=cost_tab
 simp only [List.all_eq_true,List.mem_range,decide_eq_true_eq] at h
 have:=h (lost - 2) (by omega) n (by omega) k (by omega)
 rwa [show lost - 2+2=lost by omega] at this
end Go.Proofs.Ev
end
section
namespace Go.Proofs.Ev
open Qs
def gridL (m:Nat) (F:Fld) (ox oy:Int):List (List Int):=(List.range m).map fun (y:Nat)=>(List.range m).map fun (x:Nat)=>F (ox+x) (oy+y)
def rowL (m:Nat) (F:Fld) (ox y:Int):List Int:=(List.range m).map fun (x:Nat)=>F (ox+x) y
theorem rowL_length (m:Nat) (F:Fld) (ox y:Int):(rowL m F ox y).length=m:=by simp [rowL]
theorem gridL_get {m:Nat} {F:Fld} {ox oy:Int} {y:Nat} (h:y<m):(gridL m F ox oy)[y]?=some (rowL m F ox (oy+y)):=by
 simp [gridL,rowL,h]
theorem rowL_get {m:Nat} {F:Fld} {ox y:Int} {x:Nat} (h:x<m):(rowL m F ox y)[x]?=some (F (ox+x) y):=by
 simp [rowL,h]
theorem gridL_ext {m n:Nat} {F G:Fld} {ox oy px py:Int} (hm:m=n) (h:∀ i j:Nat,i<m→j<m→F (ox+i) (oy+j)=G (px+i) (py+j)):gridL m F ox oy=gridL n G px py:=by
 subst hm
 unfold gridL
 refine List.map_congr_left fun y hy=>List.map_congr_left fun x hx=>?_
 rw [List.mem_range] at hx hy
 exact h x y hx hy
theorem rowL_append {m n:Nat} {F:Fld} {ox y:Int}:rowL m F ox y++rowL n F (ox+m) y=rowL (m+n) F ox y:=by
 apply List.ext_getElem?
 intro i
 by_cases h:i<m
 ·rw [List.getElem?_append_left (by rw [rowL_length];exact h),rowL_get h,rowL_get (by omega)]
 ·rw [List.getElem?_append_right (by rw [rowL_length];omega),rowL_length]
  by_cases h2:i<m+n
  ·rw [rowL_get (by omega),rowL_get h2]
   congr 2;omega
  ·rw [List.getElem?_eq_none (by rw [rowL_length];omega),List.getElem?_eq_none (by rw [rowL_length];omega)]
def rowsL (k m:Nat) (F:Fld) (ox oy:Int):List (List Int):=(List.range k).map fun (y:Nat)=>rowL m F ox (oy+y)
theorem rowsL_snoc {k m:Nat} {F:Fld} {ox oy:Int}:rowsL k m F ox oy++[rowL m F ox (oy+k)]=rowsL (k+1) m F ox oy:=by
 unfold rowsL
 rw [List.range_succ,List.map_append];rfl
theorem rowsL_length (k m:Nat) (F:Fld) (ox oy:Int):(rowsL k m F ox oy).length=k:=by simp [rowsL]
structure Rule where
 S:Int
 hood:List (Int×Int)
 nodes:List (Int×List Int)
def before (p q:Int×Int):Bool:=decide (p.2<q.2∨p.2=q.2∧p.1<q.1)
def near2 (p:Int×Int):Bool:=decide (-2≤p.1∧p.1≤2∧-2≤p.2∧p.2≤2)
def hoodAt (l:List (Int×Int)) (i:Nat):Bool:=near2 (l.getD i (0,0)) && (decide (i=0) || before (l.getD (i - 1) (0,0)) (l.getD i (0,0)))
def hoodR (l:List (Int×Int)):Bool:=decide (1≤l.length) && decide (l.length≤25) && (List.range l.length).all (hoodAt l)
def levelAt (r:Rule) (k:Int):Int:=(r.nodes.getD k.toNat (0,[])).1
def nextAt (r:Rule) (k s:Int):Int:=(r.nodes.getD k.toNat (0,[])).2.getD s.toNat 0
def entOK (r:Rule) (lv:Int) (i:Nat) (k:Int):Bool:=decide (0≤k) && (if lv=1 then decide (k<r.S) else true) && (if 1<lv then decide (k<i∧levelAt r k=lv - 1) else true)
def nodeOK (r:Rule) (i:Nat):Bool :=
 decide (1≤(r.nodes.getD i (0,[])).1∧(r.nodes.getD i (0,[])).1≤r.hood.length∧(((r.nodes.getD i (0,[])).2.length:Nat):Int)=r.S) && (r.nodes.getD i (0,[])).2.all (entOK r (r.nodes.getD i (0,[])).1 i)
def rightR (r:Rule):Bool:=decide (2≤r.S∧r.S≤8) && hoodR r.hood && decide (1≤r.nodes.length∧r.nodes.length≤4096) && decide (levelAt r (r.nodes.length - 1:Int)=r.hood.length) && (List.range r.nodes.length).all (nodeOK r)
def radMax (r:Int) (p:Int×Int):Int:=max (max (max (max r p.1) (-p.1)) p.2) (-p.2)
def radius (l:List (Int×Int)):Int:=if hoodR l then l.foldl radMax 0 else 0
def down (r:Rule) (ss:List Int):Int:=ss.foldl (fun k s=>nextAt r k s) (r.nodes.length - 1:Int)
def gen (r:Rule) (F:Fld):Fld:=fun x y=>down r (r.hood.map fun p=>F (x+p.1) (y+p.2))
theorem down_snoc (r:Rule) (ss:List Int) (s:Int):down r (ss++[s])=nextAt r (down r ss) s:=by simp [down]
section
variable {r:Rule} (h:rightR r=true)
include h
theorem right_S:2≤r.S∧r.S≤8:=by
 unfold rightR at h
 simp only [Bool.and_eq_true,decide_eq_true_eq] at h
 exact h.1.1.1.1
theorem right_hood:hoodR r.hood=true:=by
 unfold rightR at h
 simp only [Bool.and_eq_true,decide_eq_true_eq] at h
 exact h.1.1.1.2
theorem right_len:1≤r.nodes.length∧r.nodes.length≤4096:=by
 unfold rightR at h
 simp only [Bool.and_eq_true,decide_eq_true_eq] at h
 exact h.1.1.2
theorem right_root:levelAt r (r.nodes.length - 1:Int)=r.hood.length:=by
 unfold rightR at h
 simp only [Bool.and_eq_true,decide_eq_true_eq] at h
 exact h.1.2
theorem right_node {i:Nat} (hi:i<r.nodes.length):nodeOK r i=true:=by
 unfold rightR at h
 simp only [Bool.and_eq_true,decide_eq_true_eq,List.all_eq_true,List.mem_range] at h
 exact h.2 i hi
theorem right_hlen:1≤r.hood.length∧r.hood.length≤25:=by
 have:=right_hood h
 unfold hoodR at this
 simp only [Bool.and_eq_true,decide_eq_true_eq] at this
 exact this.1
theorem down_at:∀ {ss:List Int},(∀ s∈ss,0≤s∧s<r.S)→ss.length≤r.hood.length →
  (ss.length<r.hood.length→0≤down r ss∧down r ss<r.nodes.length∧levelAt r (down r ss)=r.hood.length - ss.length)∧(ss.length=r.hood.length→0≤down r ss∧down r ss<r.S):=by
 intro ss
 generalize hm:ss.length=m
 induction m generalizing ss with
 | zero =>
  intro _ _
  obtain rfl:=List.eq_nil_of_length_eq_zero hm
  have hl:=right_len h
  have hh:=right_hlen h
  have hr:=right_root h
  have e:down r []=(r.nodes.length - 1:Int):=rfl
  rw [e]
  exact⟨fun _=>⟨by omega,by omega,by rw [hr];omega⟩,fun h0=>by omega⟩
 | succ m ih =>
  intro hs hle
  rcases List.eq_nil_or_concat ss with rfl|⟨l,s,rfl⟩
  ·simp at hm
  ·rw [List.concat_eq_append] at hs hm ⊢
   have hm':l.length=m:=by simpa using hm
   obtain⟨h1,_⟩:=ih hm' (fun x hx=>hs x (by simp [hx])) (by omega)
   obtain⟨a1,a2,a3⟩:=h1 (by omega)
   have hs':=hs s (by simp)
   rw [down_snoc]
   generalize down r l=k at a1 a2 a3
   have hn:=right_node h (i:=k.toNat) (by omega)
   unfold nodeOK at hn
   unfold levelAt at a3
   unfold nextAt
   generalize r.nodes.getD k.toNat (0,[])=x at a3 hn
   rw [Bool.and_eq_true,decide_eq_true_eq,List.all_eq_true] at hn
   obtain⟨⟨b1,b2,b3⟩,b4⟩:=hn
   have hmem:x.2.getD s.toNat 0∈x.2:=by
    rw [List.getD_eq_getElem?_getD,List.getElem?_eq_getElem (by omega)]
    exact List.getElem_mem _
   have b5:=b4 _ hmem
   generalize x.2.getD s.toNat 0=z at b5
   unfold entOK at b5
   rw [Bool.and_eq_true,Bool.and_eq_true,decide_eq_true_eq] at b5
   obtain⟨⟨c1,c2⟩,c3⟩:=b5
   refine⟨fun hlt=>?_,fun heq=>?_⟩
   ·rw [if_pos (by omega),decide_eq_true_eq] at c3
    exact⟨c1,by omega,by rw [c3.2];omega⟩
   ·rw [if_pos (by omega),decide_eq_true_eq] at c2
    exact⟨c1,c2⟩
end
theorem radMax_le {a b:Int} {p:Int×Int}:radMax a p≤b↔a≤b∧p.1≤b∧-p.1≤b∧p.2≤b∧-p.2≤b:=by unfold radMax;omega
theorem fold_rad:∀ (l:List (Int×Int)) (a:Int),a≤l.foldl radMax a∧∀ p∈l,p.1≤l.foldl radMax a∧-p.1≤l.foldl radMax a∧p.2≤l.foldl radMax a∧-p.2≤l.foldl radMax a
 | [],a=>⟨Int.le_refl _,by simp⟩
 | q::l,a=>by
  obtain⟨h1,h2⟩:=fold_rad l (radMax a q)
  have h3:=(radMax_le (a:=a) (b:=radMax a q) (p:=q)).1 (Int.le_refl _)
  rw [List.foldl_cons]
  refine⟨by omega,fun p hp=>?_⟩
  rw [List.mem_cons] at hp
  rcases hp with rfl|hp
  ·omega
  ·exact h2 p hp
theorem fold_rad_le:∀ (l:List (Int×Int)) (a b:Int),a≤b→(∀ p∈l,p.1≤b∧-p.1≤b∧p.2≤b∧-p.2≤b)→l.foldl radMax a≤b
 | [],a,b,h,_=>h
 | q::l,a,b,h,hp=>by
  rw [List.foldl_cons]
  refine fold_rad_le l _ _ (radMax_le.2 ⟨h,hp q (by simp)⟩) fun p hm=>hp p (by simp [hm])
theorem radius_le (l:List (Int×Int)):0≤radius l∧radius l≤2:=by
 unfold radius
 split
 ·rename_i h
  refine⟨(fold_rad l 0).1,fold_rad_le l 0 2 (by omega) fun p hp=>?_⟩
  unfold hoodR at h
  simp only [Bool.and_eq_true,decide_eq_true_eq,List.all_eq_true,List.mem_range] at h
  obtain⟨i,hi,rfl⟩:=List.mem_iff_getElem.1 hp
  have:=h.2 i hi
  unfold hoodAt near2 at this
  simp only [Bool.and_eq_true,decide_eq_true_eq] at this
  have h3:=this.1
  rw [List.getD_eq_getElem?_getD,List.getElem?_eq_getElem hi] at h3
  simp only [Option.getD_some] at h3
  omega
 ·omega
theorem hood_in {l:List (Int×Int)} (h:hoodR l=true) {p:Int×Int} (hp:p∈l):-radius l≤p.1∧p.1≤radius l∧-radius l≤p.2∧p.2≤radius l:=by
 have:=(fold_rad l 0).2 p hp
 unfold radius
 rw [h,if_pos rfl]
 omega
theorem gen_local {r:Rule} (h:rightR r=true):Local (radius r.hood) (gen r):=by
 intro F H x y u v hF
 unfold gen
 congr 1
 refine List.map_congr_left fun p hp=>?_
 have:=hood_in (right_hood h) hp
 exact hF _ _ this.1 this.2.1 this.2.2.1 this.2.2.2
theorem gen_ok {r:Rule} (h:rightR r=true) {F:Fld} {x y:Int} (hF:∀ i j,-radius r.hood≤i→i≤radius r.hood→-radius r.hood≤j→j≤radius r.hood→0≤F (x+i) (y+j)∧F (x+i) (y+j)<r.S):0≤gen r F x y∧gen r F x y<r.S:=by
 refine (down_at h (ss:=r.hood.map fun p=>F (x+p.1) (y+p.2)) (fun s hs=>?_) (by simp)).2 (by simp)
 obtain⟨p,hp,rfl⟩:=List.mem_map.1 hs
 have:=hood_in (right_hood h) hp
 exact hF _ _ this.1 this.2.1 this.2.2.1 this.2.2.2
theorem cell_ok {s:Int}:∀ (n:Nat) {t:Tr},Full n t→t.ok s→∀ {x y:Int},0≤x→x<p2 n→0≤y→y<p2 n→0≤cell n t x y∧cell n t x y<s
 | 0,.leaf v,_,hv,x,y,_,_,_,_=>hv
 | 0,.node _ _ _ _,h,_,_,_,_,_,_,_=>h.elim
 | n+1,.leaf _,h,_,_,_,_,_,_,_=>h.elim
 | n+1,.node a b c d,h,ho,x,y,h1,h2,h3,h4=>by
  have hp:=p2_succ n
  show 0≤(if y<p2 n then (if x<p2 n then _ else _) else _)∧(if y<p2 n then (if x<p2 n then _ else _) else _)<s
  split
  ·split
   ·exact cell_ok n h.1 ho.1 h1 (by omega) h3 (by omega)
   ·exact cell_ok n h.2.1 ho.2.1 (by omega) (by omega) h3 (by omega)
  ·split
   ·exact cell_ok n h.2.2.1 ho.2.2.1 h1 (by omega) (by omega) (by omega)
   ·exact cell_ok n h.2.2.2 ho.2.2.2 (by omega) (by omega) (by omega) (by omega)
end Go.Proofs.Ev
end
section
namespace Go.Proofs.Ev
open Qs
def cellsL (n:Nat) (t:Tr):List (List Int):=gridL (2 ^ n) (cell n t) 0 0
theorem cellsL_get {n:Nat} {t:Tr} {y:Nat} (h:y<2 ^ n):(cellsL n t)[y]?=some (rowL (2 ^ n) (cell n t) 0 y):=by
 unfold cellsL
 rw [gridL_get h,Int.zero_add]
theorem cellsL_zero (v:Int):cellsL 0 (.leaf v)=[[v]]:=rfl
theorem row_north {n:Nat} {a b c d:Tr} {y:Nat} (h:y<2 ^ n):rowL (2 ^ n) (cell n a) 0 y++rowL (2 ^ n) (cell n b) 0 y=rowL (2 ^ (n+1)) (cell (n+1) (.node a b c d)) 0 y:=by
 have hy:(y:Int)<p2 n:=by unfold p2;omega
 rw [show (2:Nat) ^ (n+1)=2 ^ n+2 ^ n by rw [Nat.pow_succ];omega,← rowL_append]
 congr 1
 ·refine List.map_congr_left fun x hx=>?_
  rw [List.mem_range] at hx
  have hx':(x:Int)<p2 n:=by unfold p2;omega
  show _=(if (y:Int)<p2 n then (if 0+(x:Int)<p2 n then _ else _) else _)
  rw [if_pos hy,if_pos (by omega)]
 ·refine List.map_congr_left fun x hx=>?_
  show _=(if (y:Int)<p2 n then (if 0+((2 ^ n:Nat):Int)+(x:Int)<p2 n then _ else _) else _)
  rw [if_pos hy,if_neg (by unfold p2;omega)]
  congr 1
  unfold p2;omega
theorem row_south {n:Nat} {a b c d:Tr} {y:Nat} (h:y<2 ^ n):rowL (2 ^ n) (cell n c) 0 y++rowL (2 ^ n) (cell n d) 0 y=rowL (2 ^ (n+1)) (cell (n+1) (.node a b c d)) 0 ((2 ^ n+y:Nat)):=by
 have hy:¬ (((2 ^ n+y:Nat)):Int)<p2 n:=by unfold p2;omega
 have hs:(((2 ^ n+y:Nat)):Int) - p2 n=y:=by unfold p2;omega
 rw [show (2:Nat) ^ (n+1)=2 ^ n+2 ^ n by rw [Nat.pow_succ];omega,← rowL_append]
 congr 1
 ·refine List.map_congr_left fun x hx=>?_
  rw [List.mem_range] at hx
  have hx':(x:Int)<p2 n:=by unfold p2;omega
  show _=(if (((2 ^ n+y:Nat)):Int)<p2 n then _ else (if 0+(x:Int)<p2 n then _ else _))
  rw [if_neg hy,if_pos (by omega),hs]
 ·refine List.map_congr_left fun x hx=>?_
  show _=(if (((2 ^ n+y:Nat)):Int)<p2 n then _ else (if 0+((2 ^ n:Nat):Int)+(x:Int)<p2 n then _ else _))
  rw [if_neg hy,if_neg (by unfold p2;omega),hs]
  congr 1
  unfold p2;omega
theorem cellsL_mk (n:Nat) (F:Fld) (x y:Int):cellsL n (mk n F x y)=gridL (2 ^ n) F x y :=
 gridL_ext rfl fun i j hi hj=>by rw [Int.zero_add,Int.zero_add];exact cell_mk n (by omega) (by unfold p2;omega) (by omega) (by unfold p2;omega)
def lostOf (r:Int):Nat:=(max r 1).toNat+1
theorem lost_le {r:Int} (h0:0≤r) (h2:r≤2):2≤lostOf r∧lostOf r≤3:=by unfold lostOf;omega
theorem margin {r:Int} (h0:0≤r) (h2:r≤2) {n k:Nat} (hn:lostOf r≤n) (hk:k≤n - lostOf r):r*p2 k≤p2 (n - 2):=by
 have h1:r≤p2 (lostOf r - 2):=by
  unfold lostOf
  rcases (show r=0∨r=1∨r=2 by omega) with rfl|rfl|rfl
  ·exact Int.le_of_lt (p2_pos _)
  ·exact Int.le_refl _
  ·exact Int.le_refl _
 have h3:p2 (lostOf r - 2)*p2 k=p2 (lostOf r - 2+k):=by unfold p2;rw [Nat.pow_add,Int.natCast_mul]
 have h4:=Int.mul_le_mul_of_nonneg_right h1 (Int.le_of_lt (p2_pos k))
 rw [h3] at h4
 refine Int.le_trans h4 (p2_le ?_)
 unfold lostOf at *;omega
end Go.Proofs.Ev
end
section
namespace Go.Proofs.Hp
open Go Go.RowKit Ev
def pts (l:List (Int×Int)):List Value:=l.flatMap fun p=>[.int .i64 p.1,.int .i64 p.2]
theorem pts_length (l:List (Int×Int)):(pts l).length=l.length*2:=by
 unfold pts
 induction l with
 | nil=>rfl
 | cons p l ih=>simp only [List.flatMap_cons,List.length_append,List.length_cons,List.length_nil,ih];omega
theorem flat2_get {α:Type} (f g:α→Value):∀ (l:List α) (i:Nat) (p:α),l[i]?=some p→(l.flatMap fun p=>[f p,g p])[i*2]?=some (f p)∧(l.flatMap fun p=>[f p,g p])[i*2+1]?=some (g p)
 | [],i,p,h=>by simp at h
 | q::l,0,p,h=>by
  simp at h
  subst h
  simp
 | q::l,i+1,p,h=>by
  have h':l[i]?=some p:=by simpa using h
  obtain⟨h1,h2⟩:=flat2_get f g l i p h'
  rw [List.flatMap_cons,show (i+1)*2=i*2+1+1 by omega]
  simp only [List.cons_append,List.nil_append,List.getElem?_cons_succ]
  exact⟨h1,h2⟩
theorem pts_get {l:List (Int×Int)} {i:Nat} {p:Int×Int} (h:l[i]?=some p):(pts l)[i*2]?=some (.int .i64 p.1)∧(pts l)[i*2+1]?=some (.int .i64 p.2) :=
 flat2_get (fun p:Int×Int=>Value.int .i64 p.1) (fun p=>Value.int .i64 p.2) l i p h
def ncells (l:List (Int×List Int)) (vs:List Value):List Value:=(l.zip vs).flatMap fun p=>[.int .i64 p.1.1,p.2]
theorem ncells_get {l:List (Int×List Int)} {vs:List Value} {i:Nat} {x:Int×List Int} {u:Value} (h:l[i]?=some x) (hu:vs[i]?=some u):(ncells l vs)[i*2]?=some (.int .i64 x.1)∧(ncells l vs)[i*2+1]?=some u :=
 flat2_get (fun p:(Int×List Int)×Value=>Value.int .i64 p.1.1) (fun p=>p.2) (l.zip vs) i (x,u) (by rw [List.getElem?_zip_eq_some];exact⟨h,hu⟩)
def PtsAt (w:World) (v:Value) (l:List (Int×Int)):Prop:=Reads w v l.length 2 (pts l)
theorem PtsAt.fr {w w':World} {v:Value} {l:List (Int×Int)} (h:PtsAt w v l) (hf:Fr [] w w'):PtsAt w' v l:=Reads.fr h hf
theorem PtsAt.form {w:World} {v:Value} {l:List (Int×Int)} (h:PtsAt w v l):∃ a c,v=.slice a l.length c:=by
 obtain⟨_,a,c,h,_⟩:=h
 exact⟨a,c,h⟩
theorem PtsAt.cell {w:World} {a:Option Addr} {n c:Nat} {l:List (Int×Int)} (h:PtsAt w (.slice a n c) l) {i:Nat} {p:Int×Int} (hi:l[i]?=some p) :
  ∃ g off,a=some ⟨g,off,none⟩∧g<w.heap.size∧w.cell? ⟨g,off+i*2,none⟩=some (.int .i64 p.1)∧w.cell? ⟨g,off+i*2+1,none⟩=some (.int .i64 p.2):=by
 obtain⟨hl,a',c',he,hp⟩:=h
 cases he
 have hlt:=(List.getElem?_eq_some_iff.1 hi).1
 obtain⟨g,off,rfl,hg,hc⟩:=hp (by omega)
 obtain⟨h1,h2⟩:=pts_get hi
 exact⟨g,off,rfl,hg,hc _ _ h1,by rw [Nat.add_assoc];exact hc _ _ h2⟩
def NodesAt (w:World) (v:Value) (l:List (Int×List Int)):Prop:=∃ vs:List Value,Reads w v l.length 2 (ncells l vs)∧∀ (i:Nat) (x:Int×List Int),l[i]?=some x→∃ u,vs[i]?=some u∧IntsAt w u x.2
theorem NodesAt.fr {w w':World} {v:Value} {l:List (Int×List Int)} (h:NodesAt w v l) (hf:Fr [] w w'):NodesAt w' v l:=by
 obtain⟨vs,h1,h2⟩:=h
 refine⟨vs,h1.fr hf,fun i x hi=>?_⟩
 obtain⟨u,hu,hr⟩:=h2 i x hi
 exact⟨u,hu,hr.fr hf⟩
theorem NodesAt.form {w:World} {v:Value} {l:List (Int×List Int)} (h:NodesAt w v l):∃ a c,v=.slice a l.length c:=by
 obtain⟨_,⟨_,a,c,h,_⟩,_⟩:=h
 exact⟨a,c,h⟩
theorem NodesAt.node {w:World} {a:Option Addr} {n c:Nat} {l:List (Int×List Int)} (h:NodesAt w (.slice a n c) l) {i:Nat} {x:Int×List Int} (hi:l[i]?=some x) :
  ∃ g off ra rc,a=some ⟨g,off,none⟩∧g<w.heap.size∧w.cell? ⟨g,off+i*2,none⟩=some (.int .i64 x.1)∧w.cell? ⟨g,off+i*2+1,none⟩=some (.slice ra x.2.length rc)∧IntsAt w (.slice ra x.2.length rc) x.2:=by
 obtain⟨vs,⟨hl,a',c',he,hp⟩,h2⟩:=h
 cases he
 obtain⟨u,hu,hr⟩:=h2 i x hi
 obtain⟨ra,rc,rfl⟩:=hr.form
 have hlt:=(List.getElem?_eq_some_iff.1 hi).1
 obtain⟨g,off,rfl,hg,hc⟩:=hp (by omega)
 obtain⟨h3,h4⟩:=ncells_get hi hu
 exact⟨g,off,ra,rc,rfl,hg,hc _ _ h3,by rw [Nat.add_assoc];exact hc _ _ h4,hr⟩
def RuleAt (w:World) (hv nv:Value) (r:Rule):Prop:=PtsAt w hv r.hood∧NodesAt w nv r.nodes
theorem RuleAt.fr {w w':World} {hv nv:Value} {r:Rule} (h:RuleAt w hv nv r) (hf:Fr [] w w'):RuleAt w' hv nv r:=⟨h.1.fr hf,h.2.fr hf⟩
end Go.Proofs.Hp
end
section
namespace Go.Proofs.Ytppmnmheodimoaa
open Go Go.RowKit Rg Mp Hp Qs Ev
def CapOk:Value→Prop
 | .slice _ n c=>n≤c
 | _=>True
theorem owns_fits {w:World} {base e size n:Nat} {v:Value} {xs:List Value} (h:w.ownsRow base e size v n xs):CapOk v:=by
 rcases h.2 with ⟨h2,h0⟩|⟨g,cap,cur,hv,_,_,hc,_⟩
 ·rw [h2];exact Nat.le_refl 0
 ·rw [hv];exact hc
def ge (n:Nat):Nat→Prop:=fun g=>n≤g
def Gath (w:World) (base:Nat) (P:Nat→Prop) (v:Value) (L:List (List Int)):Prop :=
 ∃ vs,w.ownsRow base 71 1 v L.length vs∧∀ (i:Nat) (r:List Int),L[i]?=some r→∃ u,vs[i]?=some u∧IntsAt w u r∧CapOk u∧∀ g,u.ownBlock=some g→g<w.heap.size∧P g∧v.ownBlock≠some g
theorem Gath.nil (w:World) (base:Nat) (P:Nat→Prop):Gath w base P (.slice none 0 0) []:=⟨[],World.ownsRow_nil _ _ _ _,fun i r h=>by simp at h⟩
theorem Gath.fr {w w':World} {base:Nat} {P:Nat→Prop} {v:Value} {L:List (List Int)} (h:Gath w base P v L) (hf:Fr [] w w'):Gath w' base P v L:=by
 obtain⟨vs,ho,hr⟩:=h
 refine⟨vs,oOB ho fun g hg=>hf.block g (oLT ho hg) (by simp),fun i r hi=>?_⟩
 obtain⟨u,hu,h1,hft,h2⟩:=hr i r hi
 exact⟨u,hu,h1.fr hf,hft,fun g hg=>⟨by have:=(h2 g hg).1;have:=hf.size;omega,(h2 g hg).2⟩⟩
theorem Gath.frG {w w':World} {base:Nat} {P:Nat→Prop} {v:Value} {L:List (List Int)} (h:Gath w base P v L) {G:List Nat} (hf:Fr G w w') (hG:∀ x∈G,x<base∧¬ P x):Gath w' base P v L:=by
 obtain⟨vs,ho,hr⟩:=h
 refine⟨vs,oOB ho fun g hg=>hf.block g (oLT ho hg) (fun hx=>by have:=hG g hx;have:=owns_ge ho hg;omega),fun i r hi=>?_⟩
 obtain⟨u,hu,h1,hft,h2⟩:=hr i r hi
 exact⟨u,hu,Reads.keep h1 fun x hx hlt=>hf.block x hlt (fun hxg=>(hG x hxg).2 (h2 x hx).2.1),hft,fun g hg=>⟨by have:=(h2 g hg).1;have:=hf.size;omega,(h2 g hg).2⟩⟩
theorem Gath.rows {w:World} {base:Nat} {P:Nat→Prop} {v:Value} {L:List (List Int)} (h:Gath w base P v L):RowsAt w v L:=by
 obtain⟨vs,ho,hr⟩:=h
 exact RowsAt.of_owns ho fun i r hi=>by obtain⟨u,hu,h1,_⟩:=hr i r hi;exact⟨u,hu,h1⟩
theorem Gath.form {w:World} {base:Nat} {P:Nat→Prop} {v:Value} {L:List (List Int)} (h:Gath w base P v L):∃ a c,v=.slice a L.length c:=h.rows.form
theorem Gath.blk {w:World} {base:Nat} {P:Nat→Prop} {v:Value} {L:List (List Int)} (h:Gath w base P v L) {g:Nat} (hg:v.ownBlock=some g):g<w.heap.size:=by
 obtain⟨vs,ho,_⟩:=h
 exact oLT ho hg
theorem Gath.low {w:World} {base base':Nat} {P P':Nat→Prop} {v:Value} {L:List (List Int)} (h:Gath w base P v L) (hb:base'≤base) (hl:∀ g,P g→P' g):Gath w base' P' v L:=by
 obtain⟨vs,ho,hr⟩:=h
 refine⟨vs,owns_base ho hb,fun i r hi=>?_⟩
 obtain⟨u,hu,h1,hft,h2⟩:=hr i r hi
 exact⟨u,hu,h1,hft,fun g hg=>⟨(h2 g hg).1,hl g (h2 g hg).2.1,(h2 g hg).2.2⟩⟩
def RowsFit (w:World) (v:Value) (L:List (List Int)):Prop:=∃ vs:List Value,Reads w v L.length 1 vs∧∀ (i:Nat) (r:List Int),L[i]?=some r→∃ u,vs[i]?=some u∧IntsAt w u r∧CapOk u
theorem Gath.fit {w:World} {base:Nat} {P:Nat→Prop} {v:Value} {L:List (List Int)} (h:Gath w base P v L):RowsFit w v L:=by
 obtain⟨vs,ho,hr⟩:=h
 exact⟨vs,Reads.of_owns ho,fun i r hi=>by obtain⟨u,hu,h1,h2,_⟩:=hr i r hi;exact⟨u,hu,h1,h2⟩⟩
theorem RowsFit.fr {w w':World} {v:Value} {L:List (List Int)} (h:RowsFit w v L) (hf:Fr [] w w'):RowsFit w' v L:=by
 obtain⟨vs,h1,h2⟩:=h
 refine⟨vs,h1.fr hf,fun i r hi=>?_⟩
 obtain⟨u,hu,hr,hft⟩:=h2 i r hi
 exact⟨u,hu,hr.fr hf,hft⟩
theorem RowsFit.rows {w:World} {v:Value} {L:List (List Int)} (h:RowsFit w v L):RowsAt w v L:=by
 obtain⟨vs,h1,h2⟩:=h
 exact⟨vs,h1,fun i r hi=>by obtain⟨u,hu,h3,_⟩:=h2 i r hi;exact⟨u,hu,h3⟩⟩
theorem row_one {w:World} {a:Option Addr} {n c:Nat} {L:List (List Int)} (h:RowsAt w (.slice a n c) L) {i:Nat} {r:List Int} (hi:L[i]?=some r) (hr:0<r.length) :
  ∃ g off g2 off2 rc,a=some ⟨g,off,none⟩∧g<w.heap.size∧w.cell? ⟨g,off+i,none⟩=some (.slice (some ⟨g2,off2,none⟩) r.length rc)∧IntsAt w (.slice (some ⟨g2,off2,none⟩) r.length rc) r∧g2<w.heap.size:=by
 obtain⟨g,off,ra,rc,rfl,hg,hc,hint⟩:=h.row hi
 obtain⟨x,hx⟩:∃ x,r[0]?=some x:=⟨_,List.getElem?_eq_getElem hr⟩
 obtain⟨g2,off2,rfl,hg2,_⟩:=hint.cell hx
 exact⟨g,off,g2,off2,rc,rfl,hg,hc,hint,hg2⟩
theorem append_row {ops:Array Oper} {rest:List Oper} {o:Oper} {a:Act} {W:World} {Q:Exit→Act→World→Prop} (hgd:o.guard=none) {s x:Operand}
  (ho:o.op=.call { callee:=.builtin .append,args:=#[s,x],argTypes:=#[54,54] }) {base:Nat} {P:Nat→Prop} {v u:Value} {L:List (List Int)} {r:List Int} {nb c:Nat} (hs:a.eval s=v) (hx:a.eval x=.slice (some ⟨nb,0,none⟩) 1 c)
  (hg:Gath W base P v L) (hnb:W.heap[nb]?=some (.cells #[u] 71 (0,0))) (hu:IntsAt W u r) (huf:CapOk u) (hub:∀ g,u.ownBlock=some g→g<W.heap.size∧P g∧v.ownBlock≠some g) (hlen:L.length≤1000000) (hbase:base≤W.heap.size)
  (h:∀ v' w',Gath w' base P v' (L++[r])→Fr v.ownBlock.toList W w'→(v'.ownBlock=v.ownBlock∨v'.ownBlock=some W.heap.size)→wpList Try.prog ops Q rest (a.put o.dst v') w'):wpList Try.prog ops Q (o::rest) a W:=by
 obtain⟨vs,hown,hr⟩:=hg
 have hbig:L.length+1≤maxLen:=by
  have:(1000001:Nat)≤maxLen:=by decide
  omega
 refine append_new hgd ho (base:=base) (size:=1) (bytes:=24) (z:=.slice none 0 0) (e:=71) Try.underlying54 (by kernel_rfl) rfl (by decide) hs hown hx hnb rfl (by obtain⟨_,_,rfl,_⟩:=hu.2;intro y hy;simp at hy;subst hy;rfl) hbig (by omega) hbase ?_
 intro g cap w' h1 h2 h3 h4 h5
 have hsz:=h3.size
 refine h _ _ ⟨vs++[u],by simpa using h1,fun i r' hi=>?_⟩ h3 (by rcases h4 with h4|h4;exact .inl h4.symm;exact .inr (by rw [h4];rfl))
 have hvs:vs.length=L.length:=by have:=hown.1;omega
 have hkeep:∀ (y:Value) (q:List Int),IntsAt W y q→(∀ g,y.ownBlock=some g→g<W.heap.size∧P g∧v.ownBlock≠some g)→IntsAt w' y q∧∀ k,y.ownBlock=some k→k<w'.heap.size∧P k∧(Value.slice (some ⟨g,0,none⟩) (L.length+1) cap).ownBlock≠some k:=by
  intro y q hy hyb
  refine⟨Reads.keep hy fun x hx hlt=>h3.block x hlt ?_,fun k hk=>?_⟩
  ·have:=(hyb x hx).2.2
   cases hv:v.ownBlock with
   | none=>simp
   | some b=>rw [hv] at this;simp;intro e;exact this (by rw [e])
  ·obtain⟨h6,h8,h7⟩:=hyb k hk
   refine⟨by omega,h8,fun e=>?_⟩
   have e:g=k:=by simpa [Value.ownBlock] using e
   rcases h4 with h4|h4
   ·exact h7 (by rw [h4,e])
   ·omega
 by_cases hlt:i<L.length
 ·rw [List.getElem?_append_left hlt] at hi
  obtain⟨y,hy,hyr,hft,hyb⟩:=hr i r' hi
  obtain⟨h6,h7⟩:=hkeep y r' hyr hyb
  exact⟨y,by rw [List.getElem?_append_left (by omega)];exact hy,h6,hft,h7⟩
 ·have hi':=(List.getElem?_eq_some_iff.1 hi).1
  have:i=L.length:=by simp at hi';omega
  subst this
  rw [List.getElem?_append_right (Nat.le_refl _)] at hi
  simp at hi
  subst hi
  obtain⟨h6,h7⟩:=hkeep u r hu hub
  exact⟨u,by rw [← hvs];simp,h6,huf,h7⟩
theorem append_int {ops:Array Oper} {rest:List Oper} {o:Oper} {a:Act} {W:World} {Q:Exit→Act→World→Prop} (hgd:o.guard=none) {s x:Operand}
  (ho:o.op=.call { callee:=.builtin .append,args:=#[s,x],argTypes:=#[71,71] }) {base n:Nat} {v:Value} {l:List Int} {y:Int} {nb c:Nat} (hs:a.eval s=v) (hx:a.eval x=.slice (some ⟨nb,0,none⟩) 1 c)
  (hown:W.ownsRow base 3 1 v n (iv l)) (hnb:W.heap[nb]?=some (.cells #[.int .i64 y] 3 (0,0))) (hlen:n≤1000000) (hbase:base≤W.heap.size)
  (h:∀ v' w',w'.ownsRow base 3 1 v' (n+1) (iv (l++[y]))→Fr v.ownBlock.toList W w'→(v'.ownBlock=v.ownBlock∨v'.ownBlock=some W.heap.size)→wpList Try.prog ops Q rest (a.put o.dst v') w'):wpList Try.prog ops Q (o::rest) a W:=by
 have hbig:n+1≤maxLen:=by
  have:(1000001:Nat)≤maxLen:=by decide
  omega
 refine append_new hgd ho (base:=base) (size:=1) (bytes:=8) (z:=.int .i64 0) (e:=3) Try.underlying71 (by kernel_rfl) rfl (by decide) hs hown hx hnb rfl (by intro z hz;simp at hz;subst hz;rfl) hbig (by omega) hbase ?_
 intro g cap w' h1 h2 h3 h4 h5
 exact h _ _ (by simpa [iv] using h1) h3 (by rcases h4 with h4|h4;exact .inl h4.symm;exact .inr (by rw [h4];rfl))
theorem ints_of_owns {w:World} {base:Nat} {v:Value} {l:List Int} (h:w.ownsRow base 3 1 v l.length (iv l)):IntsAt w v l:=Reads.of_owns h
end Go.Proofs.Ytppmnmheodimoaa
end
section
namespace Go.Proofs.Ev
open Qs
section
variable {g:Fld→Fld} {lost n k:Nat} {t:Tr}
theorem mem_i9 {y x:Nat} (hy:y<3) (hx:x<3):(y,x)∈i9:=by
 unfold i9
 have:y=0∨y=1∨y=2:=by omega
 have:x=0∨x=1∨x=2:=by omega
 rcases ‹y=0∨_› with rfl|rfl|rfl<;>rcases ‹x=0∨_› with rfl|rfl|rfl<;>simp
theorem mem_i4 {y x:Nat} (hy:y<2) (hx:x<2):(y,x)∈i4:=by
 unfold i4
 have:y=0∨y=1:=by omega
 have:x=0∨x=1:=by omega
 rcases ‹y=0∨_› with rfl|rfl<;>rcases ‹x=0∨_› with rfl|rfl<;>simp
theorem need_part (h:lost<n+1) {y x:Nat} (hy:y<3) (hx:x<3):part9 t y x∈need g lost (n+1) k t:=by
 rw [need,if_neg (by omega)]
 simp only [List.mem_append,List.mem_flatMap]
 exact .inl (.inl ⟨(y,x),mem_i9 hy hx,by simp⟩)
theorem need_two (h:lost<n+1) (hk:k=n+1 - lost) {y x:Nat} (hy:y<3) (hx:x<3) {u:Tr} (hu:u∈need g lost n (k - 1) (part9 t y x)):u∈need g lost (n+1) k t:=by
 rw [need,if_neg (by omega)]
 simp only [List.mem_append,List.mem_flatMap]
 exact .inl (.inl ⟨(y,x),mem_i9 hy hx,by rw [if_pos hk];simp [hu]⟩)
theorem need_ctr (h:lost<n+1) (hk:k≠n+1 - lost) {y x:Nat} (hy:y<3) (hx:x<3):ctr (part9 t y x)∈need g lost (n+1) k t:=by
 rw [need,if_neg (by omega)]
 simp only [List.mem_append,List.mem_flatMap]
 exact .inl (.inl ⟨(y,x),mem_i9 hy hx,by rw [if_neg hk];simp⟩)
theorem need_out (h:lost<n+1) {y x:Nat} (hy:y<2) (hx:x<2):out4 g (n+1) k (decide (k=n+1 - lost)) t y x∈need g lost (n+1) k t:=by
 rw [need,if_neg (by omega)]
 simp only [List.mem_append,List.mem_flatMap]
 exact .inl (.inr ⟨(y,x),mem_i4 hy hx,by simp⟩)
theorem need_res (h:lost<n+1) {y x:Nat} (hy:y<2) (hx:x<2) {u:Tr} (hu:u∈need g lost n (if k=n+1 - lost then k - 1 else k) (out4 g (n+1) k (decide (k=n+1 - lost)) t y x)):u∈need g lost (n+1) k t:=by
 rw [need,if_neg (by omega)]
 simp only [List.mem_append,List.mem_flatMap]
 exact .inl (.inr ⟨(y,x),mem_i4 hy hx,by simp [hu]⟩)
theorem need_last (h:lost<n+1):stp g (n+1) k t∈need g lost (n+1) k t:=by
 rw [need,if_neg (by omega)]
 simp
theorem need_small (h:n+1≤lost):need g lost (n+1) k t=subs (stp g (n+1) k t):=by rw [need,if_pos h]
end
end Go.Proofs.Ev
namespace Go.Proofs.Qs
open Ev
def K4.get (k:K4):Nat→Int
 | 0=>k.a
 | 1=>k.b
 | 2=>k.c
 | _=>k.d
def nodeOf (s:Int) (ns:List K4) (id:Int):K4:=ns.getD (id - s).toNat ⟨0,0,0,0⟩
theorem Is.node {s:Int} {ns:List K4} (hg:GoodQ s ns) {n:Nat} {id:Int} {t:Tr} (h:Is s ns (n+1) id t) :
  s≤id∧ns[(id - s).toNat]?=some (nodeOf s ns id)∧∀ q,q<4→Is s ns n ((nodeOf s ns id).get q) (Tr.q t q):=by
 obtain⟨i,k,rfl,hk,ha,hb,hc,hd,_⟩:=h.kids hg
 have e:(s+(i:Int) - s).toNat=i:=by omega
 have e2:nodeOf s ns (s+(i:Int))=k:=by unfold nodeOf;rw [e,List.getD_eq_getElem?_getD,hk];rfl
 rw [e,e2]
 refine⟨by omega,hk,fun q hq=>?_⟩
 match q,hq with
 | 0,_=>exact ha
 | 1,_=>exact hb
 | 2,_=>exact hc
 | 3,_=>exact hd
def gid (s:Int) (ns:List K4) (id:Int) (y x:Nat):Int:=(nodeOf s ns ((nodeOf s ns id).get (2*(y / 2)+x / 2))).get (2*(y % 2)+x % 2)
theorem Is.gid {s:Int} {ns:List K4} (hg:GoodQ s ns) {n:Nat} {id:Int} {t:Tr} (h:Is s ns (n+2) id t) {y x:Nat} (hy:y<4) (hx:x<4):Is s ns n (gid s ns id y x) (g16 t y x) :=
 (((h.node hg).2.2 _ (by omega)).node hg).2.2 _ (by omega)
end Go.Proofs.Qs
end
section
namespace Go.Proofs.Mp
open Go
section
variable {P:Program} {T E:TypeId} {q:IntKind} {n:Nat}
def ints (q:IntKind) (xs:List Int):Array Value:=(xs.map (Value.int q)).toArray
theorem run_underlying' {t:TypeId} {d:TypeDesc} (h:P.underlying t=some d) (w:World):(Go.underlying t).run P w=.ok d w:=by unfold Go.underlying;simp [h]
theorem run_sizeOf' {t:TypeId} {s:Nat} (h:(P.info? t).map (·.size)=some s) (w:World):(Go.sizeOf t).run P w=.ok s w:=by
 unfold Go.sizeOf Go.typeInfo
 cases hi:P.info? t with
 | none=>rw [hi] at h;cases h
 | some i=>rw [hi] at h;simp at h;simp [hi,h]
theorem run_part_int (hE:P.underlying E=some (.int q)) {cs:Array Value} {off:Nat} {v:Value} (hv:cs[off]?=some v) (w:World):(Go.part E cs off).run P w=.ok v w:=by
 unfold Go.part Go.isAgg
 rw [Sem.run_bind,Sem.run_bind,run_underlying' hE]
 simp [hv]
theorem ints_get {xs:List Int} {i:Nat} (h:i<xs.length):(ints q xs)[i]?=some (.int q (xs[i])):=by simp [ints,h]
theorem run_equal_int (hE:P.underlying E=some (.int q)) (d:Nat) (x y:Int) (w:World):(Op.equalIn (d+1) E (.int q x) (.int q y)).run P w=.ok (x == y) w:=by
 unfold Op.equalIn
 rw [Sem.run_bind,run_underlying' hE]
 simp
theorem eq_loop (hE:P.underlying E=some (.int q)) (hs:(P.info? E).map (·.size)=some 1) (d:Nat) (xs ys:List Int) (hl:xs.length=ys.length):∀ (m i:Nat) (w:World),i+m=xs.length →
  (forIn (List.range' i m) ((none:Option Bool),()) (fun i s=>do
   let a ← Go.part E (ints q xs) (i*1)
   let b ← Go.part E (ints q ys) (i*1)
   let r ← Op.equalIn (d+1) E a b
   if (!r)=true then pure (ForInStep.done (some false,())) else pure (ForInStep.yield (none,())):Nat→Option Bool×Unit→Sem (ForInStep (Option Bool×Unit)))).run P w =
   .ok (if xs.drop i=ys.drop i then none else some false,()) w
 | 0,i,w,h=>by
  rw [List.drop_of_length_le (by omega),List.drop_of_length_le (by omega)]
  rfl
 | m+1,i,w,h=>by
  rw [List.range'_succ,List.forIn_cons,Sem.run_bind,Sem.run_bind,run_part_int hE (by rw [Nat.mul_one];exact ints_get (by omega))]
  simp only [Result.andThen_ok]
  rw [Sem.run_bind,run_part_int hE (by rw [Nat.mul_one];exact ints_get (by omega))]
  simp only [Result.andThen_ok]
  rw [Sem.run_bind,run_equal_int hE]
  simp only [Result.andThen_ok]
  have ex:xs.drop i=xs[i]::xs.drop (i+1):=List.drop_eq_getElem_cons (by omega)
  have ey:ys.drop i=ys[i]::ys.drop (i+1):=List.drop_eq_getElem_cons (by omega)
  rw [ex,ey]
  by_cases hxy:xs[i]=ys[i]
  ·simp only [hxy,beq_self_eq_true,Bool.not_true,Bool.false_eq_true,if_false,Sem.run_pure,Result.andThen_ok,List.cons.injEq,true_and]
   exact eq_loop hE hs d xs ys hl m (i+1) w (by omega)
  ·have hb:(xs[i] == ys[i])=false:=by simpa using hxy
   have hn:¬ (xs[i]::xs.drop (i+1)=ys[i]::ys.drop (i+1)):=fun e=>hxy (List.cons.inj e).1
   rw [if_neg hn]
   simp [hb]
theorem run_equalIn_ints (hT:P.underlying T=some (.array n E)) (hE:P.underlying E=some (.int q)) (hs:(P.info? E).map (·.size)=some 1) (d:Nat) (xs ys:List Int) (hx:xs.length=n) (hy:ys.length=n) (w:World) :
  (Op.equalIn (d+2) T (.agg (ints q xs)) (.agg (ints q ys))).run P w=.ok (decide (xs=ys)) w:=by
 show Sem.run P (Op.equalIn ((d+1)+1) _ _ _) w=_
 unfold Op.equalIn
 rw [Sem.run_bind,run_underlying' hT]
 simp only [Result.andThen_ok]
 rw [Sem.run_bind,run_sizeOf' hs]
 simp only [Result.andThen_ok]
 rw [Sem.run_bind,Std.Legacy.Range.forIn_eq_forIn_range']
 have hl:List.range' [:n].start [:n].size [:n].step=List.range' 0 n:=by simp [Std.Legacy.Range.size]
 rw [hl]
 have:=eq_loop hE hs d xs ys (by omega) n 0 w (by omega)
 rw [this]
 simp only [List.drop_zero,Result.andThen_ok]
 by_cases h:xs=ys<;>simp [h]
theorem check_loop (hE:P.underlying E=some (.int q)) (hs:(P.info? E).map (·.size)=some 1) (d:Nat) (e:Bool) (xs:List Int):∀ (m i:Nat) (w:World),i+m=xs.length →
  (forIn (List.range' i m) () (fun i s=>do
   let n ← Go.sizeOf E
   let a ← Go.part E (ints q xs) (i*n)
   Instr.checkKey e (d+1) E a
   pure (ForInStep.yield ()):Nat→Unit→Sem (ForInStep Unit))).run P w=.ok () w
 | 0,i,w,h=>rfl
 | m+1,i,w,h=>by
  have hc:∀ x:Int,(Instr.checkKey e (d+1) E (.int q x)).run P w=.ok () w:=by
   intro x
   unfold Instr.checkKey
   rw [Sem.run_bind,run_underlying' hE]
   simp
  rw [List.range'_succ,List.forIn_cons,Sem.run_bind,Sem.run_bind,run_sizeOf' hs]
  simp only [Result.andThen_ok]
  rw [Sem.run_bind,run_part_int hE (by rw [Nat.mul_one];exact ints_get (by omega))]
  simp only [Result.andThen_ok]
  rw [Sem.run_bind,hc]
  simp only [Result.andThen_ok,Sem.run_pure]
  exact check_loop hE hs d e xs m (i+1) w (by omega)
theorem run_checkKey_ints (hT:P.underlying T=some (.array n E)) (hE:P.underlying E=some (.int q)) (hs:(P.info? E).map (·.size)=some 1) (d:Nat) (e:Bool) (xs:List Int) (hx:xs.length=n) (w:World) :
  (Instr.checkKey e (d+2) T (.agg (ints q xs))).run P w=.ok () w:=by
 show Sem.run P (Instr.checkKey e ((d+1)+1) _ _) w=_
 unfold Instr.checkKey
 rw [Sem.run_bind,run_underlying' hT]
 simp only [Result.andThen_ok]
 rw [Std.Legacy.Range.forIn_eq_forIn_range']
 have hl:List.range' [:n].start [:n].size [:n].step=List.range' 0 n:=by simp [Std.Legacy.Range.size]
 rw [hl]
 rw [Sem.run_bind,check_loop hE hs d e xs n 0 w (by omega)]
 rfl
theorem sameBits_int (d:Nat) (x:Int):Instr.sameBits d (.int q x) (.int q x)=true:=by cases d<;>simp [Instr.sameBits]
theorem zip_same:∀ (l:List Value),(∀ v∈l,∀ d,Instr.sameBits d v v=true)→∀ d,(l.zip l).all (fun p=>Instr.sameBits d p.1 p.2)=true
 | [],_,_=>rfl
 | v::l,h,d=>by
  simp only [List.zip_cons_cons,List.all_cons,Bool.and_eq_true]
  exact⟨h v (by simp) d,zip_same l (fun u hu=>h u (by simp [hu])) d⟩
theorem sameBits_ints (d:Nat) (xs:List Int):Instr.sameBits (d+1) (.agg (ints q xs)) (.agg (ints q xs))=true:=by
 unfold Instr.sameBits
 simp only [beq_self_eq_true,Bool.true_and,ints]
 exact zip_same _ (fun v hv d=>by obtain⟨x,_,rfl⟩:=List.mem_map.1 hv;exact sameBits_int d x) d
theorem KeysBy.ints {κ:Type} [DecidableEq κ] (f:κ→List Int) (hf:∀ a b,f a=f b→a=b) (hn:∀ a,(f a).length=n) (hT:P.underlying T=some (.array n E)) (hE:P.underlying E=some (.int q)) (hs:(P.info? E).map (·.size)=some 1) :
  KeysBy P T (fun k=>Value.agg (Mp.ints q (f k))):=by
 refine KeysBy.deep hT (fun k v=>rfl) (fun a b w=>?_) (fun e k w=>run_checkKey_ints hT hE hs 9998 e (f k) (hn k) w) fun k=>sameBits_ints 9999 (f k)
 have:=run_equalIn_ints hT hE hs 9998 (f a) (f b) (hn a) (hn b) w
 show (Op.equalIn 10000 T _ _).run P w=_
 rw [this]
 congr 1
 by_cases h:a=b
 ·simp [h]
 ·have:¬ f a=f b:=fun e=>h (hf a b e)
  simp [h,this]
end
end Go.Proofs.Mp
end
section
namespace Go.Proofs.Ytppmnmheodimoaa
open Go Go.RowKit Mp Hp Qs
def kl (k:K4):List Int:=[k.a,k.b,k.c,k.d]
def kv (k:K4):Value:=.agg #[.int .i64 k.a,.int .i64 k.b,.int .i64 k.c,.int .i64 k.d]
theorem size_int:(Try.prog.info? 3).map (·.size)=some 1:=by kernel_rfl
theorem keys4:KeysBy Try.prog 75 kv :=
 KeysBy.ints (q:=.i64) kl (fun a b h=>by cases a;cases b;simpa [kl] using h) (fun _=>rfl) Try.underlying75 Try.underlying3 size_int
section
variable (w:World) (a b c d:Value)
theorem index4_0:(Instr.index 75 (.agg #[a,b,c,d]) (.int .i64 0)).run Try.prog w=.ok a w:=by kernel_rfl
theorem index4_1:(Instr.index 75 (.agg #[a,b,c,d]) (.int .i64 1)).run Try.prog w=.ok b w:=by kernel_rfl
theorem index4_2:(Instr.index 75 (.agg #[a,b,c,d]) (.int .i64 2)).run Try.prog w=.ok c w:=by kernel_rfl
theorem index4_3:(Instr.index 75 (.agg #[a,b,c,d]) (.int .i64 3)).run Try.prog w=.ok d w:=by kernel_rfl
end
theorem eq4 (w:World) (a b c d x y z u:Int):(Op.equalIn 10000 75 (.agg #[.int .i64 a,.int .i64 b,.int .i64 c,.int .i64 d]) (.agg #[.int .i64 x,.int .i64 y,.int .i64 z,.int .i64 u])).run Try.prog w =
  .ok (a == x && (b == y && (c == z && d == u))) w:=by
 refine (run_equalIn_ints (q:=.i64) Try.underlying75 Try.underlying3 size_int 9998 [a,b,c,d] [x,y,z,u] rfl rfl w).trans ?_
 congr 1
 rw [Bool.eq_iff_iff];simp
theorem eq4s (w:World) (a b c d x y z u:Int):(Op.equalIn 9999 75 (.agg #[.int .i64 a,.int .i64 b,.int .i64 c,.int .i64 d]) (.agg #[.int .i64 x,.int .i64 y,.int .i64 z,.int .i64 u])).run Try.prog w =
  .ok (a == x && (b == y && (c == z && d == u))) w:=by
 refine (run_equalIn_ints (q:=.i64) Try.underlying75 Try.underlying3 size_int 9997 [a,b,c,d] [x,y,z,u] rfl rfl w).trans ?_
 congr 1
 rw [Bool.eq_iff_iff];simp
attribute [go_sem] eq4 eq4s index4_0 index4_1 index4_2 index4_3
end Go.Proofs.Ytppmnmheodimoaa
end
