/- Own texts of this claim, part 11: no condition. -/
import Derived.Maps.AppendAt
import Derived.Laws.AppendOwnNone
import Derived.Test.YtdanghnadbkhfaaGreatZG8
import Derived.Test.YtdanghnadbkhfaaGreatZG3
import Derived.Test.YtdanghnadbkhfaaGreatZG9
import Derived.Test.YtdanghnadbkhfaaGreatZG2
set_option linter.unusedVariables false
set_option linter.unusedSimpArgs false
section
namespace Go.Proofs.Qs
theorem lvl_kn {s:Int} {ls:List Int} {id:Int} (_:0≤s) (h:0≤lvl s ls id):0≤id∧id<s+ls.length:=by
 unfold lvl at h
 by_cases h1:id<0
 ·rw [if_pos h1] at h;omega
 ·rw [if_neg h1] at h
  by_cases h2:id<s
  ·omega
  ·rw [if_neg h2] at h
   by_cases h3:id<s+ls.length
   ·omega
   ·rw [List.getD_eq_getElem?_getD,List.getElem?_eq_none (by omega)] at h
    simp at h
theorem lvl_tk {s:Int} {ns:List K4} {i:Nat} {id:Int} (h:id<s+i):lvl s (levs s (ns.take i)) id=lvl s (levs s ns) id:=by
 unfold lvl
 by_cases h1:id<0
 ·rw [if_pos h1,if_pos h1]
 ·rw [if_neg h1,if_neg h1]
  by_cases h2:id<s
  ·rw [if_pos h2,if_pos h2]
  ·rw [if_neg h2,if_neg h2,← levs_take,List.getD_eq_getElem?_getD,List.getD_eq_getElem?_getD,List.getElem?_take,if_pos (by omega)]
theorem good_kids {s:Int} {ns:List K4} (h:GoodQ s ns) {i:Nat} {k:K4} (hk:ns[i]?=some k) :
  (0≤k.a∧k.a<s+i)∧(0≤k.b∧k.b<s+i)∧(0≤k.c∧k.c<s+i)∧(0≤k.d∧k.d<s+i):=by
 have hs:0≤s:=by have:=h.1;omega
 have hi:=(List.getElem?_eq_some_iff.1 hk).1
 obtain⟨h0,h1,h2,h3,h4⟩:=h.2.2.2.2 i k hk
 have hl:(levs s (ns.take i)).length=i:=by rw [levs_length,List.length_take];omega
 have ka:=lvl_kn hs h0
 have kb:=lvl_kn hs (by rw [h2];exact h0)
 have kc:=lvl_kn hs (by rw [h3];exact h0)
 have kd:=lvl_kn hs (by rw [h4];exact h0)
 rw [hl] at ka kb kc kd
 exact⟨ka,kb,kc,kd⟩
theorem good_lvl {s:Int} {ns:List K4} (h:GoodQ s ns) {i:Nat} {k:K4} (hk:ns[i]?=some k) :
  lvl s (levs s ns) (s+i)=lvl s (levs s ns) k.a+1∧0≤lvl s (levs s ns) k.a∧lvl s (levs s ns) k.a<256∧lvl s (levs s ns) k.b=lvl s (levs s ns) k.a∧lvl s (levs s ns) k.c=lvl s (levs s ns) k.a∧lvl s (levs s ns) k.d=lvl s (levs s ns) k.a:=by
 have hs:=h.1
 have hi:=(List.getElem?_eq_some_iff.1 hk).1
 obtain⟨⟨_,ka⟩,⟨_,kb⟩,⟨_,kc⟩,⟨_,kd⟩⟩:=good_kids h hk
 obtain⟨h0,h1,h2,h3,h4⟩:=h.2.2.2.2 i k hk
 rw [lvl_tk ka] at h0 h1 h2 h3 h4
 rw [lvl_tk kb] at h2
 rw [lvl_tk kc] at h3
 rw [lvl_tk kd] at h4
 refine⟨?_,h0,h1,h2,h3,h4⟩
 have e:(levs s ns)[i]?=some (lvl s (levs s (ns.take i)) k.a+1):=by
  have h5:levs s (ns.take (i+1))=levs s (ns.take i)++[lvl s (levs s (ns.take i)) k.a+1]:=by
   rw [List.take_add_one,hk];exact levs_snoc s _ k
  have h6:=congrArg (fun l:List Int=>l[i]?) h5
  rw [← levs_take,List.getElem?_take,if_pos (by omega),List.getElem?_append_right (by rw [levs_length,List.length_take];omega),levs_length,List.length_take,Nat.min_eq_left (by omega),Nat.sub_self] at h6
  exact h6
 rw [lvl_tk ka] at e
 show (if s+(i:Int)<0 then -1 else if s+(i:Int)<s then 0 else (levs s ns).getD (s+(i:Int) - s).toNat (-1))=_
 rw [if_neg (by omega),if_neg (by omega),show (s+(i:Int) - s).toNat=i by omega,List.getD_eq_getElem?_getD,e];rfl
inductive Tr where
 | leaf (n:Int)
 | node (a b c d:Tr)
 deriving DecidableEq
def tget (s:Int) (l:List Tr) (id:Int):Tr:=if id<s then .leaf id else l.getD (id - s).toNat (.leaf 0)
def trs (s:Int) (ns:List K4):List Tr:=ns.foldl (fun l k=>l++[.node (tget s l k.a) (tget s l k.b) (tget s l k.c) (tget s l k.d)]) []
theorem trs_snoc (s:Int) (ns:List K4) (k:K4):trs s (ns++[k])=trs s ns++[.node (tget s (trs s ns) k.a) (tget s (trs s ns) k.b) (tget s (trs s ns) k.c) (tget s (trs s ns) k.d)]:=by simp [trs]
theorem trs_length (s:Int) (ns:List K4):(trs s ns).length=ns.length:=by
 rcases List.eq_nil_or_concat ns with rfl|⟨l,x,rfl⟩
 ·rfl
 ·rw [List.concat_eq_append,trs_snoc]
  simp [trs_length s l]
termination_by ns.length
decreasing_by simp_all
theorem trs_take (s:Int) (ns:List K4):∀ i,(trs s ns).take i=trs s (ns.take i):=by
 intro i
 rcases List.eq_nil_or_concat ns with rfl|⟨l,x,rfl⟩
 ·simp [trs]
 ·rw [List.concat_eq_append,trs_snoc]
  rcases Nat.lt_or_ge l.length i with h|h
  ·rw [List.take_of_length_le (by simp [trs_length];omega),List.take_of_length_le (by simp;omega),trs_snoc]
  ·rw [List.take_append_of_le_length (by simp [trs_length];omega),List.take_append_of_le_length h,trs_take s l i]
termination_by ns.length
decreasing_by simp_all
def tr (s:Int) (ns:List K4) (id:Int):Tr:=tget s (trs s ns) id
theorem tr_tk {s:Int} {ns:List K4} {i:Nat} {id:Int} (h:id<s+i):tr s (ns.take i) id=tr s ns id:=by
 unfold tr tget
 by_cases h2:id<s
 ·rw [if_pos h2,if_pos h2]
 ·rw [if_neg h2,if_neg h2,← trs_take,List.getD_eq_getElem?_getD,List.getD_eq_getElem?_getD,List.getElem?_take,if_pos (by omega)]
theorem tr_app {s:Int} {ns ms:List K4} {id:Int} (h:id<s+ns.length):tr s (ns++ms) id=tr s ns id:=by
 have:=tr_tk (s:=s) (ns:=ns++ms) (i:=ns.length) h
 rw [List.take_left'] at this
 ·exact this.symm
 ·rfl
theorem tr_leaf {s:Int} {ns:List K4} {id:Int} (h:id<s):tr s ns id=.leaf id:=by unfold tr tget;rw [if_pos h]
theorem tr_node {s:Int} {ns:List K4} (h:GoodQ s ns) {i:Nat} {k:K4} (hk:ns[i]?=some k):tr s ns (s+i)=.node (tr s ns k.a) (tr s ns k.b) (tr s ns k.c) (tr s ns k.d):=by
 have hi:=(List.getElem?_eq_some_iff.1 hk).1
 obtain⟨⟨_,ka⟩,⟨_,kb⟩,⟨_,kc⟩,⟨_,kd⟩⟩:=good_kids h hk
 have e:(trs s ns)[i]?=some (.node (tr s (ns.take i) k.a) (tr s (ns.take i) k.b) (tr s (ns.take i) k.c) (tr s (ns.take i) k.d)):=by
  have h5:trs s (ns.take (i+1))=trs s (ns.take i)++[.node (tr s (ns.take i) k.a) (tr s (ns.take i) k.b) (tr s (ns.take i) k.c) (tr s (ns.take i) k.d)]:=by
   rw [List.take_add_one,hk];exact trs_snoc s _ k
  have h6:=congrArg (fun l:List Tr=>l[i]?) h5
  rw [← trs_take,List.getElem?_take,if_pos (by omega),List.getElem?_append_right (by rw [trs_length,List.length_take];omega),trs_length,List.length_take,Nat.min_eq_left (by omega),Nat.sub_self] at h6
  exact h6
 rw [tr_tk ka,tr_tk kb,tr_tk kc,tr_tk kd] at e
 show (if s+(i:Int)<s then Tr.leaf _ else (trs s ns).getD (s+(i:Int) - s).toNat _)=_
 rw [if_neg (by omega),show (s+(i:Int) - s).toNat=i by omega,List.getD_eq_getElem?_getD,e];rfl
def Kn (s:Int) (ns:List K4) (id:Int):Prop:=0≤id∧id<s+ns.length
instance (s:Int) (ns:List K4) (id:Int):Decidable (Kn s ns id):=by unfold Kn;exact inferInstance
theorem Kn.cases {s:Int} {ns:List K4} {id:Int} (h:Kn s ns id):(0≤id∧id<s)∨∃ i k,id=s+(i:Nat)∧ns[i]?=some k:=by
 by_cases h1:id<s
 ·exact .inl ⟨h.1,h1⟩
 ·right
  have:=h.2
  exact⟨(id - s).toNat,ns[(id - s).toNat]'(by omega),by omega,List.getElem?_eq_getElem _⟩
theorem tr_inj {s:Int} {ns:List K4} (h:GoodQ s ns):∀ (n:Nat) {x y:Int},x<s+n→Kn s ns x→Kn s ns y→tr s ns x=tr s ns y→x=y
 | 0,x,y,hx,kx,ky,he=>by
  rw [tr_leaf (by omega)] at he
  rcases ky.cases with ⟨_,hy⟩|⟨j,k,rfl,hk⟩
  ·rw [tr_leaf hy] at he;cases he;rfl
  ·rw [tr_node h hk] at he;cases he
 | n+1,x,y,hx,kx,ky,he=>by
  rcases kx.cases with ⟨_,hxs⟩|⟨i,k,rfl,hk⟩
  ·exact tr_inj h n (by omega) kx ky he
  ·rcases ky.cases with ⟨_,hy⟩|⟨j,l,rfl,hl⟩
   ·rw [tr_leaf hy,tr_node h hk] at he;cases he
   ·rw [tr_node h hk,tr_node h hl] at he
    injection he with e1 e2 e3 e4
    obtain⟨a1,b1,c1,d1⟩:=good_kids h hk
    obtain⟨a2,b2,c2,d2⟩:=good_kids h hl
    have hi:=(List.getElem?_eq_some_iff.1 hk).1
    have hj:=(List.getElem?_eq_some_iff.1 hl).1
    have f1:=tr_inj h n (by omega) ⟨a1.1,by omega⟩ ⟨a2.1,by omega⟩ e1
    have f2:=tr_inj h n (by omega) ⟨b1.1,by omega⟩ ⟨b2.1,by omega⟩ e2
    have f3:=tr_inj h n (by omega) ⟨c1.1,by omega⟩ ⟨c2.1,by omega⟩ e3
    have f4:=tr_inj h n (by omega) ⟨d1.1,by omega⟩ ⟨d2.1,by omega⟩ e4
    have hkl:k=l:=by
     cases k;cases l
     simp only at f1 f2 f3 f4
     rw [f1,f2,f3,f4]
    subst hkl
    have:=(List.getElem?_inj hi h.2.2.2.1).1 (hk.trans hl.symm)
    omega
def Tr.ht:Tr→Nat
 | .leaf _=>0
 | .node a _ _ _=>a.ht+1
theorem lvl_ht {s:Int} {ns:List K4} (h:GoodQ s ns):∀ (n:Nat) {x:Int},x<s+n→Kn s ns x→lvl s (levs s ns) x=(tr s ns x).ht
 | 0,x,hx,kx=>by
  rw [tr_leaf (by omega)]
  unfold lvl
  rw [if_neg (by have:=kx.1;omega),if_pos (by omega)];rfl
 | n+1,x,hx,kx=>by
  rcases kx.cases with ⟨h0,hxs⟩|⟨i,k,rfl,hk⟩
  ·rw [tr_leaf hxs]
   unfold lvl
   rw [if_neg (by omega),if_pos hxs];rfl
  ·obtain⟨a1,_⟩:=good_kids h hk
   have hi:=(List.getElem?_eq_some_iff.1 hk).1
   rw [tr_node h hk,(good_lvl h hk).1,lvl_ht h n (by omega) ⟨a1.1,by omega⟩]
   show _=(((tr s ns k.a).ht+1:Nat):Int)
   omega
theorem kn_lvl {s:Int} {ns:List K4} (h:GoodQ s ns) (id:Int):0≤lvl s (levs s ns) id↔Kn s ns id:=by
 constructor
 ·intro hl
  have:=lvl_kn (by have:=h.1;omega) hl
  rwa [levs_length] at this
 ·intro hk
  rw [lvl_ht h ns.length (by have:=hk.2;omega) hk];omega
end Go.Proofs.Qs
end
section
namespace Go.Proofs.Ev
open Qs
abbrev Fld:=Int→Int→Int
def p2 (n:Nat):Int:=((2 ^ n:Nat):Int)
def mk:Nat→Fld→Int→Int→Tr
 | 0,F,x,y=>.leaf (F x y)
 | n+1,F,x,y=>.node (mk n F x y) (mk n F (x+p2 n) y) (mk n F x (y+p2 n)) (mk n F (x+p2 n) (y+p2 n))
def Full:Nat→Tr→Prop
 | 0,.leaf _=>True
 | n+1,.node a b c d=>Full n a∧Full n b∧Full n c∧Full n d
 | _,_=>False
def cell:Nat→Tr→Fld
 | 0,.leaf v=>fun _ _=>v
 | n+1,.node a b c d=>fun x y=>if y<p2 n then (if x<p2 n then cell n a x y else cell n b (x - p2 n) y) else (if x<p2 n then cell n c x (y - p2 n) else cell n d (x - p2 n) (y - p2 n))
 | _,_=>fun _ _=>0
theorem full_ht:∀ (n:Nat) {t:Tr},Full n t→t.ht=n
 | 0,.leaf v,_=>rfl
 | 0,.node _ _ _ _,h=>h.elim
 | n+1,.leaf _,h=>h.elim
 | n+1,.node a b c d,h=>by show a.ht+1=n+1;rw [full_ht n h.1]
def Tr.q:Tr→Nat→Tr
 | .node a _ _ _,0=>a
 | .node _ b _ _,1=>b
 | .node _ _ c _,2=>c
 | .node _ _ _ d,_+3=>d
 | .leaf v,_=>.leaf v
end Go.Proofs.Ev
end
section
namespace Go.Proofs.Qs
open Ev
def Tr.ok (s:Int):Tr→Prop
 | .leaf v=>0≤v∧v<s
 | .node a b c d=>a.ok s∧b.ok s∧c.ok s∧d.ok s
def Is (s:Int) (ns:List K4) (n:Nat) (id:Int) (t:Tr):Prop:=Kn s ns id∧tr s ns id=t∧Full n t∧t.ok s
theorem Is.grow {s:Int} {ns ms:List K4} {n:Nat} {id:Int} {t:Tr} (h:Is s ns n id t) (hp:ns <+: ms):Is s ms n id t:=by
 obtain⟨xs,rfl⟩:=hp
 obtain⟨hk,ht,hf⟩:=h
 refine⟨⟨hk.1,by have:=hk.2;simp;omega⟩,?_,hf⟩
 rw [tr_app hk.2,ht]
theorem Is.lvl {s:Int} {ns:List K4} (hg:GoodQ s ns) {n:Nat} {id:Int} {t:Tr} (h:Is s ns n id t):lvl s (levs s ns) id=n:=by
 obtain⟨hk,ht,hf,_⟩:=h
 rw [lvl_ht hg ns.length (by have:=hk.2;omega) hk,ht,full_ht n hf]
theorem Is.inj {s:Int} {ns:List K4} (hg:GoodQ s ns) {n m:Nat} {x y:Int} {t:Tr} (h:Is s ns n x t) (h':Is s ns m y t):x=y :=
 tr_inj hg ns.length (by have:=h.1.2;omega) h.1 h'.1 (h.2.1.trans h'.2.1.symm)
theorem good_full {s:Int} {ns:List K4} (h:GoodQ s ns):∀ (m:Nat) {x:Int},x<s+m→Kn s ns x→Full (tr s ns x).ht (tr s ns x)∧(tr s ns x).ok s
 | 0,x,hx,kx=>by rw [tr_leaf (by omega)];exact⟨trivial,kx.1,by omega⟩
 | m+1,x,hx,kx=>by
  rcases kx.cases with ⟨h0,hxs⟩|⟨i,k,rfl,hk⟩
  ·rw [tr_leaf hxs];exact⟨trivial,h0,hxs⟩
  ·obtain⟨ka,kb,kc,kd⟩:=good_kids h hk
   obtain⟨_,_,_,lb,lc,ld⟩:=good_lvl h hk
   have hi:=(List.getElem?_eq_some_iff.1 hk).1
   have na:Kn s ns k.a:=⟨ka.1,by omega⟩
   have nb:Kn s ns k.b:=⟨kb.1,by omega⟩
   have nc:Kn s ns k.c:=⟨kc.1,by omega⟩
   have nd:Kn s ns k.d:=⟨kd.1,by omega⟩
   have fa:=good_full h m (x:=k.a) (by omega) na
   have fb:=good_full h m (x:=k.b) (by omega) nb
   have fc:=good_full h m (x:=k.c) (by omega) nc
   have fd:=good_full h m (x:=k.d) (by omega) nd
   rw [lvl_ht h ns.length (by have:=nb.2;omega) nb,lvl_ht h ns.length (by have:=na.2;omega) na] at lb
   rw [lvl_ht h ns.length (by have:=nc.2;omega) nc,lvl_ht h ns.length (by have:=na.2;omega) na] at lc
   rw [lvl_ht h ns.length (by have:=nd.2;omega) nd,lvl_ht h ns.length (by have:=na.2;omega) na] at ld
   rw [tr_node h hk]
   refine⟨⟨fa.1,?_,?_,?_⟩,fa.2,fb.2,fc.2,fd.2⟩
   ·rw [show (tr s ns k.a).ht=(tr s ns k.b).ht by omega];exact fb.1
   ·rw [show (tr s ns k.a).ht=(tr s ns k.c).ht by omega];exact fc.1
   ·rw [show (tr s ns k.a).ht=(tr s ns k.d).ht by omega];exact fd.1
theorem Is.of_lvl {s:Int} {ns:List K4} (hg:GoodQ s ns) {id:Int} {n:Nat} (h:Go.Proofs.Qs.lvl s (levs s ns) id=n):Is s ns n id (tr s ns id):=by
 have hk:Kn s ns id:=(kn_lvl hg id).1 (by omega)
 have hf:=good_full hg ns.length (x:=id) (by have:=hk.2;omega) hk
 rw [lvl_ht hg ns.length (by have:=hk.2;omega) hk] at h
 refine⟨hk,rfl,?_,hf.2⟩
 rw [show n=(tr s ns id).ht by omega]
 exact hf.1
theorem Is.leaf {s:Int} {ns:List K4} {v:Int} (h:0≤v) (h':v<s):Is s ns 0 v (.leaf v):=⟨⟨h,by omega⟩,tr_leaf h',trivial,h,h'⟩
theorem Is.zero {s:Int} {ns:List K4} (hg:GoodQ s ns) {v:Int} {t:Tr} (h:Is s ns 0 v t):0≤v∧v<s∧t=.leaf v:=by
 obtain⟨hk,ht,hf,hok⟩:=h
 rcases hk.cases with ⟨h0,h1⟩|⟨i,k,rfl,hi⟩
 ·exact⟨h0,h1,by rw [← ht,tr_leaf h1]⟩
 ·rw [tr_node hg hi] at ht
  subst ht
  exact hf.elim
theorem Is.kids {s:Int} {ns:List K4} (hg:GoodQ s ns) {n:Nat} {id:Int} {t:Tr} (h:Is s ns (n+1) id t) :
  ∃ i k,id=s+(i:Nat)∧ns[i]?=some k∧Is s ns n k.a (Tr.q t 0)∧Is s ns n k.b (Tr.q t 1)∧Is s ns n k.c (Tr.q t 2)∧Is s ns n k.d (Tr.q t 3)∧t=.node (Tr.q t 0) (Tr.q t 1) (Tr.q t 2) (Tr.q t 3):=by
 obtain⟨hk,ht,hf,hok⟩:=h
 rcases hk.cases with ⟨h0,h1⟩|⟨i,k,rfl,hi⟩
 ·rw [tr_leaf h1] at ht
  subst ht
  exact hf.elim
 ·obtain⟨ka,kb,kc,kd⟩:=good_kids hg hi
  have hl:=(List.getElem?_eq_some_iff.1 hi).1
  rw [tr_node hg hi] at ht
  subst ht
  exact⟨i,k,rfl,hi,⟨⟨ka.1,by omega⟩,rfl,hf.1,hok.1⟩,⟨⟨kb.1,by omega⟩,rfl,hf.2.1,hok.2.1⟩,⟨⟨kc.1,by omega⟩,rfl,hf.2.2.1,hok.2.2.1⟩,⟨⟨kd.1,by omega⟩,rfl,hf.2.2.2,hok.2.2.2⟩,rfl⟩
theorem Is.fits {s:Int} {ns:List K4} (hg:GoodQ s ns) {n:Nat} (hn:n<256) {a b c d:Int} {ta tb tc td:Tr} (ha:Is s ns n a ta) (hb:Is s ns n b tb) (hc:Is s ns n c tc) (hd:Is s ns n d td):Fits s ns ⟨a,b,c,d⟩:=by
 have la:=ha.lvl hg
 have lb:=hb.lvl hg
 have lc:=hc.lvl hg
 have ld:=hd.lvl hg
 unfold Fits
 simp only
 rw [la,lb,lc,ld]
 omega
def room (s:Int) (ns:List K4) (L:List Tr):Prop:=ns.length+(L.filter fun t=>decide (t∉trs s ns)).length≤90000
theorem room.len {s:Int} {ns:List K4} {L:List Tr} (h:room s ns L):ns.length≤90000:=by unfold room at h;omega
theorem room.of_len {s:Int} {ns:List K4} {L:List Tr} (h:ns.length+L.length≤90000):room s ns L:=by
 have:=List.length_filter_le (fun t=>decide (t∉trs s ns)) L
 unfold room;omega
theorem trs_mem {s:Int} {ns:List K4} (hg:GoodQ s ns) {i:Nat} {k:K4} (hk:ns[i]?=some k):(trs s ns)[i]?=some (.node (tr s ns k.a) (tr s ns k.b) (tr s ns k.c) (tr s ns k.d)):=by
 have h:=tr_node hg hk
 have hi:=(List.getElem?_eq_some_iff.1 hk).1
 unfold tr tget at h
 rw [if_neg (by omega),show (s+(i:Int) - s).toNat=i by omega,List.getD_eq_getElem?_getD,List.getElem?_eq_getElem (by rw [trs_length];exact hi)] at h
 rw [List.getElem?_eq_getElem (by rw [trs_length];exact hi)]
 exact congrArg some h
theorem filter_drop {α:Type} [DecidableEq α] {l m:List α} {x:α} (hx:x∈l) (hm:x∉m):(l.filter fun t=>decide (t∉m++[x])).length+1≤(l.filter fun t=>decide (t∉m)).length:=by
 have hle:∀ l:List α,(l.filter fun t=>decide (t∉m++[x])).length≤(l.filter fun t=>decide (t∉m)).length:=by
  intro l
  induction l with
  | nil=>simp
  | cons y l ih =>
   simp only [List.filter_cons]
   by_cases h1:y∉m++[x]
   ·have h2:y∉m:=fun h=>h1 (by simp [h])
    simp [h1,h2] at ih ⊢
    exact ih
   ·have:decide (y∉m++[x])=false:=by simpa using h1
    rw [this]
    simp only [Bool.false_eq_true,if_false]
    split
    ·simp only [List.length_cons];omega
    ·exact ih
 induction l with
 | nil=>cases hx
 | cons y l ih =>
  simp only [List.filter_cons]
  by_cases hy:y=x
  ·subst hy
   have h1:decide (y∉m++[y])=false:=by simp
   have h2:decide (y∉m)=true:=by simpa using hm
   rw [h1,h2]
   simp only [Bool.false_eq_true,if_false,if_true,List.length_cons]
   have:=hle l
   omega
  ·have hx':x∈l:=by
    rw [List.mem_cons] at hx
    rcases hx with h|h
    ·exact absurd h.symm hy
    ·exact h
   have:=ih hx'
   by_cases h1:y∉m
   ·have h2:decide (y∉m++[x])=true:=by simp [h1,hy]
    have h3:decide (y∉m)=true:=by simpa using h1
    rw [h2,h3]
    simp only [if_true,List.length_cons]
    omega
   ·have h2:decide (y∉m++[x])=false:=by simp at h1;simp [h1]
    have h3:decide (y∉m)=false:=by simpa using h1
    rw [h2,h3]
    simpa using this
theorem join_room {s:Int} {ns:List K4} (hg:GoodQ s ns) {L:List Tr} (hr:room s ns L) {n:Nat} (hn:n<256) {a b c d:Int} {ta tb tc td:Tr} (ha:Is s ns n a ta) (hb:Is s ns n b tb) (hc:Is s ns n c tc) (hd:Is s ns n d td)
  (hL:Tr.node ta tb tc td∈L):∃ id ms,join s ns ⟨a,b,c,d⟩=((id,0),ms)∧GoodQ s ms∧ns <+: ms∧room s ms L∧Is s ms (n+1) id (.node ta tb tc td):=by
 have hf:=Is.fits hg hn ha hb hc hd
 have h0:join s ns ⟨a,b,c,d⟩=joinIn s ns ⟨a,b,c,d⟩:=by
  unfold join
  rw [if_neg,if_neg (by simpa using hf)]
  have la:=ha.lvl hg
  have lb:=hb.lvl hg
  have lc:=hc.lvl hg
  have ld:=hd.lvl hg
  simp only [la,lb,lc,ld]
  omega
 have hfull:Full (n+1) (.node ta tb tc td):=⟨ha.2.2.1,hb.2.2.1,hc.2.2.1,hd.2.2.1⟩
 have hok:(Tr.node ta tb tc td).ok s:=⟨ha.2.2.2,hb.2.2.2,hc.2.2.2,hd.2.2.2⟩
 cases hi:ns.idxOf? ⟨a,b,c,d⟩ with
 | some i =>
  obtain⟨hlt,he,_⟩:=List.idxOf?_eq_some_iff.1 hi
  have hk:ns[i]?=some ⟨a,b,c,d⟩:=by rw [List.getElem?_eq_getElem hlt,he]
  refine⟨s+i,ns,by rw [h0,joinIn_hit hi],hg,List.prefix_refl _,hr,⟨by have:=hg.1;omega,by omega⟩,?_,hfull,hok⟩
  rw [tr_node hg hk,ha.2.1,hb.2.1,hc.2.1,hd.2.1]
 | none =>
  have hnm:(⟨a,b,c,d⟩:K4)∉ns:=List.idxOf?_eq_none_iff.1 hi
  have hT:Tr.node ta tb tc td∉trs s ns:=by
   intro hm
   obtain⟨i,hi',he⟩:=List.mem_iff_getElem.1 hm
   rw [trs_length] at hi'
   have h1:Kn s ns (s+i):=⟨by have:=hg.1;omega,by omega⟩
   have hk:ns[i]?=some ns[i]:=List.getElem?_eq_getElem hi'
   have h2:=trs_mem hg hk
   rw [List.getElem?_eq_getElem (by rw [trs_length];exact hi'),he] at h2
   injection h2 with h2
   injection h2 with e1 e2 e3 e4
   obtain⟨ka,kb,kc,kd⟩:=good_kids hg hk
   have f1:=tr_inj hg ns.length (x:=a) (y:=(ns[i]).a) (by have:=ha.1.2;omega) ha.1 ⟨ka.1,by omega⟩ (ha.2.1.trans e1)
   have f2:=tr_inj hg ns.length (x:=b) (y:=(ns[i]).b) (by have:=hb.1.2;omega) hb.1 ⟨kb.1,by omega⟩ (hb.2.1.trans e2)
   have f3:=tr_inj hg ns.length (x:=c) (y:=(ns[i]).c) (by have:=hc.1.2;omega) hc.1 ⟨kc.1,by omega⟩ (hc.2.1.trans e3)
   have f4:=tr_inj hg ns.length (x:=d) (y:=(ns[i]).d) (by have:=hd.1.2;omega) hd.1 ⟨kd.1,by omega⟩ (hd.2.1.trans e4)
   apply hnm
   rw [f1,f2,f3,f4]
   exact List.getElem_mem hi'
  have hlt:ns.length<100000:=by
   have:1≤(L.filter fun t=>decide (t∉trs s ns)).length:=List.length_pos_of_mem (List.mem_filter.2 ⟨hL,by simpa using hT⟩)
   unfold room at hr;omega
  have hg':=hg.snoc hf hnm hlt
  have hpre:ns <+: ns++[⟨a,b,c,d⟩]:=List.prefix_append _ _
  have ha':=ha.grow hpre
  have hb':=hb.grow hpre
  have hc':=hc.grow hpre
  have hd':=hd.grow hpre
  refine⟨s+ns.length,ns++[⟨a,b,c,d⟩],by rw [h0,joinIn_new hi hlt],hg',hpre,?_,⟨by have:=hg.1;omega,by simp;omega⟩,?_,hfull,hok⟩
  ·unfold room at hr ⊢
   rw [trs_snoc,show (Tr.node (tget s (trs s ns) a) (tget s (trs s ns) b) (tget s (trs s ns) c) (tget s (trs s ns) d))=.node ta tb tc td by rw [← ha.2.1,← hb.2.1,← hc.2.1,← hd.2.1];rfl]
   have:=filter_drop hL hT
   simp only [List.length_append,List.length_cons,List.length_nil]
   omega
  ·rw [tr_node hg' (i:=ns.length) (k:=⟨a,b,c,d⟩) (by simp),ha'.2.1,hb'.2.1,hc'.2.1,hd'.2.1]
end Go.Proofs.Qs
namespace Go.Proofs.Ev
open Qs
end Go.Proofs.Ev
end
section
namespace Go.Proofs.Ev
open Qs
structure Rule where
 S:Int
 hood:List (Int×Int)
 nodes:List (Int×List Int)
def before (p q:Int×Int):Bool:=decide (p.2<q.2∨p.2=q.2∧p.1<q.1)
def near2 (p:Int×Int):Bool:=decide (-2≤p.1∧p.1≤2∧-2≤p.2∧p.2≤2)
def hoodAt (l:List (Int×Int)) (i:Nat):Bool:=near2 (l.getD i (0,0)) && (decide (i=0) || before (l.getD (i - 1) (0,0)) (l.getD i (0,0)))
def hoodR (l:List (Int×Int)):Bool:=decide (1≤l.length) && decide (l.length≤25) && (List.range l.length).all (hoodAt l)
def levelAt (r:Rule) (k:Int):Int:=(r.nodes.getD k.toNat (0,[])).1
def entOK (r:Rule) (lv:Int) (i:Nat) (k:Int):Bool:=decide (0≤k) && (if lv=1 then decide (k<r.S) else true) && (if 1<lv then decide (k<i∧levelAt r k=lv - 1) else true)
def nodeOK (r:Rule) (i:Nat):Bool :=
 decide (1≤(r.nodes.getD i (0,[])).1∧(r.nodes.getD i (0,[])).1≤r.hood.length∧(((r.nodes.getD i (0,[])).2.length:Nat):Int)=r.S) && (r.nodes.getD i (0,[])).2.all (entOK r (r.nodes.getD i (0,[])).1 i)
def rightR (r:Rule):Bool:=decide (2≤r.S∧r.S≤8) && hoodR r.hood && decide (1≤r.nodes.length∧r.nodes.length≤4096) && decide (levelAt r (r.nodes.length - 1:Int)=r.hood.length) && (List.range r.nodes.length).all (nodeOK r)
section
variable {r:Rule} (h:rightR r=true)
include h
end
end Go.Proofs.Ev
end
section
namespace Go.Proofs.Ev
open Qs
end Go.Proofs.Ev
end
section
namespace Go.Proofs.Ev
open Qs
section
variable {g:Fld→Fld} {lost n k:Nat} {t:Tr}
end
end Go.Proofs.Ev
namespace Go.Proofs.Qs
open Ev
def K4.get (k:K4):Nat→Int
 | 0=>k.a
 | 1=>k.b
 | 2=>k.c
 | _=>k.d
def nodeOf (s:Int) (ns:List K4) (id:Int):K4:=ns.getD (id - s).toNat ⟨0,0,0,0⟩
theorem Is.node {s:Int} {ns:List K4} (hg:GoodQ s ns) {n:Nat} {id:Int} {t:Tr} (h:Is s ns (n+1) id t) :
  s≤id∧ns[(id - s).toNat]?=some (nodeOf s ns id)∧∀ q,q<4→Is s ns n ((nodeOf s ns id).get q) (Tr.q t q):=by
 obtain⟨i,k,rfl,hk,ha,hb,hc,hd,_⟩:=h.kids hg
 have e:(s+(i:Int) - s).toNat=i:=by omega
 have e2:nodeOf s ns (s+(i:Int))=k:=by unfold nodeOf;rw [e,List.getD_eq_getElem?_getD,hk];rfl
 rw [e,e2]
 refine⟨by omega,hk,fun q hq=>?_⟩
 match q,hq with
 | 0,_=>exact ha
 | 1,_=>exact hb
 | 2,_=>exact hc
 | 3,_=>exact hd
end Go.Proofs.Qs
end
section
namespace Go.Proofs.Mp
open Go
section
variable {P:Program} {T E:TypeId} {q:IntKind} {f1 f2:Field}
def pairV (q:IntKind) (k:Int×Int):Value:=.agg #[.int q k.1,.int q k.2]
theorem run_program (w:World):(Go.program:Sem Program).run P w=.ok P w:=rfl
theorem run_equalIn_pair (hT : P.underlying T = some (.struct #[f1, f2])) (t1 : f1.type = E) (t2 : f2.type = E) (o1 : f1.offset = 0) (o2 : f2.offset = 1) (n1 : f1.name ≠ "_") (n2 : f2.name ≠ "_") (hE : P.underlying E = some (.int q)) (hst : P.stoodInHeld T = false)
  (d:Nat) (x y:Int×Int) (w:World):(Op.equalIn (d+2) T (pairV q x) (pairV q y)).run P w=.ok (decide (x=y)) w:=by
 obtain⟨a,b⟩:=x
 obtain⟨c,e⟩:=y
 show Sem.run P (Op.equalIn ((d+1)+1) _ _ _) w=_
 unfold Op.equalIn pairV
 rw [Sem.run_bind,run_underlying' hT]
 simp only [Result.andThen_ok]
 simp [run_program,hst,n1,n2,t1,t2,o1,o2,Result.andThen_ok,run_part_int hE,run_equal_int hE]
 by_cases h1:a=c<;>by_cases h2:b=e<;>simp [h1,h2]
theorem run_checkKey_pair (hT : P.underlying T = some (.struct #[f1, f2])) (t1 : f1.type = E) (t2 : f2.type = E) (o1 : f1.offset = 0) (o2 : f2.offset = 1) (n1 : f1.name ≠ "_") (n2 : f2.name ≠ "_") (hE : P.underlying E = some (.int q))
  (d:Nat) (e:Bool) (x:Int×Int) (w:World):(Instr.checkKey e (d+2) T (pairV q x)).run P w=.ok () w:=by
 obtain⟨a,b⟩:=x
 have hc:∀ (x:Int) w,(Instr.checkKey e (d+1) E (.int q x)).run P w=.ok () w:=by
  intro x w
  unfold Instr.checkKey
  rw [Sem.run_bind,run_underlying' hE]
  simp
 show Sem.run P (Instr.checkKey e ((d+1)+1) _ _) w=_
 unfold Instr.checkKey pairV
 rw [Sem.run_bind,run_underlying' hT]
 simp only [Result.andThen_ok]
 simp [n1,n2,t1,t2,o1,o2,Result.andThen_ok,run_part_int hE,hc]
theorem KeysBy.pair (hT : P.underlying T = some (.struct #[f1, f2])) (t1 : f1.type = E) (t2 : f2.type = E) (o1 : f1.offset = 0) (o2 : f2.offset = 1) (n1 : f1.name ≠ "_") (n2 : f2.name ≠ "_") (hE : P.underlying E = some (.int q)) (hst : P.stoodInHeld T = false) : KeysBy P T (pairV q) := by
 refine KeysBy.deep hT (fun k v=>rfl) (fun a b w=>run_equalIn_pair hT t1 t2 o1 o2 n1 n2 hE hst 9998 a b w) (fun e k w=>run_checkKey_pair hT t1 t2 o1 o2 n1 n2 hE 9998 e k w) fun k=>?_
 show Instr.sameBits 10000 (.agg #[_,_]) (.agg #[_,_])=true
 unfold Instr.sameBits
 simp [sameBits_int]
end
end Go.Proofs.Mp
end
section
namespace Go.Proofs.Hp
open Go Go.RowKit
structure Res where
 holds:World→List Nat→Prop
 keep:∀ {w w':World} {F:List Nat},holds w F→(∀ x∈F,w'.heap[x]?=w.heap[x]?)→holds w' F
 lt:∀ {w:World} {F:List Nat},holds w F→∀ x∈F,x<w.heap.size
def Seps (w:World):List Res→List Nat→Prop
 | [],F=>F=[]
 | P::Ps,F=>∃ F1 F2,P.holds w F1∧Seps w Ps F2∧(∀ x∈F1,x∉F2)∧F=F1++F2
def Has (W w:World) (Ps:List Res):Prop:=∃ F,Seps w Ps F∧Fr [] W w∧∀ x∈F,W.heap.size≤x
theorem Seps.keep {w w':World}:∀ {Ps:List Res} {F:List Nat},Seps w Ps F→(∀ x∈F,w'.heap[x]?=w.heap[x]?)→Seps w' Ps F
 | [],_,h,_=>h
 | P::Ps,F,⟨F1,F2,h1,h2,h3,h4⟩,hk=>⟨F1,F2,P.keep h1 fun x hx=>hk x (by rw [h4];simp [hx]),Seps.keep h2 fun x hx=>hk x (by rw [h4];simp [hx]),h3,h4⟩
theorem Seps.lt {w:World}:∀ {Ps:List Res} {F:List Nat},Seps w Ps F→∀ x∈F,x<w.heap.size
 | [],_,h,x,hx=>by rw [show _=[] from h] at hx;cases hx
 | P::Ps,F,⟨F1,F2,h1,h2,h3,h4⟩,x,hx=>by
  rw [h4,List.mem_append] at hx
  rcases hx with hx|hx
  ·exact P.lt h1 x hx
  ·exact Seps.lt h2 x hx
section
variable {W w w':World} {P P' Q:Res} {Ps:List Res}
theorem Has.fr (h:Has W w Ps):Fr [] W w:=by obtain⟨_,_,h,_⟩:=h;exact h
theorem Has.nil (h:Fr [] W w):Has W w []:=⟨[],rfl,h,by simp⟩
theorem Has.step (h:Has W w Ps) (hf:Fr [] w w'):Has W w' Ps:=by
 obtain⟨F,h1,h2,h3⟩:=h
 exact⟨F,h1.keep fun x hx=>hf.block x (h1.lt x hx) (by simp),h2.trans0 hf,h3⟩
theorem Has.drew (h:Has W w Ps) (hd:Drew w w'):Has W w' Ps:=h.step (hd.fr _)
theorem Has.head (h:Has W w (P::Ps)):∃ F,P.holds w F:=by obtain⟨F,⟨F1,F2,h1,_⟩,_⟩:=h;exact⟨F1,h1⟩
theorem Has.new {F:List Nat} (h:Has W w Ps) (hf:Fr [] w w') (hP:P.holds w' F) (hF:∀ x∈F,w.heap.size≤x):Has W w' (P::Ps):=by
 obtain⟨G,h1,h2,h3⟩:=h
 refine⟨F++G,⟨F,G,hP,h1.keep fun x hx=>hf.block x (h1.lt x hx) (by simp),fun x hx hx'=>?_,rfl⟩,h2.trans0 hf,fun x hx=>?_⟩
 ·have:=hF x hx;have:=h1.lt x hx';omega
 ·rw [List.mem_append] at hx
  rcases hx with hx|hx
  ·have:=hF x hx;have:=h2.size;omega
  ·exact h3 x hx
theorem Has.swap (h:Has W w (P::Q::Ps)):Has W w (Q::P::Ps):=by
 obtain⟨F,⟨F1,F2,h1,⟨G1,G2,g1,g2,g3,rfl⟩,h3,rfl⟩,hf,hge⟩:=h
 refine⟨G1++(F1++G2),⟨G1,F1++G2,g1,⟨F1,G2,h1,g2,fun x hx hx'=>h3 x hx (by simp [hx']),rfl⟩,fun x hx hx'=>?_,rfl⟩,hf,fun x hx=>hge x ?_⟩
 ·rw [List.mem_append] at hx'
  rcases hx' with h|h
  ·exact h3 x h (by simp [hx])
  ·exact g3 x hx h
 ·simp only [List.mem_append] at hx ⊢
  rcases hx with h|h|h<;>simp [h]
theorem Has.drop (h:Has W w (P::Ps)):Has W w Ps:=by
 obtain⟨F,⟨F1,F2,h1,h2,h3,rfl⟩,hf,hge⟩:=h
 exact⟨F2,h2,hf,fun x hx=>hge x (by simp [hx])⟩
theorem Has.upd (h:Has W w (P::Ps)) {R:Ending→Prop} {Pr:Program} {f:FuncId} {args:Array Value}
  (hc:∀ F,P.holds w F→Calls Pr f args w fun e w'=>R e∧∃ F',P'.holds w' F'∧Fr F w w'∧∀ x∈F',x∈F∨w.heap.size≤x):Calls Pr f args w fun e w'=>R e∧Has W w' (P'::Ps):=by
 obtain⟨F,⟨F1,F2,h1,h2,h3,rfl⟩,hf,hge⟩:=h
 refine (hc F1 h1).mono ?_
 rintro e w' ⟨hR,F',hP,hf',hs⟩
 refine⟨hR,F'++F2,⟨F',F2,hP,h2.keep fun x hx=>hf'.block x (h2.lt x hx) fun hx'=>h3 x hx' hx,fun x hx hx'=>?_,rfl⟩,hf.trans hf' fun x hx=>.inr (hge x (by simp [hx])),fun x hx=>?_⟩
 ·rcases hs x hx with h|h
  ·exact h3 x h hx'
  ·have:=h2.lt x hx';omega
 ·rw [List.mem_append] at hx
  rcases hx with hx|hx
  ·rcases hs x hx with h|h
   ·exact hge x (by simp [h])
   ·have:=hf.size;omega
  ·exact hge x (by simp [hx])
theorem Has.turn (h:Has W w (P::Ps)) (hc:∀ F,P.holds w F→∃ F',P'.holds w' F'∧Fr F w w'∧∀ x∈F',x∈F∨w.heap.size≤x):Has W w' (P'::Ps):=by
 obtain⟨F,⟨F1,F2,h1,h2,h3,rfl⟩,hf,hge⟩:=h
 obtain⟨F',hP,hf',hs⟩:=hc F1 h1
 refine⟨F'++F2,⟨F',F2,hP,h2.keep fun x hx=>hf'.block x (h2.lt x hx) fun hx'=>h3 x hx' hx,fun x hx hx'=>?_,rfl⟩,hf.trans hf' fun x hx=>.inr (hge x (by simp [hx])),fun x hx=>?_⟩
 ·rcases hs x hx with h|h
  ·exact h3 x h hx'
  ·have:=h2.lt x hx';omega
 ·rw [List.mem_append] at hx
  rcases hx with hx|hx
  ·rcases hs x hx with h|h
   ·exact hge x (by simp [h])
   ·have:=hf.size;omega
  ·exact hge x (by simp [hx])
theorem Has.look (h:Has W w (P::Ps)) {R:Ending→World→Prop} {Pr:Program} {f:FuncId} {args:Array Value}
  (hc:∀ F,P.holds w F→Calls Pr f args w fun e w'=>R e w'∧Fr [] w w'):Calls Pr f args w fun e w'=>R e w'∧Has W w' (P::Ps):=by
 obtain⟨F,hP⟩:=h.head
 exact (hc F hP).mono fun e w' ⟨h1,h2⟩=>⟨h1,h.step h2⟩
end
theorem Seps.perm {w:World} {Ps Qs:List Res} (p:Ps.Perm Qs):∀ {F:List Nat},Seps w Ps F→∃ G,Seps w Qs G∧∀ x,x∈G↔x∈F:=by
 induction p with
 | nil=>exact fun h=>⟨_,h,fun x=>Iff.rfl⟩
 | cons P _ ih =>
  rintro F ⟨F1,F2,h1,h2,h3,rfl⟩
  obtain⟨G,g1,g2⟩:=ih h2
  exact⟨F1++G,⟨F1,G,h1,g1,fun x hx hx'=>h3 x hx ((g2 x).1 hx'),rfl⟩,fun x=>by simp [g2]⟩
 | swap P Q l =>
  rintro F ⟨F1,F2,h1,⟨G1,G2,g1,g2,g3,rfl⟩,h3,rfl⟩
  refine⟨G1++(F1++G2),⟨G1,F1++G2,g1,⟨F1,G2,h1,g2,fun x hx hx'=>h3 x hx (by simp [hx']),rfl⟩,fun x hx hx'=>?_,rfl⟩,fun x=>?_⟩
  ·rw [List.mem_append] at hx'
   rcases hx' with h|h
   ·exact h3 x h (by simp [hx])
   ·exact g3 x hx h
  ·simp only [List.mem_append]
   constructor<;>intro h<;>rcases h with h|h|h<;>simp [h]
 | trans _ _ ih1 ih2 =>
  intro F h
  obtain⟨G,g1,g2⟩:=ih1 h
  obtain⟨G',g1',g2'⟩:=ih2 g1
  exact⟨G',g1',fun x=>(g2' x).trans (g2 x)⟩
theorem Has.perm {W w:World} {Ps Qs:List Res} (h:Has W w Ps) (p:Ps.Perm Qs):Has W w Qs:=by
 obtain⟨F,h1,h2,h3⟩:=h
 obtain⟨G,g1,g2⟩:=h1.perm p
 exact⟨G,g1,h2,fun x hx=>h3 x ((g2 x).1 hx)⟩
theorem Has.third {W w:World} {A B C:Res} {Ps:List Res} (h:Has W w (A::B::C::Ps)):Has W w (C::A::B::Ps):=h.perm (((List.Perm.swap C B Ps).cons A).trans (List.Perm.swap C A (B::Ps)))
theorem Has.fourth {W w:World} {A B C D:Res} {Ps:List Res} (h:Has W w (A::B::C::D::Ps)):Has W w (D::A::B::C::Ps) :=
 h.perm (((((List.Perm.swap D C Ps).cons B).trans (List.Perm.swap D B (C::Ps))).cons A).trans (List.Perm.swap D A (B::C::Ps)))
def blk (b:Nat) (o:Obj):Res where
 holds w F:=w.heap[b]?=some o∧F=[b]
 keep:=fun ⟨h1,h2⟩ hk=>⟨by rw [hk b (by simp [h2])];exact h1,h2⟩
 lt:=fun ⟨h1,h2⟩ x hx=>by rw [h2] at hx;simp at hx;subst hx;exact lBk h1
theorem Has.blk {W w:World} {Ps:List Res} {b:Nat} {o:Obj} (h:Has W w (Hp.blk b o::Ps)):w.heap[b]?=some o:=by obtain⟨F,h1,_⟩:=h.head;exact h1
def row (T size:Nat) (v:Value) (n:Nat) (xs:List Value):Res where
 holds w F:=w.ownsRow 0 T size v n xs∧F=v.ownBlock.toList
 keep:=fun ⟨h1,h2⟩ hk=>⟨oOB h1 fun g hg=>hk g (by simp [h2,hg]),h2⟩
 lt:=fun ⟨h1,h2⟩ x hx=>by rw [h2] at hx;exact oLT h1 (by simpa using hx)
theorem Has.row {W w:World} {Ps:List Res} {T size n:Nat} {v:Value} {xs:List Value} (h:Has W w (Hp.row T size v n xs::Ps)):w.ownsRow 0 T size v n xs:=by obtain⟨F,h1,_⟩:=h.head;exact h1
theorem Has.newRow {W w w':World} {Ps:List Res} {T size n:Nat} {v:Value} {xs:List Value} (h:Has W w Ps) (hf:Fr [] w w') (ho:w'.ownsRow w.heap.size T size v n xs):Has W w' (Hp.row T size v n xs::Ps) :=
 h.new hf (F:=v.ownBlock.toList) ⟨owns_base ho (Nat.zero_le _),rfl⟩ fun x hx=>owns_ge ho (by simpa using hx)
theorem Has.newBlk {W w:World} {Ps:List Res} (h:Has W w Ps) (o:Obj):Has W (w.alloc o) (Hp.blk w.heap.size o::Ps) :=
 h.new ((Fr.refl [] w).alloc o) (F:=[w.heap.size]) ⟨by rw [hAC,if_pos rfl],rfl⟩ (by simp)
end Go.Proofs.Hp
end
section
namespace Go.Proofs.YtdanghnadbkhfaaGreat
open Go Go.RowKit Rg Mp Hp Qs Ev
def sTR (b:Nat) (s:Int) (ns:List K4):Res where
 holds w F:=StoreAt w b s ns F
 keep:=fun h hk=>h.keep hk
 lt:=fun h=>h.lt
section
variable {W w:World} {b:Nat} {s:Int} {ns:List K4} {Ps:List Res}
theorem has_good (h:Has W w (sTR b s ns::Ps)):GoodQ s ns:=by obtain⟨F,hS⟩:=h.head;exact hS.1
theorem Join_has (h:Has W w (sTR b s ns::Ps)) (x y z u:Int) :
  Calls Tryz.prog 75 #[.pointer (some ⟨b,0,none⟩),.int .i64 x,.int .i64 y,.int .i64 z,.int .i64 u] w fun e w' =>
   e=.returned (.tuple #[.int .i64 (join s ns ⟨x,y,z,u⟩).1.1,.int .i64 (join s ns ⟨x,y,z,u⟩).1.2])∧Has W w' (sTR b s (join s ns ⟨x,y,z,u⟩).2::Ps) :=
 h.upd (P':=sTR b s (join s ns ⟨x,y,z,u⟩).2) (R:=fun e=>e=.returned (.tuple #[.int .i64 (join s ns ⟨x,y,z,u⟩).1.1,.int .i64 (join s ns ⟨x,y,z,u⟩).1.2])) fun F hS=>(Join_calls hS ⟨x,y,z,u⟩).mono fun e w' h=>h
theorem Level_has (h:Has W w (sTR b s ns::Ps)) (id:Int) :
  Calls Tryz.prog 39 #[.pointer (some ⟨b,0,none⟩),.int .i64 id] w fun e w'=>e=.returned (.int .i64 (lvl s (levs s ns) id))∧Has W w' (sTR b s ns::Ps)∧Fr [] w w':=by
 obtain⟨F,hS⟩:=h.head
 refine (Level_calls hS id).mono ?_
 rintro e w' ⟨rfl,hd⟩
 exact⟨rfl,h.step (hd.fr _),hd.fr _⟩
theorem LevelIs_has (h:Has W w (sTR b s ns::Ps)) {n:Nat} {id:Int} {t:Tr} (hi:Is s ns n id t) :
  Calls Tryz.prog 39 #[.pointer (some ⟨b,0,none⟩),.int .i64 id] w fun e w'=>e=.returned (.int .i64 n)∧Has W w' (sTR b s ns::Ps)∧Fr [] w w':=by
 have:=Level_has h id
 rwa [hi.lvl (has_good h)] at this
theorem Kids_has (h:Has W w (sTR b s ns::Ps)) {n:Nat} {id:Int} {t:Tr} (hi:Is s ns (n+1) id t) :
  Calls Tryz.prog 40 #[.pointer (some ⟨b,0,none⟩),.int .i64 id] w fun e w'=>e=.returned (.tuple #[.agg #[.int .i64 (nodeOf s ns id).a,.int .i64 (nodeOf s ns id).b,.int .i64 (nodeOf s ns id).c,.int .i64 (nodeOf s ns id).d],.bool true])∧Has W w' (sTR b s ns::Ps)∧Fr [] w w':=by
 obtain⟨F,hS⟩:=h.head
 obtain⟨h1,h2,_⟩:=hi.node (has_good h)
 have e:kidsOf s ns id=(nodeOf s ns id,true):=by
  unfold kidsOf
  rw [if_neg (by omega),h2]
 refine (Kids_calls hS id).mono ?_
 rintro e' w' ⟨he,hf⟩
 rw [e] at he
 exact⟨he,h.step hf,hf⟩
theorem KidsLeaf_has (h:Has W w (sTR b s ns::Ps)) {id:Int} {t:Tr} (hi:Is s ns 0 id t) :
  Calls Tryz.prog 40 #[.pointer (some ⟨b,0,none⟩),.int .i64 id] w fun e w'=>e=.returned (.tuple #[.agg #[.int .i64 0,.int .i64 0,.int .i64 0,.int .i64 0],.bool false])∧Has W w' (sTR b s ns::Ps)∧Fr [] w w':=by
 obtain⟨F,hS⟩:=h.head
 obtain⟨h1,h2,_⟩:=hi.zero (has_good h)
 have e:kidsOf s ns id=(⟨0,0,0,0⟩,false):=by
  unfold kidsOf
  rw [if_pos h2]
 refine (Kids_calls hS id).mono ?_
 rintro e' w' ⟨he,hf⟩
 rw [e] at he
 exact⟨he,h.step hf,hf⟩
end
theorem hCE {W w:World} {b:Nat} {cs:Array Value} {t:TypeId} {Ps:List Res} (h:Has W w (Hp.blk b (.cells cs t (0,0))::Ps)):(∀ j,w.cell? ⟨b,j,none⟩=cs[j]?)∧(∀ j,w.frozen? ⟨b,j,none⟩=false)∧b<w.heap.size :=
 ⟨fun j=>hEC h.blk j,fun j=>hEF h.blk j,lBk h.blk⟩
theorem hST {W w:World} {b:Nat} {cs:Array Value} {t:TypeId} {Ps:List Res} (h:Has W w (Hp.blk b (.cells cs t (0,0))::Ps)) (j:Nat) (v:Value):Has W (w.setCell ⟨b,j,none⟩ v) (Hp.blk b (.cells (cs.setIfInBounds j v) t (0,0))::Ps) :=
 h.turn fun F ⟨h1,h2⟩=>⟨F,⟨heap_setCell_here h1 j v,h2⟩,(Fr.refl F w).setCell (.inl (by simp [h2])) v,fun x hx=>.inl hx⟩
theorem hAL {W w:World} {Ps:List Res} (h:Has W w Ps) (cs:Array Value) (t:TypeId):Has W (w.alloc (.cells cs t (0,0))) (Hp.blk w.heap.size (.cells cs t (0,0))::Ps):=h.newBlk _
end Go.Proofs.YtdanghnadbkhfaaGreat
end
section
namespace Go.Proofs.Hp
open Go Go.RowKit
def iv (l:List Int):List Value:=l.map fun n=>Value.int .i64 n
theorem iv_get {l:List Int} {i:Nat} {x:Int} (h:l[i]?=some x):(iv l)[i]?=some (.int .i64 x):=by rw [iv,List.getElem?_map,h];rfl
theorem iv_set (l:List Int) (i:Nat) (x:Int):(iv l).set i (.int .i64 x)=iv (l.set i x):=by unfold iv;rw [List.map_set]
def IntsAt (w:World) (v:Value) (l:List Int):Prop:=Reads w v l.length 1 (iv l)
theorem IntsAt.fr {w w':World} {v:Value} {l:List Int} (h:IntsAt w v l) (hf:Fr [] w w'):IntsAt w' v l:=Reads.fr h hf
theorem IntsAt.form {w:World} {v:Value} {l:List Int} (h:IntsAt w v l):∃ a c,v=.slice a l.length c:=by
 obtain⟨_,a,c,h,_⟩:=h
 exact⟨a,c,h⟩
def RowsAt (w:World) (v:Value) (L:List (List Int)):Prop:=∃ vs:List Value,Reads w v L.length 1 vs∧∀ (i:Nat) (r:List Int),L[i]?=some r→∃ u,vs[i]?=some u∧IntsAt w u r
theorem RowsAt.fr {w w':World} {v:Value} {L:List (List Int)} (h:RowsAt w v L) (hf:Fr [] w w'):RowsAt w' v L:=by
 obtain⟨vs,h1,h2⟩:=h
 refine⟨vs,h1.fr hf,fun i r hi=>?_⟩
 obtain⟨u,hu,hr⟩:=h2 i r hi
 exact⟨u,hu,hr.fr hf⟩
theorem RowsAt.form {w:World} {v:Value} {L:List (List Int)} (h:RowsAt w v L):∃ a c,v=.slice a L.length c:=by
 obtain⟨_,⟨_,a,c,h,_⟩,_⟩:=h
 exact⟨a,c,h⟩
theorem RowsAt.row {w:World} {a:Option Addr} {n c:Nat} {L:List (List Int)} (h:RowsAt w (.slice a n c) L) {i:Nat} {r:List Int} (hi:L[i]?=some r) :
  ∃ g off ra rc,a=some ⟨g,off,none⟩∧g<w.heap.size∧w.cell? ⟨g,off+i,none⟩=some (.slice ra r.length rc)∧IntsAt w (.slice ra r.length rc) r:=by
 obtain⟨vs,⟨hl,a',c',he,hp⟩,h2⟩:=h
 cases he
 obtain⟨u,hu,hr⟩:=h2 i r hi
 obtain⟨ra,rc,rfl⟩:=hr.form
 have hlt:=(List.getElem?_eq_some_iff.1 hi).1
 obtain⟨g,off,rfl,hg,hc⟩:=hp (by omega)
 exact⟨g,off,ra,rc,rfl,hg,hc i _ hu,hr⟩
theorem IntsAt.cell {w:World} {a:Option Addr} {n c:Nat} {l:List Int} (h:IntsAt w (.slice a n c) l) {i:Nat} {x:Int} (hi:l[i]?=some x) :
  ∃ g off,a=some ⟨g,off,none⟩∧g<w.heap.size∧w.cell? ⟨g,off+i,none⟩=some (.int .i64 x):=by
 obtain⟨hl,a',c',he,hp⟩:=h
 cases he
 have hlt:=(List.getElem?_eq_some_iff.1 hi).1
 obtain⟨g,off,rfl,hg,hc⟩:=hp (by omega)
 exact⟨g,off,rfl,hg,hc i _ (iv_get hi)⟩
theorem IntsAt.part {w:World} {a:Option Addr} {g off n c c':Nat} {l:List Int} (h:IntsAt w (.slice (some ⟨g,off,none⟩) n c) l) {i m:Nat} (hm:i+m≤l.length):IntsAt w (.slice (some ⟨g,off+i,none⟩) m c') ((l.drop i).take m):=by
 obtain⟨hl,a',c'',he,hp⟩:=h
 cases he
 have hlen:((l.drop i).take m).length=m:=by simp;omega
 refine⟨by simp [iv],_,_,by rw [hlen],fun h0=>?_⟩
 rw [hlen] at h0
 obtain⟨g',off',he,hg,hc⟩:=hp (by omega)
 cases he
 refine⟨g,off+i,rfl,hg,fun j u hj=>?_⟩
 have hj':(iv l)[i+j]?=some u:=by
  unfold iv at hj ⊢
  rw [List.getElem?_map,List.getElem?_take] at hj
  split at hj
  ·rw [List.getElem?_drop] at hj;rw [List.getElem?_map];exact hj
  ·simp at hj
 have:=hc (i+j) u hj'
 rwa [← Nat.add_assoc] at this
theorem RowsAt.of_owns {w:World} {base e:Nat} {v:Value} {vs:List Value} {L:List (List Int)} (h:w.ownsRow base e 1 v L.length vs) (hr:∀ (i:Nat) (r:List Int),L[i]?=some r→∃ u,vs[i]?=some u∧IntsAt w u r):RowsAt w v L:=⟨vs,Reads.of_owns h,hr⟩
end Go.Proofs.Hp
end
section
namespace Go.Proofs.Ev
open Qs
def filled (n:Nat) (G:Nat→Int) (k:Nat):List Int:=(List.range n).map fun i=>if i<k then G i else 0
theorem filled_get {n:Nat} {G:Nat→Int} {k i:Nat} (hi:i<n):(filled n G k)[i]?=some (if i<k then G i else 0):=by simp [filled,hi]
theorem filled_set {n:Nat} {G:Nat→Int} {k:Nat} (hk:k<n):(filled n G k).set k (G k)=filled n G (k+1):=by
 apply List.ext_getElem?
 intro i
 rw [List.getElem?_set]
 by_cases h:k=i
 ·subst h
  rw [if_pos rfl,if_pos (by simp [filled];exact hk),filled_get hk,if_pos (by omega)]
 ·rw [if_neg h]
  by_cases hi:i<n
  ·rw [filled_get hi,filled_get hi]
   by_cases h2:i<k
   ·rw [if_pos h2,if_pos (by omega)]
   ·rw [if_neg h2,if_neg (by omega)]
  ·rw [List.getElem?_eq_none (by simp [filled];omega),List.getElem?_eq_none (by simp [filled];omega)]
end Go.Proofs.Ev
namespace Go.Proofs.YtdanghnadbkhfaaGreat
open Go Go.RowKit Rg Mp Hp Qs Ev
theorem filled_cell {W w:World} {b n k:Nat} {G:Nat→Int} {T:TypeId} {Ps:List Res} (h:Has W w (Hp.blk b (.cells (iv (filled n G k)).toArray T (0,0))::Ps)) {i:Nat} (hi:i<n):w.cell? ⟨b,i,none⟩=some (.int .i64 (if i<k then G i else 0)):=by
 rw [(hCE h).1 i]
 have:=iv_get (filled_get (n:=n) (G:=G) (k:=k) hi)
 simpa using this
theorem filled_set_has {W w:World} {b n k:Nat} {G:Nat→Int} {T:TypeId} {Ps:List Res} (h:Has W w (Hp.blk b (.cells (iv (filled n G k)).toArray T (0,0))::Ps)) (hk:k<n) {v:Int} (hv:v=G k):Has W (w.setCell ⟨b,k,none⟩ (.int .i64 v)) (Hp.blk b (.cells (iv (filled n G (k+1))).toArray T (0,0))::Ps):=by
 subst hv
 have:=hST h k (.int .i64 (G k))
 rwa [show (iv (filled n G k)).toArray.setIfInBounds k (.int .i64 (G k))=(iv (filled n G (k+1))).toArray by rw [← filled_set hk,← iv_set];simp] at this
def At5 (P:Nat→Prop) (z:Int):Prop:=z=0∧P 0∨z=1∧P 1∨z=2∧P 2∨z=3∧P 3∨z=4∧P 4
section
variable {W w:World} {b:Nat} {s:Int} {ns:List K4} {Ps:List Res}
end
end Go.Proofs.YtdanghnadbkhfaaGreat
end
section
namespace Go.Proofs.YtdanghnadbkhfaaGreat
open Go Go.RowKit Rg Mp Hp Qs
def Chain (s:Int) (ns:List K4):Nat→Int→Prop
 | 0,a=>a=0
 | L+1,a=>∃ (c:Int) (i:Nat),Chain s ns L c∧ns.idxOf? (four c)=some i∧a=s+i
theorem idx_append {ns t:List K4} {k:K4} {i:Nat} (h:ns.idxOf? k=some i):(ns++t).idxOf? k=some i:=by
 rw [List.idxOf?_eq_some_iff] at h ⊢
 obtain⟨h1,h2,h3⟩:=h
 refine⟨by simp;omega,by rw [List.getElem_append_left h1];exact h2,fun j hj=>?_⟩
 rw [List.getElem_append_left (by omega)]
 exact h3 j hj
theorem idx_get {ns:List K4} {k:K4} {i:Nat} (h:ns.idxOf? k=some i):ns[i]?=some k:=by
 rw [List.idxOf?_eq_some_iff] at h
 obtain⟨h1,h2,_⟩:=h
 rw [List.getElem?_eq_getElem h1]
 simpa using h2
theorem idx_last {ns:List K4} {k:K4} (h:ns.idxOf? k=none):(ns++[k]).idxOf? k=some ns.length:=by
 have hn:k∉ns:=by simpa using h
 rw [List.idxOf?_eq_some_iff]
 refine⟨by simp,by simp,fun j hj he=>hn ?_⟩
 rw [List.getElem_append_left (by omega)] at he
 have he':ns[j]=k:=by simpa using he
 rw [← he']
 exact List.getElem_mem _
theorem Chain_append {s:Int} {ns:List K4} (t:List K4):∀ {L:Nat} {a:Int},Chain s ns L a→Chain s (ns++t) L a
 | 0,_,h=>h
 | _+1,_,⟨c,i,h1,h2,h3⟩=>⟨c,i,Chain_append t h1,idx_append h2,h3⟩
theorem Chain_level {s:Int} {ns:List K4} (hg:GoodQ s ns):∀ {L:Nat} {a:Int},Chain s ns L a→lvl s (levs s ns) a=L
 | 0,a,h=>by
  have h:a=0:=h
  subst h
  have:=hg.1
  unfold lvl
  rw [if_neg (by omega),if_pos (by omega)]
  rfl
 | L+1,a,⟨c,i,h1,h2,h3⟩=>by
  subst h3
  have h0:=(good_lvl hg (idx_get h2)).1
  have:=Chain_level hg h1
  simp only [four] at h0
  omega
theorem climb_chain {s:Int} {ns:List K4}:∀ (m:Nat) {id:Int} {n:Nat},Chain s ns n id→Chain s ns (climb s ns m id n).2 (climb s ns m id n).1
 | 0,_,_,h=>h
 | m+1,id,n,h=>by
  unfold climb
  split
  ·rename_i i hi
   exact climb_chain m ⟨id,i,h,hi,rfl⟩
  ·exact h
theorem grow_chain {s:Int}:∀ (m:Nat) {id:Int} {n:Nat} {ns:List K4},GoodQ s ns→Chain s ns n id→n+m≤256→ns.length+m≤100000 →
  GoodQ s (grow s m id ns).2∧Chain s (grow s m id ns).2 (n+m) (grow s m id ns).1
 | 0,_,_,_,hg,h,_,_=>⟨hg,h⟩
 | m+1,id,n,ns,hg,h,hn,hl=>by
  have hlv:=Chain_level hg h
  have hfit:Fits s ns (four id):=⟨by show 0≤lvl s (levs s ns) id;omega,by show lvl s (levs s ns) id<256;omega,rfl,rfl,rfl⟩
  have hj:join s ns (four id)=joinIn s ns (four id):=by
   unfold join
   rw [if_neg (by show ¬ (lvl s (levs s ns) id<0∨lvl s (levs s ns) id<0∨lvl s (levs s ns) id<0∨lvl s (levs s ns) id<0);omega),if_neg (fun hh=>hh hfit)]
  unfold grow
  rw [hj,show n+(m+1)=(n+1)+m by omega]
  cases hi:ns.idxOf? (four id) with
  | some i =>
   rw [joinIn_hit hi]
   exact grow_chain m hg ⟨id,i,h,hi,rfl⟩ (by omega) (by show ns.length+m≤100000;omega)
  | none =>
   rw [joinIn_new hi (by omega)]
   exact grow_chain m (hg.snoc hfit (by simpa using hi) (by omega)) ⟨id,ns.length,Chain_append _ h,idx_last hi,rfl⟩ (by omega) (by simp;omega)
theorem empty_high {s:Int} {ns:List K4} {l:Int} (h:256<l):emptyQ s ns l=((0,18),ns):=by
 unfold emptyQ
 rw [if_pos (.inr h)]
theorem join_len (s:Int) (ns:List K4) (k:K4):(join s ns k).2.length≤ns.length+1:=by
 unfold join
 split
 ·simp
 ·split
  ·simp
  ·unfold joinIn
   split
   ·simp
   ·split<;>simp
end Go.Proofs.YtdanghnadbkhfaaGreat
end
