/- Own texts of this claim, part 36: no condition. -/
import Derived.ProofKit
import Derived.OpenShut
import Derived.Deep.Slices
import Derived.Test.YtdanghnadbkhfaaGreatZG3
import Derived.Test.YtdanghnadbkhfaaGreatZG5
import Derived.Test.YtdanghnadbkhfaaGreatZG4
import Derived.Test.YtdanghnadbkhfaaGreatZG34
import Derived.Test.YtdanghnadbkhfaaGreatZG1
import Derived.Test.YtdanghnadbkhfaaGreatZG17
set_option linter.unusedVariables false
set_option linter.unusedSimpArgs false
section
namespace Go.Proofs.YtdanghnadbkhfaaGreat
open Go Go.RowKit Rg Mp Hp Qs
set_option maxHeartbeats 1000000 in
theorem Clone_nil (n c:Nat) (w:World) :
  Calls Tryz.prog 71 #[.slice none n c] w fun e w'=>e=.returned (.slice none 0 0)∧w=w':=by
 have h1:=fun w:World=>Lib.run_eql_slice_nil (P:=Tryz.prog) w 22 105 none n c 0 0 Tryz.underlying22
 go_enter Tryz.func71,Tryz.ntmps71
 go_wp2
 go_ret
 exact⟨rfl,rfl⟩
def ClonePost (w:World) (n:Nat) (xs:List Value) (e:Ending) (w':World):Prop:=∃ v,e=.returned v∧w'.ownsRow w.heap.size 105 4 v n xs∧Fr [] w w'
set_option maxHeartbeats 1000000 in
theorem Clone_some (g off n c:Nat) (xs:List Value) (w:World) (hx:xs.length=n*4) (hc:∀ j u,xs[j]?=some u→w.cell? ⟨g,off+j,none⟩=some u) (h1:∀ u∈xs,u.oneCell'=true) (hn:n≤4398046511096) (hg:g<w.heap.size) :
  Calls Tryz.prog 71 #[.slice (some ⟨g,off,none⟩) n c] w (ClonePost w n xs):=by
 have hnil:=fun w:World=>Lib.run_eql_slice_nil (P:=Tryz.prog) w 22 105 (some ⟨g,off,none⟩) n c 0 0 Tryz.underlying22
 obtain⟨i0,hi0,hi1,hi2,hi3⟩:=info_parts info_quad
 have Hx:=Lib.hid hx
 have Hc:=Lib.hid hc
 have H1:=Lib.hid h1
 clear hx hc h1
 go_enter Tryz.func71,Tryz.ntmps71
 go_wp2_with (at_builtin;refine wpList_append_own_at _ rfl _ _ 22 rfl w.heap.size 105 i0 _ 4 32 Tryz.underlying22 hi0 hi1 hi2 hi3 rfl (by decide) _ 0 [] rfl ?e1 ⟨g,off,none⟩ n c xs rfl Hx.out ?e2 H1.out ?e3 ?e4 ?e5 ?_)
 case e1=>exact⟨rfl,.inr ⟨w.heap.size,0,#[],rfl,Nat.le_refl _,by rw [hAC,if_pos rfl],Nat.le_refl _,Nat.zero_le _,rfl,rfl⟩⟩
 case e2 =>
  intro j u hj
  have:=Hc.out j u hj
  have ha:(⟨g,off,none⟩:Addr).add j=⟨g,off+j,none⟩:=by
   unfold Addr.add
   split
   ·rename_i h0;rw [h0];rfl
   ·rfl
  rw [ha,World.cell?_alloc_past _ _ _ hg]
  exact this
 case e3=>unfold maxLen;omega
 case e4=>omega
 case e5=>rw [hAz];omega
 intro v' w1 hown hgrow _ hloc
 try simp only [Nat.zero_add,List.nil_append] at hown
 go_wp2
 go_ret
 exact⟨v',rfl,hown,((Fr.refl _ _).alloc _).grown hgrow (by intro x hx;simp [Value.ownBlock] at hx;omega)⟩
set_option maxHeartbeats 1000000 in
theorem Data_calls {w:World} {b:Nat} {s:Int} {ns:List K4} {F:List Nat} (hS:StoreAt w b s ns F) :
  Calls Tryz.prog 23 #[.pointer (some ⟨b,0,none⟩)] w fun e w'=>∃ v,e=.returned (.agg #[.int .i64 s,v])∧w'.ownsRow w.heap.size 105 4 v ns.length (flat ns)∧Fr [] w w':=by
 obtain⟨hgood,nv,lv,mb,hI,rfl⟩:=hS
 have hC:∀ w1,Fr [] w w1→Calls Tryz.prog 71 #[nv] w1 (ClonePost w1 ns.length (flat ns)):=fun w1 hf=>by
  obtain⟨na,nc,rfl,_,hnone⟩:=oFM hI.nodes
  have hI1:=hI.keep fun x hx=>hf.block x (hI.lt x hx) (by simp)
  rcases hI.nodes.2 with ⟨h,h0⟩|⟨g,cap,cur,h,_⟩
  ·simp only [Value.slice.injEq] at h
   obtain⟨rfl,_,rfl⟩:=h
   refine (Clone_nil _ _ w1).mono ?_
   rintro e w' ⟨rfl,rfl⟩
   have:ns=[]:=List.eq_nil_of_length_eq_zero h0
   subst this
   exact⟨_,rfl,World.ownsRow_nil _ _ _ _,Fr.refl _ _⟩
  ·simp only [Value.slice.injEq] at h
   obtain⟨rfl,_,rfl⟩:=h
   exact Clone_some g 0 ns.length _ _ w1 (flat_length ns) (fun j u hj=>by rw [Nat.zero_add];exact owns_cell hI1.nodes rfl hj) (flat_one ns) (by have:=hgood.2.2.1;omega) (oLT hI1.nodes rfl)
 have h0:=hEC hI.blk 0
 have h1:=hEC hI.blk 1
 have hb:=lBk hI.blk
 have HI:=Lib.hid hI
 clear hI
 obtain⟨na,nc,rfl,_,_⟩:=oFM HI.out.nodes
 go_enter Tryz.func23,Tryz.ntmps23
 go_wp2
 refine wRS [([0,1,2,3,4,5,6,7,8],[3]),([9,10],[])] (by kernel_rfl) (by kernel_rfl) ?_
 simp only [wpSegs,pick,Array.getD_eq_getD_getElem?,List.getElem?_toArray,List.getElem?_cons_succ,List.getElem?_cons_zero,Option.getD_some]
 go_wp2_with fail
 refine (hC _ ?_).mono ?_
 ·repeat (first|exact Fr.refl _ _|apply Fr.drewN|apply Fr.drew|apply Fr.alloc)
 rintro e w1 ⟨v,rfl,hown,hf⟩
 have hfw:Fr [] w w1:=(((Fr.refl _ _).alloc _).drew).trans0 hf
 have c0:w1.cell? ⟨b,0,none⟩=some (.int .i64 s):=(hfw.cell (p:=⟨b,0,none⟩) hb (by simp)).trans h0
 have hl:w1.heap[w.heap.size]?=some (.cells #[.int .i64 0,.slice none 0 0] 24 (0,0)):=(hf.block _ (by rw [hDR,hAz];omega) (by simp)).trans (by rw [hDR,hAC,if_pos rfl])
 have l0:=hEC hl 0
 have l1:=hEC hl 1
 have g0:=hEF hl 0
 have g1:=hEF hl 1
 obtain⟨va,vc,rfl,hva,hvn⟩:=oFM hown
 have hne:(Value.slice va ns.length vc).ownBlock≠some w.heap.size:=fun e=>by
  have:=owns_ge hown e;rw [hDR,hAz] at this;omega
 have Hown:=Lib.hid hown
 have Hne:=Lib.hid hne
 have Hf:=Lib.hid hfw
 have Hl:=Lib.hid hl
 clear hown hva hvn hf hfw hl hne
 go_wp2
 refine Mid.intro ⟨⟨again_cell (T:=3) rfl rfl rfl Tryz.underlying3 rfl c0 rfl,trivial⟩,?_⟩
 go_wp2
 refine Mid.intro ⟨trivial,Strict.intro rfl ?_⟩
 go_wp2
 exact bodyPost_ret (v:=.agg #[.int .i64 s,.slice va ns.length vc]) (by simp [results,Tryz.results23,go_sem,l0,l1]) rfl
  ⟨_,rfl,oOB (base:=w.heap.size) (owns_base Hown.out (by rw [hDR,hAz];omega)) fun x hx=>heap_setCell2 _ _ _ _ _ _ (fun e=>Hne.out (by rw [hx,e])),by repeat (first|exact Hf.out|apply Fr.drewN|apply Fr.drew|apply Fr.alloc|refine Fr.setCell ?_ (Or.inr (by simp)) _)⟩
end Go.Proofs.YtdanghnadbkhfaaGreat
end
section
namespace Go.Proofs.YtdanghnadbkhfaaGreat
open Go Go.RowKit Rg Mp Hp Qs Ev
section
variable {W w:World} {b:Nat} {s:Int} {ns:List K4} {Ps:List Res}
theorem Data_has (h:Has W w (sTR b s ns::Ps)) :
  Calls Tryz.prog 23 #[.pointer (some ⟨b,0,none⟩)] w fun e w'=>∃ a c,e=.returned (.agg #[.int .i64 s,.slice a ns.length c])∧w'.ownsRow w.heap.size 105 4 (.slice a ns.length c) ns.length (flat ns)∧Has W w' (sTR b s ns::Ps)∧Fr [] w w':=by
 obtain⟨F,hS⟩:=h.head
 refine (Data_calls hS).mono ?_
 rintro e w' ⟨v,rfl,ho,hf⟩
 obtain⟨a,c,rfl,_⟩:=oFM ho
 exact⟨a,c,rfl,ho,h.step hf,hf⟩
end
end Go.Proofs.YtdanghnadbkhfaaGreat
end
section
namespace Go.Proofs.YtdanghnadbkhfaaGreat
open Go Go.RowKit Rg Mp Hp Qs
theorem kids_eq (x l:K4):(x.a == l.a && (x.b == l.b && (x.c == l.c && x.d == l.d)))=decide (x=l):=by
 rw [Bool.eq_iff_iff];cases x;cases l;simp
set_option maxHeartbeats 2000000 in
theorem Same_far {w:World} {s1 s2:Int} {n1 n2:Nat} {a1 a2:Option Addr} {c1 c2:Nat} (h:s1≠s2∨s1=s2∧n1≠n2) :
  Calls Tryz.prog 22 #[.agg #[.int .i64 s1,.slice a1 n1 c1],.agg #[.int .i64 s2,.slice a2 n2 c2]] w fun e w'=>e=.returned (.bool false)∧∃ o1 o2,w'=(w.alloc o1).alloc o2:=by
 rcases h with h|⟨rfl,h⟩
 ·have hb:(s1 != s2)=true:=by simpa using h
  go_enter Tryz.func22,Tryz.ntmps22
  go_wp2
  go_ret
  exact⟨rfl,_,_,rfl⟩
 ·have hb:((n1:Int) != (n2:Int))=true:=by simp;omega
  have hc:(s1 != s1)=false:=by simp
  go_enter Tryz.func22,Tryz.ntmps22
  go_wp2
  go_ret
  exact⟨rfl,_,_,rfl⟩
set_option maxHeartbeats 2000000 in
theorem Same_near {w:World} {s:Int} {n1 n2:List K4} {v1 v2:Value} (hl:n1.length≤1048576) (he:n2.length=n1.length) (h1:Reads w v1 n1.length 4 (flat n1)) (h2:Reads w v2 n2.length 4 (flat n2)) :
  Calls Tryz.prog 22 #[.agg #[.int .i64 s,v1],.agg #[.int .i64 s,v2]] w fun e w'=>e=.returned (.bool (decide (n1=n2)))∧∃ o1 o2 n,w'=((w.alloc o1).alloc o2).drewN n:=by
 obtain⟨_,a1,c1,rfl,ha1⟩:=h1
 obtain⟨_,a2,c2,rfl,ha2⟩:=h2
 have Ha1:=Lib.hid ha1
 have Ha2:=Lib.hid ha2
 rw [he]
 have He:=Lib.hid he
 clear ha1 ha2 he
 have hc:(s != s)=false:=by simp
 have hd:((n1.length:Int) != (n1.length:Int))=false:=by simp
 go_enter Tryz.func22,Tryz.ntmps22
 go_wp2
 go_loopw [5] (fun x wr=>∃ (k m:Nat),x=.int .i64 k∧k≤n1.length∧(∀ j,j<k→n1[j]?=n2[j]?)∧wr=(((w.alloc (.cells #[.int .i64 s,.slice a1 n1.length c1] 24)).alloc (.cells #[.int .i64 s,.slice a2 n1.length c2] 24))).drewN m) (fun x _=>n1.length - (intOf x).toNat)
 case atStart=>exact⟨0,0,rfl,by omega,by omega,rfl⟩
 case round =>
  obtain⟨k,m,rfl,hk,hn,rfl⟩:=hrel
  have Hn:=Lib.hid hn
  clear hn
  by_cases hlt:k<n1.length
  ·have hlt2:k<n2.length:=by have:=He.out;omega
   obtain⟨g1,off1,rfl,hg1,hc1⟩:=Ha1.out (by omega)
   obtain⟨g2,off2,rfl,hg2,hc2⟩:=Ha2.out (by omega)
   obtain⟨f0,f1,f2,f3⟩:=flat_get (List.getElem?_eq_getElem hlt)
   obtain⟨i0,i1,i2,i3⟩:=flat_get (List.getElem?_eq_getElem hlt2)
   rw [Nat.mul_comm] at f0 f1 f2 f3 i0 i1 i2 i3
   obtain⟨x,hx⟩:∃ x,x=n1[k]:=⟨_,rfl⟩
   obtain⟨y,hy⟩:∃ y,y=n2[k]:=⟨_,rfl⟩
   rw [← hx] at f0 f1 f2 f3
   rw [← hy] at i0 i1 i2 i3
   have e0:=hc1 _ _ f0
   have e1:=hc1 _ _ f1
   have e2:=hc1 _ _ f2
   have e3:=hc1 _ _ f3
   have d0:=hc2 _ _ i0
   have d1:=hc2 _ _ i1
   have d2:=hc2 _ _ i2
   have d3:=hc2 _ _ i3
   simp only [← Nat.add_assoc] at e1 e2 e3 d1 d2 d3
   have Hx:=Lib.hid hx
   have Hy:=Lib.hid hy
   have Hlt2:=Lib.hid hlt2
   clear hx hy hc1 hc2 f0 f1 f2 f3 i0 i1 i2 i3
   by_cases hxy:x=y
   ·have hq:(x.a == y.a && (x.b == y.b && (x.c == y.c && x.d == y.d)))=true:=by rw [kids_eq];simpa using hxy
    have Hxy:=Lib.hid hxy
    clear hxy
    go_wp2
    (refine wRT (by kernel_rfl) (by kernel_rfl) ?_)
    go_wp2
    refine Strict.intro rfl ?_
    go_wp2
    go_roundw
    case rel =>
     refine⟨k+1,m+1,by go_num,by omega,fun j hj=>?_,rfl⟩
     rcases Nat.lt_or_ge j k with h|h
     ·exact Hn.out j h
     ·obtain rfl:j=k:=by omega
      rw [List.getElem?_eq_getElem hlt,List.getElem?_eq_getElem Hlt2.out,← Hx.out,← Hy.out,Hxy.out]
    case measure=>simp [intOf];omega
   ·have hq:(x.a == y.a && (x.b == y.b && (x.c == y.c && x.d == y.d)))=false:=by rw [kids_eq];simpa using hxy
    have Hxy:=Lib.hid hxy
    clear hxy
    go_wp2
    (refine wRT (by kernel_rfl) (by kernel_rfl) ?_)
    go_wp2
    refine Strict.intro rfl ?_
    go_wp2
    go_ret
    refine⟨?_,_,_,m+1,rfl⟩
    have:decide (n1=n2)=false:=by
     rw [decide_eq_false_iff_not]
     intro e
     apply Hxy.out
     rw [Hx.out,Hy.out]
     have:=congrArg (fun l:List K4=>l[k]?) e
     simp only [List.getElem?_eq_getElem hlt,List.getElem?_eq_getElem Hlt2.out] at this
     exact Option.some.inj this
    rw [this]
    rfl
  ·go_wp2
   go_ret
   refine⟨?_,_,_,m,rfl⟩
   have:decide (n1=n2)=true:=by
    rw [decide_eq_true_iff]
    apply List.ext_getElem?
    intro j
    rcases Nat.lt_or_ge j k with h|h
    ·exact Hn.out j h
    ·rw [List.getElem?_eq_none (by omega),List.getElem?_eq_none (by have:=He.out;omega)]
   rw [this]
   rfl
theorem Same_ref {w:World} {s1 s2:Int} {n1 n2:List K4} {v1 v2:Value} (hl:n1.length≤1048576) (h1:Reads w v1 n1.length 4 (flat n1)) (h2:Reads w v2 n2.length 4 (flat n2)) :
  Calls Tryz.prog 22 #[.agg #[.int .i64 s1,v1],.agg #[.int .i64 s2,v2]] w fun e w'=>e=.returned (.bool (sameQ s1 s2 n1 n2))∧∃ o1 o2 n,w'=((w.alloc o1).alloc o2).drewN n:=by
 by_cases hs:s1=s2
 ·subst hs
  by_cases hn:n1.length=n2.length
  ·have:sameQ s1 s1 n1 n2=decide (n1=n2):=by simp [sameQ]
   rw [this]
   exact Same_near hl hn.symm h1 h2
  ·have:sameQ s1 s1 n1 n2=false:=by
    have:¬ n1=n2:=fun e=>hn (by rw [e])
    simp [sameQ,this]
   rw [this]
   obtain⟨_,a1,c1,rfl,_⟩:=h1
   obtain⟨_,a2,c2,rfl,_⟩:=h2
   refine (Same_far (.inr ⟨rfl,hn⟩)).mono ?_
   rintro e w' ⟨rfl,o1,o2,rfl⟩
   exact⟨rfl,o1,o2,0,rfl⟩
 ·have:sameQ s1 s2 n1 n2=false:=by simp [sameQ,hs]
  rw [this]
  obtain⟨_,a1,c1,rfl,_⟩:=h1
  obtain⟨_,a2,c2,rfl,_⟩:=h2
  refine (Same_far (.inl hs)).mono ?_
  rintro e w' ⟨rfl,o1,o2,rfl⟩
  exact⟨rfl,o1,o2,0,rfl⟩
end Go.Proofs.YtdanghnadbkhfaaGreat
end
section
namespace Go.Proofs.YtdanghnadbkhfaaGreat
open Go Go.RowKit Rg Mp Hp Qs Ev Bn Pt
theorem froms_room {s:Int} {ns:List K4} {p:List PC} (hl:ns.length≤100) (hp:p.length≤60) {L:Nat} (hL:L≤40) (x y:Int):room s ns (dums++(emptiesT L++newT L (p.map (spot x y)))):=by
 apply room.of_len
 have h1:=newT_len L (p.map (spot x y))
 have h2:(emptiesT L).length=L:=by simp [emptiesT]
 have h3:dums.length=300:=by unfold dums;exact List.length_replicate
 rw [List.length_map] at h1
 have h4:p.length*L≤60*40:=Nat.mul_le_mul hp hL
 rw [List.length_append,List.length_append,h2,h3]
 omega
set_option maxHeartbeats 16000000 in
set_option maxRecDepth 100000 in
theorem QuadmapFroms_calls {W:World} {s:Int} {ns:List K4} {a:Option Addr} {c:Nat} (hv:Reads W (.slice a ns.length c) ns.length 4 (flat ns)) {p:List PC} {pa:Option Addr} {pc:Nat} (hp:CellsAt W (.slice pa p.length pc) p) (x y l:Int) (hx:-9223372036854775808≤x∧x<9223372036854775808) (hy:-9223372036854775808≤y∧y<9223372036854775808) :
  Calls Tryz.prog 5 #[.agg #[.int .i64 s,.slice a ns.length c],.slice pa p.length pc,.agg #[.int .i64 x,.int .i64 y,.int .i64 l]] W fun e w'=>e=.returned (.bool true)∧Fr [] W w':=by
 have HLD:=Lib.hid (fun w1 (hf:Fr [] W w1)=>loaded_q (s:=s) (hv.fr hf))
 have HXY:=Lib.hid (And.intro hx hy)
 have HP:=Lib.hid hp
 clear hv hx hy hp
 by_cases hok:ns.length≤100∧GoodQ s ns
 case neg =>
  have Hok:=Lib.hid hok
  clear hok
  go_enter Tryz.func5,Tryz.ntmps5
  go_wp2_with fail
  refine (HLD.out _ (by (repeat first|exact Fr.refl _ _|assumption|apply Fr.n|apply Fr.d|apply Fr.a|refine Fr.s ?_ (.inr (by simp;try omega)) _))).mono ?_
  rintro e w1 ⟨_,h1⟩
  obtain⟨rfl,hf1⟩:=h1 Hok.out
  have Hf1:=Lib.hid hf1
  clear h1 hf1
  go_wp2_with fail
  refine (awake_q _).mono ?_
  rintro e w9 ⟨rfl,hf9⟩
  have Hf9:=Lib.hid (Fr.trans0 (by (repeat first|exact Fr.refl _ _|assumption|apply Fr.n|apply Fr.d|apply Fr.a|refine Fr.s ?_ (.inr (by simp;try omega)) _):Fr [] W _) (Hf1.out.trans0 (Fr.trans0 (by (repeat first|exact Fr.refl _ _|assumption|apply Fr.n|apply Fr.d|apply Fr.a|refine Fr.s ?_ (.inr (by simp;try omega)) _)) hf9)))
  clear hf9
  go_wp2
  go_ret
  exact⟨rfl,Hf9.out⟩
 obtain⟨hlen,hg⟩:=hok
 have Hok:=Lib.hid (And.intro hlen hg)
 by_cases hl60:60<p.length
 ·have hd:decide ((p.length:Int) > 60)=true:=by rw [decide_eq_true_eq];omega
  clear hl60 hlen hg
  go_enter Tryz.func5,Tryz.ntmps5
  go_wp2_with fail
  refine (HLD.out _ (by (repeat first|exact Fr.refl _ _|assumption|apply Fr.n|apply Fr.d|apply Fr.a|refine Fr.s ?_ (.inr (by simp;try omega)) _))).mono ?_
  rintro e w1 ⟨h1,_⟩
  obtain⟨b,r,rfl,h9⟩:=h1 Hok.out
  (try clear y0 y1 y2 yl Hy)
  have hy_:=(h9.fr.block (W.heap.size+1) (by first|(simp;done)|(simp;omega)) (by simp)).trans (show _=some (.cells #[.int .i64 x,.int .i64 y,.int .i64 l] 58 (0,0)) by (repeat first|rw [if_pos (by omega)]|rw [if_neg (by omega)]|rw [hDR]|rw [hDN]|rw [hAz]|rw [hSz]|rw [hAC]|rw [hSC]|rw [oMS]|rw [uPC]|rw [lSZ]|rw [lSS]|rfl))
  have y0:=hEC hy_ 0
  have y1:=hEC hy_ 1
  have y2:=hEC hy_ 2
  have yl:=lBk hy_
  have Hy:=Lib.hid hy_
  clear hy_
  have H1:=Lib.hid h9
  clear h1 h9
  go_wp2_with fail
  refine (awake_q _).mono ?_
  rintro e w9 ⟨rfl,hf9⟩
  have Hf9:=Lib.hid (Fr.trans0 (by (repeat first|exact Fr.refl _ _|assumption|apply Fr.n|apply Fr.d|apply Fr.a|refine Fr.s ?_ (.inr (by simp;try omega)) _):Fr [] W _) (H1.out.fr.trans0 (Fr.trans0 (by (repeat first|exact Fr.refl _ _|assumption|apply Fr.n|apply Fr.d|apply Fr.a|refine Fr.s ?_ (.inr (by simp;try omega)) _)) hf9)))
  clear hf9
  go_wp2
  go_ret
  exact⟨rfl,Hf9.out⟩
 have hd:decide ((p.length:Int) > 60)=false:=by rw [decide_eq_false_iff_not];omega
 have HPL:=Lib.hid (show p.length≤60 by omega)
 by_cases h40:40<l∧l≤256
 ·have hd1:decide (l > 40)=true:=by simpa using h40.1
  have hd2:decide (l≤256)=true:=by simpa using h40.2
  clear hl60 hlen hg h40
  go_enter Tryz.func5,Tryz.ntmps5
  go_wp2_with fail
  refine (HLD.out _ (by (repeat first|exact Fr.refl _ _|assumption|apply Fr.n|apply Fr.d|apply Fr.a|refine Fr.s ?_ (.inr (by simp;try omega)) _))).mono ?_
  rintro e w1 ⟨h1,_⟩
  obtain⟨b,r,rfl,h9⟩:=h1 Hok.out
  (try clear y0 y1 y2 yl Hy)
  have hy_:=(h9.fr.block (W.heap.size+1) (by first|(simp;done)|(simp;omega)) (by simp)).trans (show _=some (.cells #[.int .i64 x,.int .i64 y,.int .i64 l] 58 (0,0)) by (repeat first|rw [if_pos (by omega)]|rw [if_neg (by omega)]|rw [hDR]|rw [hDN]|rw [hAz]|rw [hSz]|rw [hAC]|rw [hSC]|rw [oMS]|rw [uPC]|rw [lSZ]|rw [lSS]|rfl))
  have y0:=hEC hy_ 0
  have y1:=hEC hy_ 1
  have y2:=hEC hy_ 2
  have yl:=lBk hy_
  have Hy:=Lib.hid hy_
  clear hy_
  have H1:=Lib.hid h9
  clear h1 h9
  go_wp2_with fail
  refine (awake_q _).mono ?_
  rintro e w9 ⟨rfl,hf9⟩
  have Hf9:=Lib.hid (Fr.trans0 (by (repeat first|exact Fr.refl _ _|assumption|apply Fr.n|apply Fr.d|apply Fr.a|refine Fr.s ?_ (.inr (by simp;try omega)) _):Fr [] W _) (H1.out.fr.trans0 (Fr.trans0 (by (repeat first|exact Fr.refl _ _|assumption|apply Fr.n|apply Fr.d|apply Fr.a|refine Fr.s ?_ (.inr (by simp;try omega)) _)) hf9)))
  clear hf9
  go_wp2
  go_ret
  exact⟨rfl,Hf9.out⟩
 obtain⟨o1,hd1⟩:∃ o,decide (l > 40)=o:=⟨_,rfl⟩
 obtain⟨o2,hd2⟩:∃ o,decide (l≤256)=o:=⟨_,rfl⟩
 have ho:o1=false∨(o1=true∧o2=false):=by
  rw [← hd1,← hd2]
  simp only [decide_eq_false_iff_not,decide_eq_true_eq]
  omega
 have HRM:=Lib.hid (show ∀ L:Nat,l=L→L≤256→rightP p=true→room s ns (dums++(emptiesT L++newT L (p.map (spot x y)))) from fun L h1 h2 _=>froms_room hlen HPL.out (by omega) x y)
 obtain⟨⟨⟨i,er⟩,ms⟩,hR⟩:∃ r,fromQ s ns p x y l=r:=⟨_,rfl⟩
 have HR:=Lib.hid hR
 obtain⟨⟨P,E⟩,hPE⟩:∃ r,patQ s ms i y x=r:=⟨_,rfl⟩
 have HPP:=Lib.hid (show P.length≤5000 from by have:=patQ_len s ms i y x;rw [hPE] at this;exact this)
 have HPE:=Lib.hid hPE
 have hee:(E == E)=true:=by simp
 have hrr:(er != er)=false:=by simp
 have hii:(i != i)=false:=by simp
 clear hlen hg hPE hR hl60 h40
 rcases ho with rfl|⟨rfl,rfl⟩
 all_goals
  go_enter Tryz.func5,Tryz.ntmps5
  go_wp2_with fail
  refine (HLD.out _ (by (repeat first|exact Fr.refl _ _|assumption|apply Fr.n|apply Fr.d|apply Fr.a|refine Fr.s ?_ (.inr (by simp;try omega)) _))).mono ?_
  rintro e w1 ⟨h1,_⟩
  obtain⟨b,r,rfl,h9⟩:=h1 Hok.out
  (try clear y0 y1 y2 yl Hy)
  have hy_:=(h9.fr.block (W.heap.size+1) (by first|(simp;done)|(simp;omega)) (by simp)).trans (show _=some (.cells #[.int .i64 x,.int .i64 y,.int .i64 l] 58 (0,0)) by (repeat first|rw [if_pos (by omega)]|rw [if_neg (by omega)]|rw [hDR]|rw [hDN]|rw [hAz]|rw [hSz]|rw [hAC]|rw [hSC]|rw [oMS]|rw [uPC]|rw [lSZ]|rw [lSS]|rfl))
  have y0:=hEC hy_ 0
  have y1:=hEC hy_ 1
  have y2:=hEC hy_ 2
  have yl:=lBk hy_
  have Hy:=Lib.hid hy_
  clear hy_
  have H1:=Lib.hid h9
  clear h1 h9
  go_wp2_with fail
  refine (From_q H1.out (HP.out.fr (Fr.trans0 (by (repeat first|exact Fr.refl _ _|assumption|apply Fr.n|apply Fr.d|apply Fr.a|refine Fr.s ?_ (.inr (by simp;try omega)) _)) H1.out.fr)) (by have:=HPL.out;omega) x y l HXY.out.1 HXY.out.2).mono ?_
  rw [HR.out]
  rintro e w2 ⟨rfl,h9⟩
  (try clear y0 y1 y2 yl Hy)
  have hy_:=(h9.fr.block (W.heap.size+1) (by first|(simp;done)|(simp;omega)) (by simp)).trans (show _=some (.cells #[.int .i64 x,.int .i64 y,.int .i64 l] 58 (0,0)) by (repeat first|rw [if_pos (by omega)]|rw [if_neg (by omega)]|rw [hDR]|rw [hDN]|rw [hAz]|rw [hSz]|rw [hAC]|rw [hSC]|rw [oMS]|rw [uPC]|rw [lSZ]|rw [lSS]|rfl))
  have y0:=hEC hy_ 0
  have y1:=hEC hy_ 1
  have y2:=hEC hy_ 2
  have yl:=lBk hy_
  have Hy:=Lib.hid hy_
  clear hy_
  have H2:=Lib.hid h9.swap
  clear h9 H1
  go_wp2_with fail
  refine (RFrom_q H2.out (HP.out.fr (by (repeat first|exact Fr.refl _ _|assumption|apply Fr.n|apply Fr.d|apply Fr.a|refine Fr.s ?_ (.inr (by simp;try omega)) _))) (by have:=HPL.out;omega) x y l HXY.out.1 HXY.out.2 HRM.out).mono ?_
  rw [HR.out]
  rintro e w3 ⟨rfl,h9⟩
  (try clear y0 y1 y2 yl Hy)
  have hy_:=(h9.fr.block (W.heap.size+1) (by first|(simp;done)|(simp;omega)) (by simp)).trans (show _=some (.cells #[.int .i64 x,.int .i64 y,.int .i64 l] 58 (0,0)) by (repeat first|rw [if_pos (by omega)]|rw [if_neg (by omega)]|rw [hDR]|rw [hDN]|rw [hAz]|rw [hSz]|rw [hAC]|rw [hSC]|rw [oMS]|rw [uPC]|rw [lSZ]|rw [lSS]|rfl))
  have y0:=hEC hy_ 0
  have y1:=hEC hy_ 1
  have y2:=hEC hy_ 2
  have yl:=lBk hy_
  have Hy:=Lib.hid hy_
  clear hy_
  have H3:=Lib.hid h9.swap
  have HGD:=Lib.hid (ref_good h9)
  clear h9 H2
  go_wp2_with fail
  refine (Data_has H3.out).mono ?_
  rintro e w4 ⟨da,dc,rfl,ho4,_,hf4⟩
  have h9:=(H3.out.newRow hf4 ho4).ord 3 [2,1,0]
  simp only [List.filterMap_cons,List.filterMap_nil,List.getElem?_cons_zero,List.getElem?_cons_succ,List.drop_succ_cons,List.drop_zero,List.cons_append,List.nil_append] at h9
  (try clear y0 y1 y2 yl Hy)
  have hy_:=(h9.fr.block (W.heap.size+1) (by first|(simp;done)|(simp;omega)) (by simp)).trans (show _=some (.cells #[.int .i64 x,.int .i64 y,.int .i64 l] 58 (0,0)) by (repeat first|rw [if_pos (by omega)]|rw [if_neg (by omega)]|rw [hDR]|rw [hDN]|rw [hAz]|rw [hSz]|rw [hAC]|rw [hSC]|rw [oMS]|rw [uPC]|rw [lSZ]|rw [lSS]|rfl))
  have y0:=hEC hy_ 0
  have y1:=hEC hy_ 1
  have y2:=hEC hy_ 2
  have yl:=lBk hy_
  have Hy:=Lib.hid hy_
  clear hy_
  have H4:=Lib.hid h9
  clear h9 H3 ho4 hf4
  go_wp2_with fail
  refine (RData_has H4.out).mono ?_
  rintro e w5 ⟨dv,rfl,h9⟩
  obtain⟨ea,ec,rfl,_,_⟩:=oFM h9.row
  (try clear y0 y1 y2 yl Hy)
  have hy_:=(h9.fr.block (W.heap.size+1) (by first|(simp;done)|(simp;omega)) (by simp)).trans (show _=some (.cells #[.int .i64 x,.int .i64 y,.int .i64 l] 58 (0,0)) by (repeat first|rw [if_pos (by omega)]|rw [if_neg (by omega)]|rw [hDR]|rw [hDN]|rw [hAz]|rw [hSz]|rw [hAC]|rw [hSC]|rw [oMS]|rw [uPC]|rw [lSZ]|rw [lSS]|rfl))
  have y0:=hEC hy_ 0
  have y1:=hEC hy_ 1
  have y2:=hEC hy_ 2
  have yl:=lBk hy_
  have Hy:=Lib.hid hy_
  clear hy_
  have HD2:=Lib.hid (Reads.of_owns h9.row)
  have HD1:=Lib.hid (Reads.of_owns (h9.ord 4 [3]).row)
  have h9:=h9.ord 4 [2,1]
  simp only [List.filterMap_cons,List.filterMap_nil,List.getElem?_cons_zero,List.getElem?_cons_succ,List.drop_succ_cons,List.drop_zero,List.cons_append,List.nil_append] at h9
  have H5:=Lib.hid h9
  clear h9 H4
  go_wp2_with fail
  refine (Same_ref (s1:=s) (s2:=s) (n1:=ms) (n2:=ms) (by have:=HGD.out.2.2.1;omega) (HD1.out.fr (by (repeat first|exact Fr.refl _ _|assumption|apply Fr.n|apply Fr.d|apply Fr.a|refine Fr.s ?_ (.inr (by simp;try omega)) _))) (HD2.out.fr (by (repeat first|exact Fr.refl _ _|assumption|apply Fr.n|apply Fr.d|apply Fr.a|refine Fr.s ?_ (.inr (by simp;try omega)) _)))).mono ?_
  rw [show sameQ s s ms ms=true by simp [sameQ]]
  rintro e w6 ⟨rfl,o1,o2,nq,hw6⟩
  have hf6:Fr [] w5 w6:=by rw [hw6];(repeat first|exact Fr.refl _ _|assumption|apply Fr.n|apply Fr.d|apply Fr.a|refine Fr.s ?_ (.inr (by simp;try omega)) _)
  have h9:=H5.out.step hf6
  (try clear y0 y1 y2 yl Hy)
  have hy_:=(h9.fr.block (W.heap.size+1) (by first|(simp;done)|(simp;omega)) (by simp)).trans (show _=some (.cells #[.int .i64 x,.int .i64 y,.int .i64 l] 58 (0,0)) by (repeat first|rw [if_pos (by omega)]|rw [if_neg (by omega)]|rw [hDR]|rw [hDN]|rw [hAz]|rw [hSz]|rw [hAC]|rw [hSC]|rw [oMS]|rw [uPC]|rw [lSZ]|rw [lSS]|rfl))
  have y0:=hEC hy_ 0
  have y1:=hEC hy_ 1
  have y2:=hEC hy_ 2
  have yl:=lBk hy_
  have Hy:=Lib.hid hy_
  clear hy_
  have H6:=Lib.hid h9
  clear h9 H5 HD1 HD2 hf6 hw6
  go_wp2_with fail
  refine (Pattern_q H6.out i y x HXY.out.2 HXY.out.1).mono ?_
  rw [HPE.out]
  rintro e w7 ⟨v1,rfl,h9⟩
  (try clear y0 y1 y2 yl Hy)
  have hy_:=(h9.fr.block (W.heap.size+1) (by first|(simp;done)|(simp;omega)) (by simp)).trans (show _=some (.cells #[.int .i64 x,.int .i64 y,.int .i64 l] 58 (0,0)) by (repeat first|rw [if_pos (by omega)]|rw [if_neg (by omega)]|rw [hDR]|rw [hDN]|rw [hAz]|rw [hSz]|rw [hAC]|rw [hSC]|rw [oMS]|rw [uPC]|rw [lSZ]|rw [lSS]|rfl))
  have y0:=hEC hy_ 0
  have y1:=hEC hy_ 1
  have y2:=hEC hy_ 2
  have yl:=lBk hy_
  have Hy:=Lib.hid hy_
  clear hy_
  obtain⟨av,cv,rfl,_,_⟩:=oFM h9.swap.row
  have h9:=h9.ord 3 [2,0,1]
  simp only [List.filterMap_cons,List.filterMap_nil,List.getElem?_cons_zero,List.getElem?_cons_succ,List.drop_succ_cons,List.drop_zero,List.cons_append,List.nil_append] at h9
  have H7:=Lib.hid h9
  clear h9 H6
  go_wp2_with fail
  refine (RPattern_q H7.out i y x HXY.out.2 HXY.out.1).mono ?_
  rw [HPE.out]
  rintro e w8 ⟨v2,rfl,h9⟩
  obtain⟨au,cu,rfl,_,_⟩:=oFM h9.swap.row
  have HR1:=Lib.hid (Reads.of_owns (h9.ord 4 [3]).row)
  have HR2:=Lib.hid (Reads.of_owns h9.swap.row)
  have H8:=Lib.hid h9
  clear h9 H7 y0 y1 y2 yl Hy
  go_wp2_with fail
  refine (Same_p (l:=P) (m:=P) (CellsAt.fr HR1.out (by (repeat first|exact Fr.refl _ _|assumption|apply Fr.n|apply Fr.d|apply Fr.a|refine Fr.s ?_ (.inr (by simp;try omega)) _))) (CellsAt.fr HR2.out (by (repeat first|exact Fr.refl _ _|assumption|apply Fr.n|apply Fr.d|apply Fr.a|refine Fr.s ?_ (.inr (by simp;try omega)) _))) (by have:=HPP.out;omega) (by have:=HPP.out;omega)).mono ?_
  rw [decide_eq_true rfl]
  rintro e w10 ⟨rfl,hf⟩
  have H9:=Lib.hid (H8.out.step (Fr.trans0 (by (repeat first|exact Fr.refl _ _|assumption|apply Fr.n|apply Fr.d|apply Fr.a|refine Fr.s ?_ (.inr (by simp;try omega)) _)) hf))
  clear hf H8 HR1 HR2
  go_wp2_with fail
  refine (awake_q _).mono ?_
  rintro e w9 ⟨rfl,hf9⟩
  have Hf9:=Lib.hid (Fr.trans0 (by (repeat first|exact Fr.refl _ _|assumption|apply Fr.n|apply Fr.d|apply Fr.a|refine Fr.s ?_ (.inr (by simp;try omega)) _):Fr [] W _) (H9.out.fr.trans0 (Fr.trans0 (by (repeat first|exact Fr.refl _ _|assumption|apply Fr.n|apply Fr.d|apply Fr.a|refine Fr.s ?_ (.inr (by simp;try omega)) _)) hf9)))
  clear hf9
  go_wp2
  go_ret
  exact⟨rfl,Hf9.out⟩
end Go.Proofs.YtdanghnadbkhfaaGreat
end
section
namespace Go.Proofs.Lw
open Go Go.ChangeShapes Go.WideShapes Go.ChangeAt Go.RowKit Hp
theorem args_stay {H:Type} {enc:TypeId×Value→H} {P:Program} (hl:laidOutB P=true) {W W':World} (hb:Below W.heap.size W W') :
  ∀ {ts:List TypeId} {vs:List Value} {ds:List (DataW H)} {ps:List MemPlace},ts.all (fun t=>P.readableRec t && decide (t<P.types.size))=true→DataW.TrodAll enc P W 0 (fun _=>true) true ts vs ds ps →
   (∀ x∈ps,x.block<W.heap.size)→DataW.TrodAll enc P W' 0 (fun b=>decide (b<W.heap.size)) true ts vs ds ps:=by
 intro ts
 induction ts with
 | nil=>intro vs ds ps _ h _;obtain⟨rfl,rfl,rfl⟩:=trodAll_nil h;exact trodAll_mk0
 | cons t ts ih =>
  intro vs ds ps hok h hlt
  obtain⟨v,vs1,d,ds1,p,q,rfl,rfl,rfl,h1,h2⟩:=trodAll_cons h
  simp only [List.all_cons,Bool.and_eq_true,decide_eq_true_eq] at hok
  exact trodAll_cons_mk (Below.trod hl hok.1.1 hok.1.2 h1 hb fun x hx=>hlt x (List.mem_append_left _ hx)) (ih (by simpa only [List.all_eq_true,Bool.and_eq_true,decide_eq_true_eq] using hok.2) h2 fun x hx=>hlt x (List.mem_append_right _ hx))
theorem law_post {H:Type} {enc:TypeId×Value→H} {P:Program} (hl:laidOutB P=true) {f:Func} {s:ChangeSpec} {ts:List TypeId} {tb:TypeId} (hf:f.params.toList=ts) (hr:f.resultTypes=#[tb])
  (hb:P.underlying tb=some .bool) (hv:s.vars=[]) (hok:ts.all (fun t=>P.readableRec t && decide (t<P.types.size))=true)
  (hfn:∀ ds:List (DataW H),ds.length=ts.length→s.fn H ds={ results:=[.lit (.bool true)],args:=ds }) {W W':World} {args:Array Value} {ds gs:List (DataW H)} {before:List MemPlace}
  (hW:DataW.Whole enc P f.params.toList s.vars false W args.toList ds gs before) (hB:Fr [] W W'):s.post enc P f false true false false W args (.bool true) W':=by
 have hW':=hW
 obtain⟨p,q,hA,hV,rfl,hfz,hnd⟩:=hW
 rw [hf] at hA
 rw [hv] at hV
 obtain⟨rfl,rfl⟩:=trodVars_none hV
 have hlen:∀ {ts:List TypeId} {vs:List Value} {ds:List (DataW H)} {ps:List MemPlace},DataW.TrodAll enc P W 0 (fun _=>true) true ts vs ds ps→ds.length=ts.length:=by
  intro ts
  induction ts with
  | nil=>intro vs ds ps h;obtain⟨rfl,rfl,rfl⟩:=trodAll_nil h;rfl
  | cons t ts ih=>intro vs ds ps h;obtain⟨v,vs1,d,ds1,p,q,rfl,rfl,rfl,h1,h2⟩:=trodAll_cons h;simp [ih h2]
 have e:=hfn (ds++[]) (by simpa using hlen hA)
 refine⟨ds,[],p++[],[],p,[],hW',?_,?_,?_,hB.below.frame _ |> World.keptBut_mono (w:=W) (w':=W') (fun x hx=>hx),fun h=>by cases h⟩
 ·rw [e,hr]
  exact trodAll_mk1 (shut_bool hb true)
 ·rw [e,hf,List.append_nil]
  exact args_stay hl hB.below hok hA fun x hx=>by simpa using hW'.lt x (by simpa using hx)
 ·rw [e,hv]
  exact rfl
theorem open_rows {H:Type} {enc:TypeId×Value→H} {P:Program} {W:World} {t e:TypeId} {sz fuel n c:Nat} {a:Option Addr} {x:DataW H×List MemPlace} (ht:P.underlying t=some (.slice e)) (hsz:P.cellsOf e=sz) (hpos:0<sz)
  (h:DataW.trod enc P W 0 (fun _=>true) true fuel t [.slice a n c]=some x) :
  n≤c∧c≤maxLen∧∃ xs:List (List Value),xs.length=n∧(∀ cs'∈xs,cs'.length=sz∧∃ fuel y,DataW.trod enc P W 0 (fun _=>true) true fuel e cs'=some y) ∧
   (a=none→n=0∧c=0)∧(0<n→∃ g off,a=some ⟨g,off,none⟩∧g<W.heap.size∧∀ j u,xs.flatten[j]?=some u→W.cell? ⟨g,off+j,none⟩=some u):=by
 rcases Go.Deep.open_slice ht h with ⟨h0,_⟩|⟨ad,len,cap,m,k,D,Pl,hcs,_,hlc,hcm,hm,_,hx⟩
 ·simp only [List.cons.injEq,Value.slice.injEq,and_true] at h0
  obtain⟨rfl,rfl,rfl⟩:=h0
  exact⟨Nat.le_refl _,Nat.zero_le _,[],rfl,by simp,by simp,by omega⟩
 ·simp only [List.cons.injEq,Value.slice.injEq,and_true] at hcs
  obtain⟨rfl,rfl,rfl⟩:=hcs
  simp only [if_true] at hm
  subst hm
  rw [hsz] at hx
  obtain⟨C,hC⟩:=Go.Deep.choose_lt (α:=List Value) (n:=m) (p:=fun i cs'=>W.cells? 0 (ad.add (i*sz)) sz=some cs'∧DataW.trod enc P W 0 (fun _=>true) true k e cs'=some (D i,Pl i)) hx
  have hlen:∀ i,i<n→(C i).length=sz:=fun i hi=>(World.cells?_some (hC i (by omega)).1).2.1
  refine⟨hlc,hcm,(List.range n).map C,by simp,?_,by simp,?_⟩
  ·intro cs' hm'
   obtain⟨i,hi,rfl⟩:=List.mem_map.1 hm'
   have hi':=List.mem_range.1 hi
   exact⟨hlen i hi',k,_,(hC i (by omega)).2⟩
  ·intro hn
   have h0:=(hC 0 (by omega)).1
   have hblock:=World.cells?_block h0 hpos
   obtain⟨g,off,spot⟩:=ad
   have hsp:spot=none:=by
    have hl0:=(World.cells?_some h0).2.1
    have hc0:=(World.cells?_some h0).2.2 0 (by omega)
    rw [List.getElem?_eq_getElem (by omega)] at hc0
    simpa [Addr.add] using World.cell?_spot hc0
   subst hsp
   refine⟨g,off,rfl,by simpa [Addr.add] using hblock,?_⟩
   have key:∀ k,k≤n→∀ j u,((List.range k).map C).flatten[j]?=some u→W.cell? ⟨g,off+j,none⟩=some u:=by
    intro k
    induction k with
    | zero=>intro _ j u hj;simp at hj
    | succ k ih =>
     intro hk j u hj
     have hfl:∀ q,q≤n→((List.range q).map C).flatten.length=q*sz:=by
      intro q
      induction q with
      | zero=>intro _;simp
      | succ q iq=>intro hq;rw [List.range_succ,List.map_append,List.flatten_append,List.length_append,iq (by omega)];simp [hlen q (by omega),Nat.succ_mul]
     rw [List.range_succ,List.map_append,List.flatten_append] at hj
     rcases Nat.lt_or_ge j (k*sz) with h1|h1
     ·rw [List.getElem?_append_left (by rw [hfl k (by omega)];exact h1)] at hj
      exact ih (by omega) j u hj
     ·rw [List.getElem?_append_right (by rw [hfl k (by omega)];exact h1),hfl k (by omega)] at hj
      simp only [List.map_cons,List.map_nil,List.flatten_cons,List.flatten_nil,List.append_nil] at hj
      have hjl:=(List.getElem?_eq_some_iff.1 hj).1
      rw [hlen k (by omega)] at hjl
      have:=(World.cells?_some (hC k (by omega)).1).2.2 (j - k*sz) (by omega)
      rw [hj,add_plain,add_plain] at this
      rw [show off+j=off+k*sz+(j - k*sz) by omega]
      exact this
   exact key n (Nat.le_refl _)
theorem map_of_all {α β:Type} {f:β→α}:∀ {xs:List α},(∀ x∈xs,∃ k,x=f k)→∃ ks:List β,xs=ks.map f
 | [],_=>⟨[],rfl⟩
 | x::xs,h=>by
  obtain⟨k,rfl⟩:=h x (by simp)
  obtain⟨ks,rfl⟩:=map_of_all (xs:=xs) fun y hy=>h y (by simp [hy])
  exact⟨k::ks,rfl⟩
end Go.Proofs.Lw
end
section
namespace Go.Proofs.YtdanghnadbkhfaaGreat
open Go Go.ChangeShapes Go.WideShapes Go.ChangeAt Go.RowKit Hp Lw Qs Bn Pt
set_option maxRecDepth 100000
theorem open_cell3 {H:Type} {enc:TypeId×Value→H} {W:World} {fuel:Nat} {cs:List Value} {x:DataW H×List MemPlace} (h:DataW.trod enc Tryz.prog W 0 (fun _=>true) true fuel 75 cs=some x) :
  ∃ k:PC,cs=[.int .i64 k.x,.int .i64 k.y,.int .i64 k.st]:=by
 obtain⟨xs,n,rfl,rfl,hl,hn,hf⟩:=DataW.trod_struct Tryz.underlying75 h
 have hl3:cs.length=3:=hl.trans (by kernel_rfl)
 have hx3:xs.length=3:=hn
 have k1:Tryz.prog.cellsOf 3=1:=by kernel_rfl
 match cs,hl3 with
 | [c0,c1,c2],_ =>
  have h0:=hf 0 _ rfl
  have h1:=hf 1 _ rfl
  have h2:=hf 2 _ rfl
  rw [List.getElem?_eq_getElem (by omega)] at h0 h1 h2
  change DataW.trod enc Tryz.prog W 0 (fun _=>true) true n 3 (([c0,c1,c2].drop 0).take (Tryz.prog.cellsOf 3))=some _ at h0
  change DataW.trod enc Tryz.prog W 0 (fun _=>true) true n 3 (([c0,c1,c2].drop 1).take (Tryz.prog.cellsOf 3))=some _ at h1
  change DataW.trod enc Tryz.prog W 0 (fun _=>true) true n 3 (([c0,c1,c2].drop 2).take (Tryz.prog.cellsOf 3))=some _ at h2
  rw [k1] at h0 h1 h2
  simp only [List.drop_zero,List.drop_succ_cons,List.take_succ_cons,List.take_zero] at h0 h1 h2
  obtain⟨a,ha,_⟩:=DataW.trod_int Tryz.underlying3 h0
  obtain⟨b,hb,_⟩:=DataW.trod_int Tryz.underlying3 h1
  obtain⟨c,hc,_⟩:=DataW.trod_int Tryz.underlying3 h2
  simp only [List.cons.injEq,and_true] at ha hb hc
  exact⟨⟨a,b,c⟩,by rw [ha,hb,hc]⟩
theorem flat_pcs (l:List PC):(l.map fun k:PC=>[Value.int .i64 k.x,.int .i64 k.y,.int .i64 k.st]).flatten=pcs l:=by
 rw [pcs,List.flatMap_def]
theorem pcs_length (l:List PC):(pcs l).length=l.length*3:=by
 induction l with
 | nil=>rfl
 | cons c l ih=>rw [pcs,List.flatMap_cons,List.length_append,← pcs,ih];simp;omega
theorem open_pattern {H:Type} {enc:TypeId×Value→H} {W:World} {base:Nat} {v:Value} {d:DataW H} {ps:List MemPlace} (hval:Value.okWide Tryz.prog W .any base 51 v)
  (h:DataW.Trod enc Tryz.prog W 0 (fun _=>true) true 51 v d ps) :
  ∃ a c p,v=.slice a (List.length p) c∧CellsAt W (.slice a p.length c) p:=by
 obtain⟨fuel,hf⟩:=h
 have hform:∃ a n c,v=.slice a n c:=okWide_slice Tryz.underlying51 hval
 obtain⟨a,len,c,rfl⟩:=hform
 obtain⟨_,_,xs,hxl,hxs,_,hcell⟩:=open_rows Tryz.underlying51 (sz:=3) (by kernel_rfl) (by omega) hf
 obtain⟨p,rfl⟩:=map_of_all (f:=fun k:PC=>[Value.int .i64 k.x,.int .i64 k.y,.int .i64 k.st]) fun x hx=>by
  obtain⟨_,fuel,y,hy⟩:=hxs x hx
  exact open_cell3 hy
 obtain rfl:p.length=len:=by simpa using hxl
 rw [flat_pcs] at hcell
 exact⟨a,c,p,rfl,pcs_length p,a,c,rfl,hcell⟩
def I64 (z:Int):Prop:=-9223372036854775808≤z∧z<9223372036854775808
theorem open_place {H:Type} {enc:TypeId×Value→H} {W:World} {base:Nat} {v:Value} {d:DataW H} {ps:List MemPlace} (hval:Value.okWide Tryz.prog W .any base 58 v)
  (h:DataW.Trod enc Tryz.prog W 0 (fun _=>true) true 58 v d ps) :
  ∃ x y l:Int,v=.agg #[.int .i64 x,.int .i64 y,.int .i64 l]∧I64 x∧I64 y∧I64 l:=by
 obtain⟨cs,rfl,hsz⟩:=okWide_struct Tryz.underlying58 hval
 have hs3:cs.size=3:=hsz.trans (by kernel_rfl)
 obtain⟨fuel,hf⟩:=h
 obtain⟨xs,n,rfl,_,_,hn,hf⟩:=DataW.trod_struct Tryz.underlying58 hf
 obtain⟨c0,c1,c2,rfl⟩:∃ c0 c1 c2,cs=#[c0,c1,c2]:=⟨cs[0],cs[1],cs[2],by apply Array.ext<;>simp [hs3];intro i hi;match i,hi with|0,_=>intro _;rfl|1,_=>intro _;rfl|2,_=>intro _;rfl⟩
 have k1:Tryz.prog.cellsOf 3=1:=by kernel_rfl
 have hx3:xs.length=3:=hn
 have h0:=hf 0 _ rfl
 have h1:=hf 1 _ rfl
 have h2:=hf 2 _ rfl
 rw [List.getElem?_eq_getElem (by omega)] at h0 h1 h2
 change DataW.trod enc Tryz.prog W 0 (fun _=>true) true n 3 (([c0,c1,c2].drop 0).take (Tryz.prog.cellsOf 3))=some _ at h0
 change DataW.trod enc Tryz.prog W 0 (fun _=>true) true n 3 (([c0,c1,c2].drop 1).take (Tryz.prog.cellsOf 3))=some _ at h1
 change DataW.trod enc Tryz.prog W 0 (fun _=>true) true n 3 (([c0,c1,c2].drop 2).take (Tryz.prog.cellsOf 3))=some _ at h2
 rw [k1] at h0 h1 h2
 simp only [List.drop_zero,List.drop_succ_cons,List.take_succ_cons,List.take_zero] at h0 h1 h2
 obtain⟨a,ha,_,wa⟩:=DataW.trod_int Tryz.underlying3 h0
 obtain⟨b,hb,_,wb⟩:=DataW.trod_int Tryz.underlying3 h1
 obtain⟨c,hc,_,wc⟩:=DataW.trod_int Tryz.underlying3 h2
 simp only [List.cons.injEq,and_true] at ha hb hc
 subst ha hb hc
 refine⟨a,b,c,rfl,?_,?_,?_⟩
 ·have:-9223372036854775808≤a∧a≤9223372036854775807:=by simpa [Lit.wf,IntKind.min,IntKind.max,IntKind.signed,IntKind.bits] using wa
  exact⟨this.1,by omega⟩
 ·have:-9223372036854775808≤b∧b≤9223372036854775807:=by simpa [Lit.wf,IntKind.min,IntKind.max,IntKind.signed,IntKind.bits] using wb
  exact⟨this.1,by omega⟩
 ·have:-9223372036854775808≤c∧c≤9223372036854775807:=by simpa [Lit.wf,IntKind.min,IntKind.max,IntKind.signed,IntKind.bits] using wc
  exact⟨this.1,by omega⟩
end Go.Proofs.YtdanghnadbkhfaaGreat
end
section
namespace Go.Proofs.YtdanghnadbkhfaaGreat
open Go Go.ChangeShapes Go.WideShapes Go.RowKit Hp Qs Lw
set_option maxRecDepth 100000
theorem open_quad {H:Type} {enc:TypeId×Value→H} {W:World} {fuel:Nat} {cs:List Value} {x:DataW H×List MemPlace} (h:DataW.trod enc Tryz.prog W 0 (fun _=>true) true fuel 105 cs=some x) :
  ∃ k:K4,cs=[.int .i64 k.a,.int .i64 k.b,.int .i64 k.c,.int .i64 k.d]:=by
 obtain⟨xs,n,rfl,rfl,hl,hn,hf⟩:=DataW.trod_struct Tryz.underlying105 h
 have hl4:cs.length=4:=hl.trans (by kernel_rfl)
 have h0:=hf 0 _ rfl
 have hx0:xs.length=1:=hn
 rw [List.getElem?_eq_getElem (by omega)] at h0
 have hc4:Tryz.prog.cellsOf 81=4:=by kernel_rfl
 have hc1:Tryz.prog.cellsOf 3=1:=by kernel_rfl
 change DataW.trod enc Tryz.prog W 0 (fun _=>true) true n 81 ((cs.drop 0).take (Tryz.prog.cellsOf 81))=some _ at h0
 rw [hc4,List.drop_zero,List.take_of_length_le (by omega)] at h0
 obtain⟨ys,m,rfl,_,_,hy,hg⟩:=DataW.trod_array Tryz.underlying81 h0
 rw [hc1] at hg
 have hi:∀ i,i<4→∃ z,(cs.drop i).take 1=[.int .i64 z]:=fun i hi=>by
  have:=hg i hi
  rw [List.getElem?_eq_getElem (by omega),Nat.mul_one] at this
  obtain⟨z,hz,_⟩:=DataW.trod_int Tryz.underlying3 this
  exact⟨z,hz⟩
 match cs,hl4 with
 | [c0,c1,c2,c3],_ =>
  obtain⟨a,ha⟩:=hi 0 (by omega)
  obtain⟨b,hb⟩:=hi 1 (by omega)
  obtain⟨c,hc⟩:=hi 2 (by omega)
  obtain⟨d,hd⟩:=hi 3 (by omega)
  simp at ha hb hc hd
  exact⟨⟨a,b,c,d⟩,by rw [ha,hb,hc,hd]⟩
theorem flat_map (ns:List K4):(ns.map fun k:K4=>[Value.int .i64 k.a,.int .i64 k.b,.int .i64 k.c,.int .i64 k.d]).flatten=flat ns:=by
 rw [flat,List.flatMap_def]
theorem open_quads {H:Type} {enc:TypeId×Value→H} {W:World} {base:Nat} {v:Value} {d:DataW H} {ps:List MemPlace} (hval:Value.okWide Tryz.prog W .any base 24 v)
  (h:DataW.Trod enc Tryz.prog W 0 (fun _=>true) true 24 v d ps) :
  ∃ s a c ns,v=.agg #[.int .i64 s,.slice a ns.length c]∧Reads W (.slice a ns.length c) ns.length 4 (flat ns):=by
 obtain⟨cs,rfl,hsz⟩:=okWide_struct Tryz.underlying24 hval
 have hs2:cs.size=2:=hsz.trans (by kernel_rfl)
 obtain⟨fuel,hf⟩:=h
 obtain⟨xs,n,rfl,_,_,hn,hf⟩:=DataW.trod_struct Tryz.underlying24 hf
 obtain⟨c0,c1,rfl⟩:∃ c0 c1,cs=#[c0,c1]:=⟨cs[0],cs[1],by apply Array.ext<;>simp [hs2];intro i hi;match i,hi with|0,_=>intro _;rfl|1,_=>intro _;rfl⟩
 have hc1:Tryz.prog.cellsOf 3=1:=by kernel_rfl
 have hc2:Tryz.prog.cellsOf 22=1:=by kernel_rfl
 have hx2:xs.length=2:=hn
 have h0:=hf 0 _ rfl
 have h1:=hf 1 _ rfl
 rw [List.getElem?_eq_getElem (by omega)] at h0 h1
 change DataW.trod enc Tryz.prog W 0 (fun _=>true) true n 3 (([c0,c1].drop 0).take (Tryz.prog.cellsOf 3))=some _ at h0
 change DataW.trod enc Tryz.prog W 0 (fun _=>true) true n 22 (([c0,c1].drop 1).take (Tryz.prog.cellsOf 22))=some _ at h1
 rw [hc1] at h0
 rw [hc2] at h1
 simp only [List.drop_zero,List.drop_succ_cons,List.take_succ_cons,List.take_zero] at h0 h1
 obtain⟨s,hs,_⟩:=DataW.trod_int Tryz.underlying3 h0
 simp only [List.cons.injEq,and_true] at hs
 subst hs
 have hform:∃ a n c,c1=.slice a n c:=by
  rcases DataW.trod_slice Tryz.underlying22 h1 with ⟨h,_⟩|⟨a,len,cap,_,_,_,_,h,_⟩
  ·simp only [List.cons.injEq,and_true] at h;exact⟨_,_,_,h⟩
  ·simp only [List.cons.injEq,and_true] at h;exact⟨_,_,_,h⟩
 obtain⟨a,len,c,rfl⟩:=hform
 obtain⟨_,_,xs,hxl,hxs,_,hcell⟩:=open_rows Tryz.underlying22 (sz:=4) (by kernel_rfl) (by omega) h1
 obtain⟨ns,rfl⟩:=map_of_all (f:=fun k:K4=>[Value.int .i64 k.a,.int .i64 k.b,.int .i64 k.c,.int .i64 k.d]) fun x hx=>by
  obtain⟨_,fuel,y,hy⟩:=hxs x hx
  exact open_quad hy
 obtain rfl:ns.length=len:=by simpa using hxl
 rw [flat_map] at hcell
 exact⟨s,a,c,ns,rfl,flat_length ns,a,c,rfl,hcell⟩
end Go.Proofs.YtdanghnadbkhfaaGreat
end
