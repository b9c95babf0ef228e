/- Own texts of this claim, part 35: no condition. -/
import Derived.Test.YtdanghnadbkhfaaGreatZG31
import Derived.Test.YtdanghnadbkhfaaGreatZG30
import Derived.Test.YtdanghnadbkhfaaGreatZG33
import Derived.Test.YtdanghnadbkhfaaGreatZG20
import Derived.Test.YtdanghnadbkhfaaGreatZG25
set_option linter.unusedVariables false
set_option linter.unusedSimpArgs false
section
namespace Go.Proofs.YtdanghnadbkhfaaGreat
open Go Go.RowKit Rg Mp Hp Pt
set_option maxHeartbeats 16000000 in
set_option maxRecDepth 100000 in
theorem RFrom5_h {w:World} {l:List PC} {a:Option Addr} {c:Nat} (hl:CellsAt w (.slice a l.length c) l) (hlen:l.length≤60000) :
  Calls Tryz.prog 60 #[.slice a l.length c] w fun e w'=>∃ v,e=.returned (.tuple #[v,.int .i64 (fromP l).2])∧Has w w' [Hp.row 75 3 v (fromP l).1.length (pcs (fromP l).1)]:=by
 have HL:=Lib.hid hl
 obtain⟨m,hm⟩:∃ m,l.length=m:=⟨_,rfl⟩
 have HM:=Lib.hid hm
 have hm6:m≤60000:=by omega
 obtain⟨R,hR⟩:∃ R,fromP l=R:=⟨_,rfl⟩
 have HR:=Lib.hid hR
 rw [hm,hR]
 clear hl hlen hm hR
 go_enter Tryz.func60,Tryz.ntmps60
 go_wp2
 go_loopw [5] (fun x5 wr=>∃ (i:Nat),x5=.int .i64 (i:Nat)∧i≤m∧badP (l.take i)=0∧Fr [] w wr) (fun x _=>m - (intOf x).toNat)
 case atStart=>exact⟨0,rfl,by omega,rfl,Fr.refl _ _⟩
 case round =>
  obtain⟨i,rfl,him,hb,hf⟩:=hrel
  have HBD:=Lib.hid hb
  have HF:=Lib.hid hf
  clear hb hf
  by_cases hlt:i<m
  ·obtain⟨⟨cx,cy,st⟩,hpi⟩:∃ c,l[i]?=some c:=⟨_,List.getElem?_eq_getElem (by rw [HM.out];exact hlt)⟩
   obtain⟨g,off,rfl,hg,e0,e1,e2⟩:=(HL.out.fr HF.out).cell hpi
   simp only at e0 e1 e2
   have HPI:=Lib.hid hpi
   clear hpi
   go_wp2
   (refine wRT (by kernel_rfl) (by kernel_rfl) ?_)
   go_wp2_with fail
   refine (place_p cx cy _).mono ?_
   obtain⟨pb,hpb⟩:∃ b,placeB cx cy=b:=⟨_,rfl⟩
   rw [hpb]
   rintro e w5 ⟨rfl,rfl⟩
   have HPB:=Lib.hid hpb
   clear hpb
   cases pb with
   | false =>
    have HE:=Lib.hid (show R=([],5) by
     have hb5:badP [⟨cx,cy,st⟩]=5:=by unfold badP;rw [if_pos HPB.out]
     have hb:badP l=5:=by rw [bad_here HBD.out HPI.out (by rw [hb5];decide),hb5]
     rw [← HR.out,fromP_bad (by rw [hb];decide),hb])
    go_wp2
    refine Strict.intro rfl ?_
    go_wp2
    go_ret2
    rw [HE.out]
    refine⟨_,rfl,?_⟩
    exact (Has.nil (Fr.trans0 HF.out (by (repeat first|exact Fr.refl _ _|assumption|apply Fr.n|apply Fr.d|apply Fr.a|refine Fr.s ?_ (.inr (by simp;try omega)) _)))).newRow (T:=75) (size:=3) (Fr.refl [] _) (owns_none _ _ _ _)
   | true =>
   go_wp2
   refine Strict.intro rfl ?_
   by_cases hs0:st<0
   ·have hd0:decide (st<0)=true:=by simpa using hs0
    have HE:=Lib.hid (show R=([],10) by
     have hb5:badP [⟨cx,cy,st⟩]=10:=by unfold badP;rw [if_neg (by simp [HPB.out]),if_pos (.inl hs0)]
     have hb:badP l=10:=by rw [bad_here HBD.out HPI.out (by rw [hb5];decide),hb5]
     rw [← HR.out,fromP_bad (by rw [hb];decide),hb])
    clear hs0
    go_wp2
    go_ret2
    rw [HE.out]
    refine⟨_,rfl,?_⟩
    exact (Has.nil (Fr.trans0 HF.out (by (repeat first|exact Fr.refl _ _|assumption|apply Fr.n|apply Fr.d|apply Fr.a|refine Fr.s ?_ (.inr (by simp;try omega)) _)))).newRow (T:=75) (size:=3) (Fr.refl [] _) (owns_none _ _ _ _)
   have hd0:decide (st<0)=false:=by simpa using hs0
   by_cases hs8:8≤st
   ·have hd8:decide (st ≥ 8)=true:=by simpa using hs8
    have HE:=Lib.hid (show R=([],10) by
     have hb5:badP [⟨cx,cy,st⟩]=10:=by unfold badP;rw [if_neg (by simp [HPB.out]),if_pos (.inr hs8)]
     have hb:badP l=10:=by rw [bad_here HBD.out HPI.out (by rw [hb5];decide),hb5]
     rw [← HR.out,fromP_bad (by rw [hb];decide),hb])
    clear hs0 hs8
    go_wp2
    go_ret2
    rw [HE.out]
    refine⟨_,rfl,?_⟩
    exact (Has.nil (Fr.trans0 HF.out (by (repeat first|exact Fr.refl _ _|assumption|apply Fr.n|apply Fr.d|apply Fr.a|refine Fr.s ?_ (.inr (by simp;try omega)) _)))).newRow (T:=75) (size:=3) (Fr.refl [] _) (owns_none _ _ _ _)
   have hd8:decide (st ≥ 8)=false:=by simpa using hs8
   have HN:=Lib.hid (bad_next HBD.out HPI.out (show badP [⟨cx,cy,st⟩]=0 by unfold badP;rw [if_neg (by simp [HPB.out]),if_neg (by dsimp only;omega)];rfl))
   clear hs0 hs8
   go_wp2
   go_roundw
   case rel=>exact⟨i+1,by go_num,by omega,HN.out,Fr.trans0 HF.out (by (repeat first|exact Fr.refl _ _|assumption|apply Fr.n|apply Fr.d|apply Fr.a|refine Fr.s ?_ (.inr (by simp;try omega)) _))⟩
   case measure=>simp [intOf];omega
  ·obtain rfl:i=m:=by omega
   have HB0:=Lib.hid (show badP l=0 from by have:=HBD.out;rwa [List.take_of_length_le (by rw [HM.out];exact Nat.le_refl _)] at this)
   have H0:=Lib.hid (show Has w wr [Hp.row 75 3 (.slice none 0 0) (sortP (someP (l.take 0))).length (pcs (sortP (someP (l.take 0))))] from (Has.nil HF.out).newRow (T:=75) (size:=3) (Fr.refl [] _) (owns_none _ _ _ _))
   clear HBD HF
   go_wp2
   go_loopw [4,6] (fun x4 x6 wr=>∃ (k:Nat) (v:Value),(v=x4∧x6=.int .i64 (k:Nat))∧k≤i∧Has w wr [Hp.row 75 3 v (sortP (someP (l.take k))).length (pcs (sortP (someP (l.take k))))]) (fun _ x _=>i - (intOf x).toNat)
   case atStart=>exact⟨0,_,⟨rfl,rfl⟩,by omega,H0.out⟩
   case round =>
    clear H0
    obtain⟨k,v4,⟨rfl,rfl⟩,hkm,h⟩:=hrel
    have H:=Lib.hid h
    clear h
    by_cases hlt:k<i
    ·obtain⟨⟨cx,cy,st⟩,hpi⟩:∃ c,l[k]?=some c:=⟨_,List.getElem?_eq_getElem (by rw [HM.out];exact hlt)⟩
     obtain⟨g,off,rfl,hg,e0,e1,e2⟩:=(HL.out.fr H.out.fr).cell hpi
     simp only at e0 e1 e2
     have HSN:=Lib.hid (some_next hpi)
     clear hpi
     obtain⟨Q,hQ⟩:∃ Q,sortP (someP (l.take k))=Q:=⟨_,rfl⟩
     have HQ:=Lib.hid hQ
     have HQL:=Lib.hid (show Q.length≤60000 from by
      rw [← hQ,(sortP_perm _).length_eq]
      unfold someP
      refine Nat.le_trans (List.length_filter_le _ _) ?_
      rw [List.length_take];omega)
     have h:=H.out
     rw [hQ] at h
     have H:=Lib.hid h
     clear h hQ
     by_cases hs:st=0
     ·have hd:(st != 0)=false:=by simp [hs]
      have hd2:(st == 0)=true:=by simp [hs]
      have HNX:=Lib.hid (show sortP (someP (l.take (k+1)))=Q by rw [HSN.out,if_neg (by simpa using hs),List.append_nil,HQ.out])
      clear hs
      go_wp2
      go_roundw
      case rel=>exact⟨k+1,_,⟨rfl,by go_num⟩,by omega,by rw [HNX.out];exact H.out.step (by (repeat first|exact Fr.refl _ _|assumption|apply Fr.n|apply Fr.d|apply Fr.a|refine Fr.s ?_ (.inr (by simp;try omega)) _))⟩
      case measure=>simp [intOf];omega
     ·have hd:(st != 0)=true:=by simp [hs]
      have HNX:=Lib.hid (show sortP (someP (l.take (k+1)))=insP ⟨cx,cy,st⟩ Q by rw [HSN.out,if_pos hs,sortP_snoc,HQ.out])
      obtain⟨av,cv,rfl,_,_⟩:=oFM H.out.row
      have HIN:=Lib.hid (show ∀ w1,Fr [] wr w1→_ from fun w1 hf=>Rinsert_h ((CellsAt.fr (Reads.of_owns H.out.row) hf)) (by have:=HQL.out;omega) ⟨cx,cy,st⟩)
      simp only [pcV] at HIN
      clear hs
      go_wp2_with fail
      refine (HIN.out _ (by (repeat first|exact Fr.refl _ _|assumption|apply Fr.n|apply Fr.d|apply Fr.a|refine Fr.s ?_ (.inr (by simp;try omega)) _))).mono ?_
      rintro e w6 ⟨v6,rfl,h6⟩
      have h7:=has_join (H.out.step (by (repeat first|exact Fr.refl _ _|assumption|apply Fr.n|apply Fr.d|apply Fr.a|refine Fr.s ?_ (.inr (by simp;try omega)) _))) h6
      have h7:=h7.ord 2 [0]
      simp only [List.filterMap_cons,List.filterMap_nil,List.getElem?_cons_zero,List.getElem?_cons_succ,List.drop_succ_cons,List.drop_zero,List.cons_append,List.nil_append] at h7
      have H7:=Lib.hid h7
      clear h6 h7 e0 e1 e2 hg
      go_wp2
      go_roundw
      case rel=>exact⟨k+1,_,⟨rfl,by go_num⟩,by omega,by rw [HNX.out];exact H7.out.step (by (repeat first|exact Fr.refl _ _|assumption|apply Fr.n|apply Fr.d|apply Fr.a|refine Fr.s ?_ (.inr (by simp;try omega)) _))⟩
      case measure=>simp [intOf];omega
    ·obtain rfl:k=i:=by omega
     obtain⟨Q,hQ⟩:∃ Q,sortP (someP l)=Q:=⟨_,rfl⟩
     have h:=H.out
     rw [List.take_of_length_le (by rw [HM.out];exact Nat.le_refl _),hQ] at h
     have HQL:=Lib.hid (show Q.length≤60000 from by
      rw [← hQ,(sortP_perm _).length_eq]
      unfold someP
      refine Nat.le_trans (List.length_filter_le _ _) ?_
      rw [HM.out];omega)
     have HW:=Lib.hid (show R=if strictB Q=false then ([],8) else if 5000<Q.length then ([],6) else (Q,0) by
      rw [← HR.out]
      exact fromP_of HB0.out (by rw [← hQ];exact sortP_weak _) (by rw [← hQ];exact sortP_perm _))
     obtain⟨av,cv,rfl,_,_⟩:=oFM h.row
     have HCA:=Lib.hid (show ∀ w1,Fr [] wr w1→CellsAt w1 (.slice av Q.length cv) Q from fun w1 hf=>CellsAt.fr (Reads.of_owns h.row) hf)
     obtain⟨q,hq⟩:∃ n,Q.length=n:=⟨_,rfl⟩
     have HQ:=Lib.hid hq
     have hq6:q≤60000:=by have:=HQL.out;omega
     rw [hq] at HCA h ⊢
     have H1:=Lib.hid h
     have HF1:=Lib.hid h.fr
     clear h hQ hq H HQL
     obtain⟨W0,hW0⟩:∃ W0,W0=wr:=⟨_,rfl⟩
     subst hW0
     go_wp2
     go_loopw [7] (fun x7 wr=>∃ (j:Nat),x7=.int .i64 ((j:Int)+1)∧j≤q∧(∀ t,t<j→t+1<q→pBef (Q.getD t z3) (Q.getD (t+1) z3)=true)∧Fr [] W0 wr) (fun x _=>q+1 - (intOf x).toNat)
     case atStart=>exact⟨0,rfl,by omega,by simp,Fr.refl _ _⟩
     case round =>
      obtain⟨j,rfl,hjq,hs,hf⟩:=hrel
      have HS:=Lib.hid hs
      have HF:=Lib.hid hf
      clear hs hf
      by_cases hlt:j+1<q
      ·obtain⟨⟨ax,ay,sa⟩,hp1⟩:∃ c,Q[j]?=some c:=⟨_,List.getElem?_eq_getElem (by rw [HQ.out];omega)⟩
       obtain⟨⟨bx,yb,sb⟩,hp2⟩:∃ c,Q[j+1]?=some c:=⟨_,List.getElem?_eq_getElem (by rw [HQ.out];omega)⟩
       obtain⟨g,off,rfl,hg,e0,e1,e2⟩:=(HCA.out _ HF.out).cell hp1
       obtain⟨g2,of2,he,_,f0,f1,f2⟩:=(HCA.out _ HF.out).cell hp2
       cases he
       simp only at e0 e1 e2 f0 f1 f2
       have HG:=Lib.hid (show Q.getD j z3=⟨ax,ay,sa⟩∧Q.getD (j+1) z3=⟨bx,yb,sb⟩ from ⟨by rw [List.getD_eq_getElem?_getD,hp1];rfl,by rw [List.getD_eq_getElem?_getD,hp2];rfl⟩)
       obtain⟨pb,hpb⟩:∃ b,pBef ⟨ax,ay,sa⟩ ⟨bx,yb,sb⟩=b:=⟨_,rfl⟩
       have HB:=Lib.hid (show ∀ w1,_ from fun w1=>hpb▸before_p ⟨ax,ay,sa⟩ ⟨bx,yb,sb⟩ w1)
       simp only [pcV] at HB
       have HPB:=Lib.hid hpb
       clear hp1 hp2 hpb
       go_wp2
       (refine wRT (by kernel_rfl) (by kernel_rfl) ?_)
       go_wp2_with fail
       refine (HB.out _).mono ?_
       rintro e w8 ⟨rfl,hf8⟩
       have HF8:=Lib.hid (HF.out.trans0 (Fr.trans0 (by (repeat first|exact Fr.refl _ _|assumption|apply Fr.n|apply Fr.d|apply Fr.a|refine Fr.s ?_ (.inr (by simp;try omega)) _)) hf8))
       clear hf8 e0 e1 e2 f0 f1 f2 hg
       cases pb with
       | false =>
        have HE:=Lib.hid (show R=([],8) by
         have hsf:strictB Q=false:=by
          cases hq:strictB Q with
          | false=>rfl
          | true =>
           have:=strict_at hq (k:=j) (by rw [HQ.out];omega)
           rw [HG.out.1,HG.out.2,HPB.out] at this
           cases this
         rw [HW.out,if_pos hsf])
        go_wp2
        refine Strict.intro rfl ?_
        go_wp2
        go_ret2
        rw [HE.out]
        refine⟨_,rfl,?_⟩
        exact (Has.nil (Fr.trans0 (HF1.out.trans0 HF8.out) (by (repeat first|exact Fr.refl _ _|assumption|apply Fr.n|apply Fr.d|apply Fr.a|refine Fr.s ?_ (.inr (by simp;try omega)) _)))).newRow (T:=75) (size:=3) (Fr.refl [] _) (owns_none _ _ _ _)
       | true =>
        have HN:=Lib.hid (show ∀ t,t<j+1→t+1<q→pBef (Q.getD t z3) (Q.getD (t+1) z3)=true from fun t ht h2=>by
         by_cases e:t=j
         ·subst e;rw [HG.out.1,HG.out.2];exact HPB.out
         ·exact HS.out t (by omega) h2)
        go_wp2
        refine Strict.intro rfl ?_
        go_wp2
        go_roundw
        case rel=>exact⟨j+1,by go_num,by omega,HN.out,HF8.out.trans0 (by (repeat first|exact Fr.refl _ _|assumption|apply Fr.n|apply Fr.d|apply Fr.a|refine Fr.s ?_ (.inr (by simp;try omega)) _))⟩
        case measure=>simp [intOf];omega
      ·have HST:=Lib.hid (show strictB Q=true from strict_mk fun t ht=>HS.out t (by rw [HQ.out] at ht;omega) (by rw [HQ.out] at ht;exact ht))
       by_cases h5:5000<q
       ·have hd5:decide ((q:Int) > 5000)=true:=by rw [decide_eq_true_eq];omega
        have HE:=Lib.hid (show R=([],6) by rw [HW.out,if_neg (by rw [HST.out];simp),if_pos (by rw [HQ.out];exact h5)])
        clear h5
        go_wp2
        go_ret2
        rw [HE.out]
        refine⟨_,rfl,?_⟩
        exact (Has.nil (Fr.trans0 (HF1.out.trans0 HF.out) (by (repeat first|exact Fr.refl _ _|assumption|apply Fr.n|apply Fr.d|apply Fr.a|refine Fr.s ?_ (.inr (by simp;try omega)) _)))).newRow (T:=75) (size:=3) (Fr.refl [] _) (owns_none _ _ _ _)
       ·have hd5:decide ((q:Int) > 5000)=false:=by rw [decide_eq_false_iff_not];omega
        have HE:=Lib.hid (show R=(Q,0) by rw [HW.out,if_neg (by rw [HST.out];simp),if_neg (by rw [HQ.out];exact h5)])
        clear h5
        go_wp2
        go_ret2
        rw [HE.out]
        refine⟨_,rfl,?_⟩
        have h:=H1.out.step HF.out
        rw [← HQ.out] at h ⊢
        exact h.step (by (repeat first|exact Fr.refl _ _|assumption|apply Fr.n|apply Fr.d|apply Fr.a|refine Fr.s ?_ (.inr (by simp;try omega)) _))
end Go.Proofs.YtdanghnadbkhfaaGreat
end
section
namespace Go.Proofs.YtdanghnadbkhfaaGreat
open Go Go.RowKit Rg Mp Hp Qs Ev Bn Pt
theorem Rcells_all {W:World} {b:Nat} {s:Int} {ns:List K4} {sa:Option Addr} {sc:Nat} {B:List BV} {m:Nat} (HY:Hid (CellHyp s ns B)) (hm:m≤2000):∀ n,n≤256→RCellAt W b s ns sa sc B m n
 | 0,hn=>fun w Ps a c E PL id t x y h hR hS hP hi hlen hel hx hy hz=>by
  by_cases h0:popT t=0
  ·exact Rcells_none HY hn h hR hS hP hi hlen hel hx hy hz h0
  ·exact Rcells_leaf HY h hR hS hP hi hlen hel hx hy hz h0
 | n+1,hn=>fun w Ps a c E PL id t x y h hR hS hP hi hlen hel hx hy hz=>by
  by_cases h0:popT t=0
  ·exact Rcells_none HY hn h hR hS hP hi hlen hel hx hy hz h0
  ·exact Rcells_succ HY hm hn (Lib.hid (Rcells_all HY hm n (by omega))) h hR hS hP hi hlen hel hx hy hz h0
theorem big_sum {z:Int} {n m:Nat} (h:-9223372036854775808≤z∧z<9223372036854775808) (hn:n≤256) (hm:257≤m):z.natAbs+2 ^ n≤2 ^ m:=by
 obtain⟨e,he⟩:∃ e,e=256:=⟨_,rfl⟩
 have h1:2 ^ n≤2 ^ e:=Nat.pow_le_pow_right (by omega) (by omega)
 have h2:2 ^ 63≤2 ^ e:=Nat.pow_le_pow_right (by omega) (by omega)
 have h3:2 ^ (e+1)≤2 ^ m:=Nat.pow_le_pow_right (by omega) (by omega)
 rw [Nat.pow_succ] at h3
 omega
theorem cellsT_in:∀ {n:Nat} {t:Tr} {X Y:Nat},∀ c∈cellsT n t X Y,c.x<X+2 ^ n∧c.y<Y+2 ^ n
 | 0,.leaf v,X,Y,c,hc=>by
  unfold cellsT at hc
  split at hc
  ·cases hc
  ·simp only [List.mem_singleton] at hc
   subst hc
   simp
 | 0,.node _ _ _ _,_,_,_,hc=>by cases hc
 | n+1,.leaf _,_,_,_,hc=>by cases hc
 | n+1,.node a b c d,X,Y,x,hx=>by
  unfold cellsT at hx
  simp only [List.mem_append] at hx
  rw [Nat.pow_succ]
  rcases hx with hx|hx|hx|hx
  all_goals
   have:=cellsT_in x hx
   omega
theorem Rvalid_p (x y:Int) (w:World):Calls Tryz.prog 59 #[.agg #[.int .i64 x,.int .i64 y]] w fun e w'=>e=.returned (.bool (placeB x y))∧Fr [] w w':=by
 have hb:placeB x y=(((decide (x ≥ -1048576) && decide (x≤1048576)) && decide (y ≥ -1048576)) && decide (y≤1048576)):=by
  unfold placeB
  rw [Bool.eq_iff_iff]
  simp only [Bool.and_eq_true,decide_eq_true_eq];omega
 rw [hb]
 clear hb
 obtain⟨a,ha⟩:∃ a,decide (x ≥ -1048576)=a:=⟨_,rfl⟩
 obtain⟨b,hb⟩:∃ a,decide (x≤1048576)=a:=⟨_,rfl⟩
 obtain⟨c,hc⟩:∃ a,decide (y ≥ -1048576)=a:=⟨_,rfl⟩
 obtain⟨d,hd⟩:∃ a,decide (y≤1048576)=a:=⟨_,rfl⟩
 rw [ha,hb,hc,hd]
 cases a with
 | false =>
  go_enter Tryz.func59,Tryz.ntmps59
  go_wp2
  go_ret
  exact⟨by simp,by (repeat (first|exact Fr.refl _ _|assumption|apply Fr.drewN|apply Fr.drew|apply Fr.alloc|refine Fr.setCell ?_ (Or.inr (by simp;try omega)) _))⟩
 | true =>
  cases b with
  | false =>
   go_enter Tryz.func59,Tryz.ntmps59
   go_wp2
   go_ret
   exact⟨by simp,by (repeat (first|exact Fr.refl _ _|assumption|apply Fr.drewN|apply Fr.drew|apply Fr.alloc|refine Fr.setCell ?_ (Or.inr (by simp;try omega)) _))⟩
  | true =>
   cases c with
   | false =>
    go_enter Tryz.func59,Tryz.ntmps59
    go_wp2
    go_ret
    exact⟨by simp,by (repeat (first|exact Fr.refl _ _|assumption|apply Fr.drewN|apply Fr.drew|apply Fr.alloc|refine Fr.setCell ?_ (Or.inr (by simp;try omega)) _))⟩
   | true =>
    go_enter Tryz.func59,Tryz.ntmps59
    go_wp2
    go_ret
    exact⟨by simp,by (repeat (first|exact Fr.refl _ _|assumption|apply Fr.drewN|apply Fr.drew|apply Fr.alloc|refine Fr.setCell ?_ (Or.inr (by simp;try omega)) _))⟩
theorem Rknown_q {W w:World} {b:Nat} {s:Int} {ns:List K4} {Ps:List Res} (h:Has W w (refR b s ns::Ps)) (id:Int) :
  Calls Tryz.prog 48 #[.pointer (some ⟨b,0,none⟩),.int .i64 id] w fun e w'=>e=.returned (.int .i64 (knownQ s ns id))∧Fr [] w w':=by
 have HL:=Lib.hid (fun w1 (hf:Fr [] w w1)=>RLevel_has (h.step hf) id)
 unfold knownQ
 obtain⟨l,hl⟩:∃ l,lvl s (levs s ns) id=l:=⟨_,rfl⟩
 rw [hl] at HL ⊢
 clear h hl
 by_cases h0:l<0
 ·rw [if_pos h0]
  have hd:decide (l<0)=true:=by simpa using h0
  clear h0
  go_enter Tryz.func48,Tryz.ntmps48
  go_wp2_with fail
  refine (HL.out _ (by (repeat (first|exact Fr.refl _ _|assumption|apply Fr.drewN|apply Fr.drew|apply Fr.alloc|refine Fr.setCell ?_ (Or.inr (by simp;try omega)) _)))).mono ?_
  rintro e w1 ⟨rfl,hf⟩
  have Hf:=Lib.hid (Fr.trans0 (by (repeat (first|exact Fr.refl _ _|assumption|apply Fr.drewN|apply Fr.drew|apply Fr.alloc|refine Fr.setCell ?_ (Or.inr (by simp;try omega)) _)):Fr [] w _) hf)
  clear hf
  go_wp2
  go_ret
  exact⟨rfl,Hf.out.trans0 (by (repeat (first|exact Fr.refl _ _|assumption|apply Fr.drewN|apply Fr.drew|apply Fr.alloc|refine Fr.setCell ?_ (Or.inr (by simp;try omega)) _)))⟩
 ·rw [if_neg h0]
  have hd:decide (l<0)=false:=by simpa using h0
  clear h0
  go_enter Tryz.func48,Tryz.ntmps48
  go_wp2_with fail
  refine (HL.out _ (by (repeat (first|exact Fr.refl _ _|assumption|apply Fr.drewN|apply Fr.drew|apply Fr.alloc|refine Fr.setCell ?_ (Or.inr (by simp;try omega)) _)))).mono ?_
  rintro e w1 ⟨rfl,hf⟩
  have Hf:=Lib.hid (Fr.trans0 (by (repeat (first|exact Fr.refl _ _|assumption|apply Fr.drewN|apply Fr.drew|apply Fr.alloc|refine Fr.setCell ?_ (Or.inr (by simp;try omega)) _)):Fr [] w _) hf)
  clear hf
  go_wp2
  go_ret
  exact⟨rfl,Hf.out.trans0 (by (repeat (first|exact Fr.refl _ _|assumption|apply Fr.drewN|apply Fr.drew|apply Fr.alloc|refine Fr.setCell ?_ (Or.inr (by simp;try omega)) _)))⟩
set_option maxHeartbeats 16000000 in
set_option maxRecDepth 100000 in
theorem RPattern_q {W w:World} {b:Nat} {s:Int} {ns:List K4} {Ps:List Res} (h:Has W w (refR b s ns::Ps)) (id x y:Int) (hx:-9223372036854775808≤x∧x<9223372036854775808) (hy:-9223372036854775808≤y∧y<9223372036854775808) :
  Calls Tryz.prog 18 #[.pointer (some ⟨b,0,none⟩),.int .i64 id,.int .i64 x,.int .i64 y] w fun e w' =>
   ∃ v,e=.returned (.tuple #[v,.int .i64 (patQ s ns id x y).2])∧Has W w' (refR b s ns::Hp.row 75 3 v (patQ s ns id x y).1.length (pcs (patQ s ns id x y).1)::Ps):=by
 have hg:=ref_good h
 have HKN:=Lib.hid (fun w1 (hf:Fr [] w w1)=>Rknown_q (h.step hf) id)
 have H:=Lib.hid h
 unfold patQ
 unfold knownQ at HKN
 by_cases h0:lvl s (levs s ns) id<0
 ·rw [if_pos h0] at HKN ⊢
  clear h hg hx hy h0
  go_enter Tryz.func18,Tryz.ntmps18
  go_wp2_with fail
  refine (HKN.out _ (by (repeat (first|exact Fr.refl _ _|assumption|apply Fr.drewN|apply Fr.drew|apply Fr.alloc|refine Fr.setCell ?_ (Or.inr (by simp;try omega)) _)))).mono ?_
  rintro e w1 ⟨rfl,hf1⟩
  have H1:=Lib.hid (H.out.step (Fr.trans0 (by (repeat (first|exact Fr.refl _ _|assumption|apply Fr.drewN|apply Fr.drew|apply Fr.alloc|refine Fr.setCell ?_ (Or.inr (by simp;try omega)) _))) hf1))
  clear hf1
  go_wp2
  go_ret2
  refine⟨_,rfl,?_⟩
  exact (((H1.out).newRow (T:=75) (size:=3) (Fr.refl [] _) (owns_none _ _ _ _)).swap).step (by (repeat (first|exact Fr.refl _ _|assumption|apply Fr.drewN|apply Fr.drew|apply Fr.alloc|refine Fr.setCell ?_ (Or.inr (by simp;try omega)) _)))
 rw [if_neg h0] at HKN ⊢
 obtain⟨n,hn,hn256,hi⟩:=level_nat hg (id:=id) (by omega)
 obtain⟨t,ht⟩:∃ t,tr s ns id=t:=⟨_,rfl⟩
 rw [ht] at hi ⊢
 rw [full_ht n hi.2.2.1]
 obtain⟨k,rfl⟩:=Int.eq_ofNat_of_zero_le hi.1.1
 have HKK:=Lib.hid hi.1.2
 have HTR:=Lib.hid ht
 have HFL:=Lib.hid hi.2.2.1
 have HNN:=Lib.hid hn256
 have HII:=Lib.hid hi
 have HXY:=Lib.hid (And.intro hx hy)
 by_cases h5:5000<popT t
 ·have HCM:=Lib.hid (show cmpI ((popT t:Nat):Int) 5000=1 from by unfold cmpI;rw [if_neg (by omega),if_neg (by omega)])
  rw [if_pos h5]
  clear h hg hx hy h0 hn hn256 hi ht h5
  go_enter Tryz.func18,Tryz.ntmps18
  go_wp2_with fail
  refine (HKN.out _ (by (repeat (first|exact Fr.refl _ _|assumption|apply Fr.drewN|apply Fr.drew|apply Fr.alloc|refine Fr.setCell ?_ (Or.inr (by simp;try omega)) _)))).mono ?_
  rintro e w1 ⟨rfl,hf1⟩
  have H1:=Lib.hid (H.out.step (Fr.trans0 (by (repeat (first|exact Fr.refl _ _|assumption|apply Fr.drewN|apply Fr.drew|apply Fr.alloc|refine Fr.setCell ?_ (Or.inr (by simp;try omega)) _))) hf1))
  clear hf1
  go_wp2_with fail
  refine (RData_has (H1.out.step (by (repeat (first|exact Fr.refl _ _|assumption|apply Fr.drewN|apply Fr.drew|apply Fr.alloc|refine Fr.setCell ?_ (Or.inr (by simp;try omega)) _))))).mono ?_
  rintro e w2 ⟨dv,rfl,h2⟩
  obtain⟨da,dc,rfl,_,_⟩:=oFM h2.row
  have HC:=Lib.hid (Rcounts_h (s:=s) (Reads.of_owns h2.row) (ref_good h2.drop))
  have H2:=Lib.hid h2
  clear h2 H1
  go_wp2_with fail
  refine HC.out.mono ?_
  rintro e w3 ⟨ba,bc,B,rfl,hbl,hbo,h3⟩
  have h4:=has_join (H2.out.step (by (repeat (first|exact Fr.refl _ _|assumption|apply Fr.drewN|apply Fr.drew|apply Fr.alloc|refine Fr.setCell ?_ (Or.inr (by simp;try omega)) _)))) h3
  simp only [List.cons_append,List.nil_append] at h4
  have h4:=h4.ord 4 [3,0,1]
  simp only [List.filterMap_cons,List.filterMap_nil,List.getElem?_cons_zero,List.getElem?_cons_succ,List.drop_succ_cons,List.drop_zero,List.cons_append,List.nil_append] at h4
  have HYY:=Lib.hid (show CellHyp s ns B from ⟨ref_good h4,hbl,hbo⟩)
  obtain⟨⟨V,aV,cV⟩,hBk⟩:∃ e,B[k]?=some e:=⟨_,List.getElem?_eq_getElem (by have:=HKK.out;omega)⟩
  have hkl:((k:Nat):Int)<(B.length:Nat):=by have:=HKK.out;omega
  have hVp:V=popT t:=by have:=hbo k _ hBk;rw [HTR.out] at this;exact this
  have HVP:=Lib.hid hVp
  obtain⟨g,off,rfl,hg,b0,b1⟩:=bvs_cell (Reads.of_owns (h4.ord 3 [1]).row) hBk
  simp only at b0 b1
  have HVB:=Lib.hid (show ∀ w1,Fr [] w3 w1→BigZ w1 (fun _=>True) (bvV (V,aV,cV)) (V:Int) from fun w1 hf=>in_z' (pool_in (h4.step hf) (by simp) (List.mem_of_getElem? hBk)))
  simp only [bvV] at HVB
  have HVZ:=Lib.hid (show Zok (V:Int) from by rw [hVp];exact pop_zok HNN.out HFL.out)
  have H4:=Lib.hid h4
  clear h3 h4 hbl hbo hBk hVp H2 HC
  go_wp2
  refine wRS [([0,1,2,3,4],[3]),([5,6],[])] (by kernel_rfl) (by kernel_rfl) ?_
  (simp only [wpSegs,pick,Array.getD_eq_getD_getElem?,List.getElem?_toArray,List.getElem?_cons_succ,List.getElem?_cons_zero,Option.getD_some])
  go_wp2_with fail
  refine (RFrom_z (x:=5000) (by omega) (by omega)).mono ?_
  rintro e w5 ⟨v5,rfl,hb5,hf5'⟩
  have hf5:Fr [] w3 w5:=Fr.trans0 (by (repeat (first|exact Fr.refl _ _|assumption|apply Fr.drewN|apply Fr.drew|apply Fr.alloc|refine Fr.setCell ?_ (Or.inr (by simp;try omega)) _))) hf5'
  have b0:=(hf5.cell (p:=⟨g,_,none⟩) hg (by simp)).trans b0
  have b1:=(hf5.cell (p:=⟨g,_,none⟩) hg (by simp)).trans b1
  have HF5:=Lib.hid hf5
  have HB5:=Lib.hid hb5
  have HCB:=Lib.hid (show w5.rangeAt g (off+k*2) [.bool false,.slice aV (zd (V:Int)).length cV] from fun j v hj=>by
   have:j=0∨j=1∨2≤j:=by omega
   rcases this with rfl|rfl|h2
   ·cases hj;exact b0
   ·cases hj;exact b1
   ·rw [List.getElem?_eq_none (by simpa using h2)] at hj;cases hj)
  clear hf5 hf5' hb5
  go_wp2
  refine Mid.intro ⟨⟨aGR (T:=27) (cs:=[.bool false,.slice aV (zd (V:Int)).length cV]) rfl rfl rfl Tryz.underlying27 rfl (by kernel_rfl) HCB.out rfl,trivial⟩,?_⟩
  go_wp2_with fail
  refine (RCompare_z (HVB.out _ (HF5.out.trans0 (by (repeat (first|exact Fr.refl _ _|assumption|apply Fr.drewN|apply Fr.drew|apply Fr.alloc|refine Fr.setCell ?_ (Or.inr (by simp;try omega)) _))))) (HB5.out.fr0 (by (repeat (first|exact Fr.refl _ _|assumption|apply Fr.drewN|apply Fr.drew|apply Fr.alloc|refine Fr.setCell ?_ (Or.inr (by simp;try omega)) _)))) HVZ.out (zok_int (by omega) (by omega))).mono ?_
  rw [HVP.out,HCM.out]
  rintro e w6 ⟨rfl,hf6⟩
  have H6:=Lib.hid (H4.out.step (HF5.out.trans0 (Fr.trans0 (by (repeat (first|exact Fr.refl _ _|assumption|apply Fr.drewN|apply Fr.drew|apply Fr.alloc|refine Fr.setCell ?_ (Or.inr (by simp;try omega)) _))) hf6)))
  clear hf6 HF5 HB5 HCB b0 b1 hg HVB H4
  go_wp2
  refine Mid.intro ⟨trivial,Strict.intro rfl ?_⟩
  have h7:=H6.out.ord 3 [0]
  simp only [List.filterMap_cons,List.filterMap_nil,List.getElem?_cons_zero,List.getElem?_cons_succ,List.drop_succ_cons,List.drop_zero,List.cons_append,List.nil_append] at h7
  have H7:=Lib.hid h7
  clear h7
  go_wp2
  go_ret2
  refine⟨_,rfl,?_⟩
  exact (((H7.out).newRow (T:=75) (size:=3) (Fr.refl [] _) (owns_none _ _ _ _)).swap).step (by (repeat (first|exact Fr.refl _ _|assumption|apply Fr.drewN|apply Fr.drew|apply Fr.alloc|refine Fr.setCell ?_ (Or.inr (by simp;try omega)) _)))
 rw [if_neg h5]
 obtain⟨z,hz⟩:∃ z,cmpI ((popT t:Nat):Int) 5000=z:=⟨_,rfl⟩
 have hz0:decide (z > 0)=false:=by
  rw [decide_eq_false_iff_not,← hz]
  unfold cmpI
  split
  ·omega
  ·split<;>omega
 have HCM:=Lib.hid hz
 have HP5:=Lib.hid (show popT t≤5000 by omega)
 have hCI:shC x y (cellsT n t 0 0)=cI n t x y:=rfl
 rw [hCI]
 have HST:=Lib.hid (show ∀ c∈cI n t x y,1≤c.st∧c.st<8 from fun c hc=>by
  unfold cI shC at hc
  obtain⟨d,hd,rfl⟩:=List.mem_map.1 hc
  have:=cells_state hi.2.2.1 hi.2.2.2 d hd
  have:=hg.2.1
  simp only;omega)
 have HCL:=Lib.hid (cI_len (X:=x) (Y:=y) hi.2.2.1)
 obtain⟨C,hC⟩:∃ C,cI n t x y=C:=⟨_,rfl⟩
 rw [hC] at HST HCL ⊢
 have HCC:=Lib.hid hC
 obtain⟨R,hR⟩:∃ R,fromP C=R:=⟨_,rfl⟩
 rw [hR]
 have HR:=Lib.hid hR
 clear h hg hx hy h0 hn hn256 hi ht h5 hz hCI hC hR
 go_enter Tryz.func18,Tryz.ntmps18
 go_wp2_with fail
 refine (HKN.out _ (by (repeat (first|exact Fr.refl _ _|assumption|apply Fr.drewN|apply Fr.drew|apply Fr.alloc|refine Fr.setCell ?_ (Or.inr (by simp;try omega)) _)))).mono ?_
 rintro e w1 ⟨rfl,hf1⟩
 have H1:=Lib.hid (H.out.step (Fr.trans0 (by (repeat (first|exact Fr.refl _ _|assumption|apply Fr.drewN|apply Fr.drew|apply Fr.alloc|refine Fr.setCell ?_ (Or.inr (by simp;try omega)) _))) hf1))
 clear hf1
 go_wp2_with fail
 refine (RData_has (H1.out.step (by (repeat (first|exact Fr.refl _ _|assumption|apply Fr.drewN|apply Fr.drew|apply Fr.alloc|refine Fr.setCell ?_ (Or.inr (by simp;try omega)) _))))).mono ?_
 rintro e w2 ⟨dv,rfl,h2⟩
 obtain⟨da,dc,rfl,_,_⟩:=oFM h2.row
 have HC:=Lib.hid (Rcounts_h (s:=s) (Reads.of_owns h2.row) (ref_good h2.drop))
 have H2:=Lib.hid h2
 clear h2 H1
 go_wp2_with fail
 refine HC.out.mono ?_
 rintro e w3 ⟨ba,bc,B,rfl,hbl,hbo,h3⟩
 have h4:=has_join (H2.out.step (by (repeat (first|exact Fr.refl _ _|assumption|apply Fr.drewN|apply Fr.drew|apply Fr.alloc|refine Fr.setCell ?_ (Or.inr (by simp;try omega)) _)))) h3
 simp only [List.cons_append,List.nil_append] at h4
 have h4:=h4.ord 4 [3,0,1]
 simp only [List.filterMap_cons,List.filterMap_nil,List.getElem?_cons_zero,List.getElem?_cons_succ,List.drop_succ_cons,List.drop_zero,List.cons_append,List.nil_append] at h4
 have HYY:=Lib.hid (show CellHyp s ns B from ⟨ref_good h4,hbl,hbo⟩)
 obtain⟨⟨V,aV,cV⟩,hBk⟩:∃ e,B[k]?=some e:=⟨_,List.getElem?_eq_getElem (by have:=HKK.out;omega)⟩
 have hkl:((k:Nat):Int)<(B.length:Nat):=by have:=HKK.out;omega
 have hVp:V=popT t:=by have:=hbo k _ hBk;rw [HTR.out] at this;exact this
 have HVP:=Lib.hid hVp
 obtain⟨g,off,rfl,hg,b0,b1⟩:=bvs_cell (Reads.of_owns (h4.ord 3 [1]).row) hBk
 simp only at b0 b1
 have HVB:=Lib.hid (show ∀ w1,Fr [] w3 w1→BigZ w1 (fun _=>True) (bvV (V,aV,cV)) (V:Int) from fun w1 hf=>in_z' (pool_in (h4.step hf) (by simp) (List.mem_of_getElem? hBk)))
 simp only [bvV] at HVB
 have HVZ:=Lib.hid (show Zok (V:Int) from by rw [hVp];exact pop_zok HNN.out HFL.out)
 have H4:=Lib.hid h4
 clear h3 h4 hbl hbo hBk hVp H2 HC
 go_wp2
 refine wRS [([0,1,2,3,4],[3]),([5,6],[])] (by kernel_rfl) (by kernel_rfl) ?_
 (simp only [wpSegs,pick,Array.getD_eq_getD_getElem?,List.getElem?_toArray,List.getElem?_cons_succ,List.getElem?_cons_zero,Option.getD_some])
 go_wp2_with fail
 refine (RFrom_z (x:=5000) (by omega) (by omega)).mono ?_
 rintro e w5 ⟨v5,rfl,hb5,hf5'⟩
 have hf5:Fr [] w3 w5:=Fr.trans0 (by (repeat (first|exact Fr.refl _ _|assumption|apply Fr.drewN|apply Fr.drew|apply Fr.alloc|refine Fr.setCell ?_ (Or.inr (by simp;try omega)) _))) hf5'
 have b0:=(hf5.cell (p:=⟨g,_,none⟩) hg (by simp)).trans b0
 have b1:=(hf5.cell (p:=⟨g,_,none⟩) hg (by simp)).trans b1
 have HF5:=Lib.hid hf5
 have HB5:=Lib.hid hb5
 have HCB:=Lib.hid (show w5.rangeAt g (off+k*2) [.bool false,.slice aV (zd (V:Int)).length cV] from fun j v hj=>by
  have:j=0∨j=1∨2≤j:=by omega
  rcases this with rfl|rfl|h2
  ·cases hj;exact b0
  ·cases hj;exact b1
  ·rw [List.getElem?_eq_none (by simpa using h2)] at hj;cases hj)
 clear hf5 hf5' hb5
 go_wp2
 refine Mid.intro ⟨⟨aGR (T:=27) (cs:=[.bool false,.slice aV (zd (V:Int)).length cV]) rfl rfl rfl Tryz.underlying27 rfl (by kernel_rfl) HCB.out rfl,trivial⟩,?_⟩
 go_wp2_with fail
 refine (RCompare_z (HVB.out _ (HF5.out.trans0 (by (repeat (first|exact Fr.refl _ _|assumption|apply Fr.drewN|apply Fr.drew|apply Fr.alloc|refine Fr.setCell ?_ (Or.inr (by simp;try omega)) _))))) (HB5.out.fr0 (by (repeat (first|exact Fr.refl _ _|assumption|apply Fr.drewN|apply Fr.drew|apply Fr.alloc|refine Fr.setCell ?_ (Or.inr (by simp;try omega)) _)))) HVZ.out (zok_int (by omega) (by omega))).mono ?_
 rw [HVP.out,HCM.out]
 rintro e w6 ⟨rfl,hf6⟩
 have H6:=Lib.hid (H4.out.step (HF5.out.trans0 (Fr.trans0 (by (repeat (first|exact Fr.refl _ _|assumption|apply Fr.drewN|apply Fr.drew|apply Fr.alloc|refine Fr.setCell ?_ (Or.inr (by simp;try omega)) _))) hf6)))
 clear hf6 HF5 HB5 HCB b0 b1 hg HVB H4
 go_wp2
 refine Mid.intro ⟨trivial,Strict.intro rfl ?_⟩
 go_wp2_with fail
 refine (RFrom_z HXY.out.1.1 HXY.out.1.2).mono ?_
 rintro e w7 ⟨v7,rfl,hb7,hf7⟩
 obtain⟨a7,c7,rfl,h7⟩:=has_big ((pooli_nil H6.out).step (by (repeat (first|exact Fr.refl _ _|assumption|apply Fr.drewN|apply Fr.drew|apply Fr.alloc|refine Fr.setCell ?_ (Or.inr (by simp;try omega)) _)))) hf7 hb7 (zok_int HXY.out.1.1 HXY.out.1.2)
 have H7:=Lib.hid (pooli_add h7)
 clear h7 hb7 hf7 H6
 go_wp2_with fail
 refine (RFrom_z HXY.out.2.1 HXY.out.2.2).mono ?_
 rintro e w8 ⟨v8,rfl,hb8,hf8⟩
 obtain⟨a8,c8,rfl,h8⟩:=has_big (H7.out.step (by (repeat (first|exact Fr.refl _ _|assumption|apply Fr.drewN|apply Fr.drew|apply Fr.alloc|refine Fr.setCell ?_ (Or.inr (by simp;try omega)) _)))) hf8 hb8 (zok_int HXY.out.2.1 HXY.out.2.2)
 have h9:=(pooli_add h8).newRow (T:=117) (size:=5) (Fr.refl [] _) (owns_nil0 _ _ _ _)
 have HCE:=Lib.hid (fun w1 (hf:Fr [] w8 w1)=>Rcells_all (m:=400) (b:=b) (sa:=some ⟨g,off,none⟩) (sc:=bc) (B:=B) HYY (by omega) n HNN.out w1 _ none 0 [] [(y,a8,c8),(x,a7,c7)] ((k:Nat):Int) t (x,a7,c7) (y,a8,c8) (h9.step hf) (by simp) (by simp [rowB]) (by simp) HII.out (by have:=HP5.out;simp;omega) (by simp) (by simp) (by simp) ⟨big_sum (m:=400) HXY.out.1 HNN.out (by omega),big_sum (m:=400) HXY.out.2 HNN.out (by omega)⟩)
 simp only [ivV] at HCE
 clear hb8 hf8 h8 h9 H7
 go_wp2_with fail
 refine (HCE.out _ (by (repeat (first|exact Fr.refl _ _|assumption|apply Fr.drewN|apply Fr.drew|apply Fr.alloc|refine Fr.setCell ?_ (Or.inr (by simp;try omega)) _)))).mono ?_
 rintro e w9 ⟨ea,ec,E,PL,rfl,⟨hmp,hel,_⟩,h10⟩
 rw [List.map_nil,List.nil_append,HCC.out] at hmp
 have HMP:=Lib.hid hmp
 have HEL:=Lib.hid hel
 have HELN:=Lib.hid (show E.length≤5000 from by
  have h1:=congrArg List.length hmp
  rw [List.length_map] at h1
  have h2:=HCL.out
  have h3:=HP5.out
  omega)
 have h11:=h10.ord 5 [2,0,1]
 simp only [List.filterMap_cons,List.filterMap_nil,List.getElem?_cons_zero,List.getElem?_cons_succ,List.drop_succ_cons,List.drop_zero,List.cons_append,List.nil_append] at h11
 have H11:=Lib.hid h11
 obtain⟨m,hm⟩:∃ m,E.length=m:=⟨_,rfl⟩
 have HM:=Lib.hid hm
 have hm5:m≤5000:=by have:=HELN.out;omega
 have HSI:=Lib.hid (show ∀ w1 Qs,Has W w1 Qs→rowI (.slice ea E.length ec) E∈Qs→Reads w1 (.slice ea m ec) E.length 5 (sis E) from fun w1 Qs h hq=>by
  obtain⟨G,hG,_⟩:=has_mem h hq
  rw [← hm]
  exact Reads.of_owns hG)
 have HZI:=Lib.hid (show ∀ e∈E,Zok e.X.1∧Zok e.Y.1 from fun e he=>by
  have h1:e.pc∈cI n t x y:=by rw [HCC.out,← hmp];exact List.mem_map.2 ⟨e,he,rfl⟩
  unfold cI shC at h1
  obtain⟨d,hd,hde⟩:=List.mem_map.1 h1
  have h2:=cellsT_in d hd
  have h3:=big_sum (m:=400) HXY.out.1 HNN.out (by omega)
  have h4:=big_sum (m:=400) HXY.out.2 HNN.out (by omega)
  have h5:x+d.x=e.X.1:=congrArg PC.x hde
  have h6:y+d.y=e.Y.1:=congrArg PC.y hde
  exact⟨zok_abs (m:=400) (by omega) (by omega),zok_abs (m:=400) (by omega) (by omega)⟩)
 rw [hm]
 clear hmp hel h10 h11 HCE hm
 have H0:=Lib.hid (show Has W w9 (Hp.row 75 3 (.slice none 0 0) (C.take 0).length (pcs (C.take 0))::refR b s ns::rowI (.slice ea E.length ec) E::poolI PL::Ps) from H11.out.newRow (T:=75) (size:=3) (Fr.refl [] _) (owns_none _ _ _ _))
 clear H11
 go_wp2
 go_loopw [12,14] (fun x12 x14 wr=>∃ (i:Nat) (v:Value),(v=x12∧x14=.int .i64 (i:Nat))∧(i≤m∧∀ c∈C.take i,placeB c.x c.y=true)∧Has W wr (Hp.row 75 3 v (C.take i).length (pcs (C.take i))::refR b s ns::rowI (.slice ea E.length ec) E::poolI PL::Ps)) (fun _ x _=>m - (intOf x).toNat)
 case atStart=>exact⟨0,_,⟨rfl,rfl⟩,⟨by omega,by simp⟩,H0.out⟩
 case round =>
  clear H0
  obtain⟨i,v12,⟨rfl,rfl⟩,⟨him,hpl⟩,h⟩:=hrel
  have H:=Lib.hid h
  have HPL:=Lib.hid hpl
  clear h hpl
  by_cases hlt:i<m
  ·obtain⟨⟨⟨X,aX,cX⟩,⟨Y,aY,cY⟩,st⟩,hE⟩:∃ e,E[i]?=some e:=⟨_,List.getElem?_eq_getElem (by rw [HM.out];exact hlt)⟩
   have hCi:C[i]?=some ⟨X,Y,st⟩:=by rw [← HMP.out,List.getElem?_map,hE];rfl
   obtain⟨g2,off2,rfl,hg2,e0,e1,e2,e3,e4⟩:=sis_cell (HSI.out wr _ H.out (by simp)) hE
   simp only at e0 e1 e2 e3 e4
   have HZZ:=Lib.hid (HZI.out _ (List.mem_of_getElem? hE))
   have HE2:=Lib.hid (HEL.out _ (List.mem_of_getElem? hE))
   have HXB:=Lib.hid (show ∀ w1,Fr [] wr w1→BigZ w1 (fun _=>True) (ivV (X,aX,cX)) X from fun w1 hf=>pooli_in (L:=PL) (H.out.step hf) (by simp) HE2.out.1)
   have HYB:=Lib.hid (show ∀ w1,Fr [] wr w1→BigZ w1 (fun _=>True) (ivV (Y,aY,cY)) Y from fun w1 hf=>pooli_in (L:=PL) (H.out.step hf) (by simp) HE2.out.2)
   simp only [ivV] at HXB HYB
   have HBAD:=Lib.hid (show placeB X Y=false→R=([],5) from fun hpb=>by
    have h5:badP C=5:=badP_place HST.out ⟨_,List.mem_of_getElem? hCi,hpb⟩
    rw [← HR.out,fromP_bad (by rw [h5];decide),h5])
   have HCI:=Lib.hid hCi
   obtain⟨rx,hrx⟩:∃ r,(if -9223372036854775808≤X∧X<9223372036854775808 then (X,true) else ((0:Int),false))=r:=⟨_,rfl⟩
   obtain⟨ry,hry⟩:∃ r,(if -9223372036854775808≤Y∧Y<9223372036854775808 then (Y,true) else ((0:Int),false))=r:=⟨_,rfl⟩
   have HRX:=Lib.hid (show (rx.2=true→rx.1=X)∧(rx.2=false→placeB X Y=false) from by
    rw [← hrx]
    split
    ·exact⟨fun _=>rfl,fun h=>by cases h⟩
    ·refine⟨fun h=>(by cases h),fun _=>?_⟩
     unfold placeB
     rw [decide_eq_false_iff_not]
     omega)
   have HRY:=Lib.hid (show (ry.2=true→ry.1=Y)∧(ry.2=false→placeB X Y=false) from by
    rw [← hry]
    split
    ·exact⟨fun _=>rfl,fun h=>by cases h⟩
    ·refine⟨fun h=>(by cases h),fun _=>?_⟩
     unfold placeB
     rw [decide_eq_false_iff_not]
     omega)
   have HIX:=Lib.hid (fun w1 (hf:Fr [] wr w1)=>hrx▸RInt_z (HXB.out w1 hf) HZZ.out.1)
   have HIY:=Lib.hid (fun w1 (hf:Fr [] wr w1)=>hry▸RInt_z (HYB.out w1 hf) HZZ.out.2)
   obtain⟨px,okx⟩:=rx
   obtain⟨py,oky⟩:=ry
   simp only at HRX HRY HIX HIY
   clear hE hCi hrx hry HXB HYB
   go_wp2_with fail
   refine (HIX.out _ (by (repeat (first|exact Fr.refl _ _|assumption|apply Fr.drewN|apply Fr.drew|apply Fr.alloc|refine Fr.setCell ?_ (Or.inr (by simp;try omega)) _)))).mono ?_
   rintro e w10 ⟨rfl,hf10'⟩
   have hf10:Fr [] wr w10:=Fr.trans0 (by (repeat (first|exact Fr.refl _ _|assumption|apply Fr.drewN|apply Fr.drew|apply Fr.alloc|refine Fr.setCell ?_ (Or.inr (by simp;try omega)) _))) hf10'
   have HF10:=Lib.hid hf10
   have hg3:g2<w10.heap.size:=by have:=hf10.size;omega
   have e2:=(hf10.cell (p:=⟨g2,_,none⟩) hg2 (by simp)).trans e2
   have e3:=(hf10.cell (p:=⟨g2,_,none⟩) hg2 (by simp)).trans e3
   have e4:=(hf10.cell (p:=⟨g2,_,none⟩) hg2 (by simp)).trans e4
   clear e0 e1 hf10 hf10' hg2
   go_wp2_with fail
   refine (HIY.out _ (HF10.out.trans0 (by (repeat (first|exact Fr.refl _ _|assumption|apply Fr.drewN|apply Fr.drew|apply Fr.alloc|refine Fr.setCell ?_ (Or.inr (by simp;try omega)) _))))).mono ?_
   rintro e w11 ⟨rfl,hf11'⟩
   have hf11:Fr [] w10 w11:=Fr.trans0 (by (repeat (first|exact Fr.refl _ _|assumption|apply Fr.drewN|apply Fr.drew|apply Fr.alloc|refine Fr.setCell ?_ (Or.inr (by simp;try omega)) _))) hf11'
   have HF11:=Lib.hid (HF10.out.trans0 hf11)
   have hg4:g2<w11.heap.size:=by have:=hf11.size;omega
   have e4:=(hf11.cell (p:=⟨g2,_,none⟩) hg3 (by simp)).trans e4
   clear e2 e3 hf11 hf11' hg3 HF10 HIX HIY
   have h12:=(H.out.step HF11.out).ord 4 [1]
   simp only [List.filterMap_cons,List.filterMap_nil,List.getElem?_cons_zero,List.getElem?_cons_succ,List.drop_succ_cons,List.drop_zero,List.cons_append,List.nil_append] at h12
   have H12:=Lib.hid h12
   cases okx with
   | false =>
    clear h12
    go_wp2
    go_ret2
    rw [HBAD.out (HRX.out.2 (by simp))]
    refine⟨_,rfl,?_⟩
    exact (((H12.out).newRow (T:=75) (size:=3) (Fr.refl [] _) (owns_none _ _ _ _)).swap).step (by (repeat (first|exact Fr.refl _ _|assumption|apply Fr.drewN|apply Fr.drew|apply Fr.alloc|refine Fr.setCell ?_ (Or.inr (by simp;try omega)) _)))
   | true =>
   cases oky with
   | false =>
    clear h12
    go_wp2
    go_ret2
    rw [HBAD.out (HRY.out.2 (by simp))]
    refine⟨_,rfl,?_⟩
    exact (((H12.out).newRow (T:=75) (size:=3) (Fr.refl [] _) (owns_none _ _ _ _)).swap).step (by (repeat (first|exact Fr.refl _ _|assumption|apply Fr.drewN|apply Fr.drew|apply Fr.alloc|refine Fr.setCell ?_ (Or.inr (by simp;try omega)) _)))
   | true =>
   obtain rfl:px=X:=HRX.out.1 (by simp)
   obtain rfl:py=Y:=HRY.out.1 (by simp)
   clear h12 HRX HRY
   obtain⟨pb,hpb⟩:∃ b,placeB px py=b:=⟨_,rfl⟩
   have HV:=Lib.hid (fun w1=>hpb▸Rvalid_p px py w1)
   have HPB:=Lib.hid hpb
   clear hpb
   go_wp2_with fail
   refine (HV.out _).mono ?_
   rintro e w12 ⟨rfl,hf12'⟩
   have hf12:Fr [] w11 w12:=Fr.trans0 (by (repeat (first|exact Fr.refl _ _|assumption|apply Fr.drewN|apply Fr.drew|apply Fr.alloc|refine Fr.setCell ?_ (Or.inr (by simp;try omega)) _))) hf12'
   have e4:=(hf12.cell (p:=⟨g2,_,none⟩) hg4 (by simp)).trans e4
   have hg5:g2<w12.heap.size:=by have:=hf12.size;omega
   have H13:=Lib.hid (H.out.step (HF11.out.trans0 hf12))
   clear hf12 hf12' hg4 HF11 HV H12
   cases pb with
   | false =>
    have h14:=H13.out.ord 4 [1]
    simp only [List.filterMap_cons,List.filterMap_nil,List.getElem?_cons_zero,List.getElem?_cons_succ,List.drop_succ_cons,List.drop_zero,List.cons_append,List.nil_append] at h14
    have H14:=Lib.hid h14
    clear h14
    go_wp2
    go_ret2
    rw [HBAD.out HPB.out]
    refine⟨_,rfl,?_⟩
    exact (((H14.out).newRow (T:=75) (size:=3) (Fr.refl [] _) (owns_none _ _ _ _)).swap).step (by (repeat (first|exact Fr.refl _ _|assumption|apply Fr.drewN|apply Fr.drew|apply Fr.alloc|refine Fr.setCell ?_ (Or.inr (by simp;try omega)) _)))
   | true =>
   have HTK:=Lib.hid (show C.take (i+1)=C.take i++[⟨px,py,st⟩] by rw [List.take_add_one,HCI.out];rfl)
   obtain⟨T,hT⟩:∃ T,C.take i=T:=⟨_,rfl⟩
   have h13:=H13.out
   rw [hT] at h13 HTK HPL
   have HTL:=Lib.hid (show T.length≤5000 from by
    have h1:(C.take i).length≤i:=by rw [List.length_take];omega
    rw [hT] at h1
    omega)
   have HO:=Lib.hid (show World.ownsRow w12 0 75 3 v12 T.length (pcs T) from h13.row)
   have H13:=Lib.hid h13
   clear h13 hT
   go_wp2_with (at_builtin;refine append_pc (n:=T.length) (base:=0) (xs:=pcs T) (y:=⟨px,py,st⟩) rfl rfl Tryz.underlying50 rfl ?e1 rfl ?e2 ?e3 ?e4 ?_)
   case e1=>exact oOB HO.out fun g hg=>hAE _ _ _ (oLT HO.out hg)
   case e2=>first|(first|(rw [hAC,if_pos rfl];done)|exact (Array.getElem?_eq_some_iff.1 ((hAC _ _ _).trans (if_pos rfl))).2|(simp only [hDR,hDN];rw [hAC,if_pos rfl];done))|(refine (Array.getElem?_eq_some_iff.1 ?_).2;(repeat (first|rw [if_pos (by omega)]|rw [if_neg (by omega)]|rw [hDR]|rw [hDN]|rw [hAz]|rw [hSz]|rw [hAC]|rw [hSC]|rw [Option.map_some]|rw [uPC]|rw [List.set_cons_zero]|rw [List.set_cons_succ]|rfl)))
   case e3=>have:=HTL.out;omega
   case e4=>omega
   intro g6 cap w10 hown1 hW1 hF1 hloc1 hg1
   rw [pcs_snoc _ ⟨px,py,st⟩,← HTK.out] at hown1
   have h9:=hAP (n':=(C.take (i+1)).length) (xs':=pcs (C.take (i+1))) (H13.out.step (by (repeat (first|exact Fr.refl _ _|assumption|apply Fr.drewN|apply Fr.drew|apply Fr.alloc|refine Fr.setCell ?_ (Or.inr (by simp;try omega)) _)))) (by rw [show (C.take (i+1)).length=T.length+1 by rw [HTK.out,List.length_append];rfl];exact hown1) rfl hF1 (by rcases hloc1 with h|h;exact .inl h;exact .inr (by rw [h];simp))
   have H9:=Lib.hid h9
   have HPN:=Lib.hid (show ∀ c∈C.take (i+1),placeB c.x c.y=true from fun c hc=>by
    rw [HTK.out,List.mem_append] at hc
    rcases hc with hc|hc
    ·exact HPL.out c hc
    ·rw [List.mem_singleton] at hc;subst hc;exact HPB.out)
   clear h9 hown1 hW1 hF1 hloc1 hg1 HO e4 hg5
   go_wp2
   go_roundw
   case rel=>exact⟨i+1,_,⟨rfl,by go_num⟩,⟨by omega,HPN.out⟩,H9.out.step (by (repeat (first|exact Fr.refl _ _|assumption|apply Fr.drewN|apply Fr.drew|apply Fr.alloc|refine Fr.setCell ?_ (Or.inr (by simp;try omega)) _)))⟩
   case measure=>simp [intOf];omega
  ·obtain rfl:i=m:=by omega
   have h:=H.out
   rw [List.take_of_length_le (by have h1:=congrArg List.length HMP.out;rw [List.length_map,HM.out] at h1;omega)] at h
   obtain⟨av,cv,rfl,_,_⟩:=oFM h.row
   have HFR:=Lib.hid (fun w1 (hf:Fr [] wr w1)=>RFrom5_h (CellsAt.fr (Reads.of_owns h.row) hf) (by have:=HCL.out;have:=HP5.out;omega))
   rw [HR.out] at HFR
   have H:=Lib.hid h
   clear h
   go_wp2_with fail
   refine (HFR.out _ (by (repeat (first|exact Fr.refl _ _|assumption|apply Fr.drewN|apply Fr.drew|apply Fr.alloc|refine Fr.setCell ?_ (Or.inr (by simp;try omega)) _)))).mono ?_
   rintro e w10 ⟨v9,rfl,h9⟩
   have h10:=has_join (H.out.step (by (repeat (first|exact Fr.refl _ _|assumption|apply Fr.drewN|apply Fr.drew|apply Fr.alloc|refine Fr.setCell ?_ (Or.inr (by simp;try omega)) _)))) h9
   have h10:=h10.ord 5 [2,0]
   simp only [List.filterMap_cons,List.filterMap_nil,List.getElem?_cons_zero,List.getElem?_cons_succ,List.drop_succ_cons,List.drop_zero,List.cons_append,List.nil_append] at h10
   have H10:=Lib.hid h10
   clear h9 h10
   go_wp2
   go_ret2
   exact⟨_,rfl,H10.out.step (by (repeat (first|exact Fr.refl _ _|assumption|apply Fr.drewN|apply Fr.drew|apply Fr.alloc|refine Fr.setCell ?_ (Or.inr (by simp;try omega)) _)))⟩
end Go.Proofs.YtdanghnadbkhfaaGreat
end
section
namespace Go.Proofs.YtdanghnadbkhfaaGreat
open Go Go.RowKit Rg Mp Hp Qs Ev Bn Pt
theorem fromP_len (l:List PC):(fromP l).1.length≤5000:=by
 unfold fromP
 split
 ·simp
 ·split
  ·simp
  ·split
   ·simp
   ·simp only;omega
theorem patQ_len (s:Int) (ns:List K4) (id x y:Int):(patQ s ns id x y).1.length≤5000:=by
 unfold patQ
 split
 ·simp
 ·split
  ·simp
  ·exact fromP_len _
set_option maxHeartbeats 16000000 in
set_option maxRecDepth 100000 in
theorem QuadmapPatterns_calls {W:World} {s:Int} {ns:List K4} {a:Option Addr} {c:Nat} (hv:Reads W (.slice a ns.length c) ns.length 4 (flat ns)) (id x y:Int) (hx:-9223372036854775808≤x∧x<9223372036854775808) (hy:-9223372036854775808≤y∧y<9223372036854775808) :
  Calls Tryz.prog 4 #[.agg #[.int .i64 s,.slice a ns.length c],.int .i64 id,.agg #[.int .i64 x,.int .i64 y]] W fun e w'=>e=.returned (.bool true)∧Fr [] W w':=by
 have HLD:=Lib.hid (fun w1 (hf:Fr [] W w1)=>loaded_q (s:=s) (hv.fr hf))
 have HXY:=Lib.hid (And.intro hx hy)
 clear hv hx hy
 by_cases hok:ns.length≤100∧GoodQ s ns
 case neg =>
  have Hok:=Lib.hid hok
  clear hok
  go_enter Tryz.func4,Tryz.ntmps4
  go_wp2_with fail
  refine (HLD.out _ (by (repeat first|exact Fr.refl _ _|assumption|apply Fr.n|apply Fr.d|apply Fr.a|refine Fr.s ?_ (.inr (by simp;try omega)) _))).mono ?_
  rintro e w1 ⟨_,h1⟩
  obtain⟨rfl,hf1⟩:=h1 Hok.out
  have Hf1:=Lib.hid hf1
  clear h1 hf1
  go_wp2_with fail
  refine (awake_q _).mono ?_
  rintro e w9 ⟨rfl,hf9⟩
  have Hf9:=Lib.hid (Fr.trans0 (by (repeat first|exact Fr.refl _ _|assumption|apply Fr.n|apply Fr.d|apply Fr.a|refine Fr.s ?_ (.inr (by simp;try omega)) _):Fr [] W _) (Hf1.out.trans0 (Fr.trans0 (by (repeat first|exact Fr.refl _ _|assumption|apply Fr.n|apply Fr.d|apply Fr.a|refine Fr.s ?_ (.inr (by simp;try omega)) _)) hf9)))
  clear hf9
  go_wp2
  go_ret
  exact⟨rfl,Hf9.out⟩
 obtain⟨hlen,hg⟩:=hok
 have Hok:=Lib.hid (And.intro hlen hg)
 obtain⟨⟨P,E⟩,hPE⟩:∃ r,patQ s ns id x y=r:=⟨_,rfl⟩
 have HPL:=Lib.hid (show P.length≤5000 from by have:=patQ_len s ns id x y;rw [hPE] at this;exact this)
 have HPE:=Lib.hid hPE
 have hee:(E == E)=true:=by simp
 clear hlen hg hPE
 go_enter Tryz.func4,Tryz.ntmps4
 go_wp2_with fail
 refine (HLD.out _ (by (repeat first|exact Fr.refl _ _|assumption|apply Fr.n|apply Fr.d|apply Fr.a|refine Fr.s ?_ (.inr (by simp;try omega)) _))).mono ?_
 rintro e w1 ⟨h1,_⟩
 obtain⟨b,r,rfl,h9⟩:=h1 Hok.out
 (try clear y0 y1 yl Hy)
 have hy_:=(h9.fr.block (W.heap.size+1) (by first|(simp;done)|(simp;omega)) (by simp)).trans (show _=some (.cells #[.int .i64 x,.int .i64 y] 49 (0,0)) by (repeat first|rw [if_pos (by omega)]|rw [if_neg (by omega)]|rw [hDR]|rw [hDN]|rw [hAz]|rw [hSz]|rw [hAC]|rw [hSC]|rw [oMS]|rw [uPC]|rw [lSZ]|rw [lSS]|rfl))
 have y0:=hEC hy_ 0
 have y1:=hEC hy_ 1
 have yl:=lBk hy_
 have Hy:=Lib.hid hy_
 clear hy_
 have H1:=Lib.hid h9
 clear h1 h9
 go_wp2_with fail
 refine (Pattern_q H1.out id x y HXY.out.1 HXY.out.2).mono ?_
 rw [HPE.out]
 rintro e w2 ⟨v1,rfl,h9⟩
 (try clear y0 y1 yl Hy)
 have hy_:=(h9.fr.block (W.heap.size+1) (by first|(simp;done)|(simp;omega)) (by simp)).trans (show _=some (.cells #[.int .i64 x,.int .i64 y] 49 (0,0)) by (repeat first|rw [if_pos (by omega)]|rw [if_neg (by omega)]|rw [hDR]|rw [hDN]|rw [hAz]|rw [hSz]|rw [hAC]|rw [hSC]|rw [oMS]|rw [uPC]|rw [lSZ]|rw [lSS]|rfl))
 have y0:=hEC hy_ 0
 have y1:=hEC hy_ 1
 have yl:=lBk hy_
 have Hy:=Lib.hid hy_
 clear hy_
 obtain⟨av,cv,rfl,_,_⟩:=oFM h9.swap.row
 have h9:=h9.ord 3 [2,0,1]
 simp only [List.filterMap_cons,List.filterMap_nil,List.getElem?_cons_zero,List.getElem?_cons_succ,List.drop_succ_cons,List.drop_zero,List.cons_append,List.nil_append] at h9
 have H2:=Lib.hid h9
 clear h9 H1
 go_wp2_with fail
 refine (RPattern_q H2.out id x y HXY.out.1 HXY.out.2).mono ?_
 rw [HPE.out]
 rintro e w3 ⟨v2,rfl,h9⟩
 obtain⟨au,cu,rfl,_,_⟩:=oFM h9.swap.row
 have HR1:=Lib.hid (Reads.of_owns (h9.ord 4 [3]).row)
 have HR2:=Lib.hid (Reads.of_owns h9.swap.row)
 have H3:=Lib.hid h9
 clear h9 H2 y0 y1 yl Hy
 go_wp2_with fail
 refine (Same_p (l:=P) (m:=P) (CellsAt.fr HR1.out (by (repeat first|exact Fr.refl _ _|assumption|apply Fr.n|apply Fr.d|apply Fr.a|refine Fr.s ?_ (.inr (by simp;try omega)) _))) (CellsAt.fr HR2.out (by (repeat first|exact Fr.refl _ _|assumption|apply Fr.n|apply Fr.d|apply Fr.a|refine Fr.s ?_ (.inr (by simp;try omega)) _))) (by have:=HPL.out;omega) (by have:=HPL.out;omega)).mono ?_
 rw [decide_eq_true rfl]
 rintro e w4 ⟨rfl,hf⟩
 have H4:=Lib.hid (H3.out.step (Fr.trans0 (by (repeat first|exact Fr.refl _ _|assumption|apply Fr.n|apply Fr.d|apply Fr.a|refine Fr.s ?_ (.inr (by simp;try omega)) _)) hf))
 clear hf H3 HR1 HR2
 go_wp2_with fail
 refine (awake_q _).mono ?_
 rintro e w9 ⟨rfl,hf9⟩
 have Hf9:=Lib.hid (Fr.trans0 (by (repeat first|exact Fr.refl _ _|assumption|apply Fr.n|apply Fr.d|apply Fr.a|refine Fr.s ?_ (.inr (by simp;try omega)) _):Fr [] W _) (H4.out.fr.trans0 (Fr.trans0 (by (repeat first|exact Fr.refl _ _|assumption|apply Fr.n|apply Fr.d|apply Fr.a|refine Fr.s ?_ (.inr (by simp;try omega)) _)) hf9)))
 clear hf9
 go_wp2
 go_ret
 exact⟨rfl,Hf9.out⟩
end Go.Proofs.YtdanghnadbkhfaaGreat
end
