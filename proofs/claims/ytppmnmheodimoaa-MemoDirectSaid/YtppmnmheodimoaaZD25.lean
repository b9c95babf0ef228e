/- Own texts of this claim, part 26: no condition. -/
import Derived.Test.YtppmnmheodimoaaZD24
import Derived.Test.YtppmnmheodimoaaZD23
import Derived.Test.YtppmnmheodimoaaZD22
import Derived.Test.YtppmnmheodimoaaZD16
import Derived.Test.YtppmnmheodimoaaZD19
set_option linter.unusedVariables false
set_option linter.unusedSimpArgs false
section
namespace Go.Proofs.Ytppmnmheodimoaa
open Go Go.RowKit Rg Mp Hp Pt
set_option maxHeartbeats 16000000 in
set_option maxRecDepth 100000 in
theorem RFrom5_h {w:World} {l:List PC} {a:Option Addr} {c:Nat} (hl:CellsAtY w (.slice a l.length c) l) (hlen:l.length≤60000) :
  Calls Try.prog 98 #[.slice a l.length c] w fun e w'=>∃ v,e=.returned (.tuple #[v,.int .i64 (fromP l).2])∧Has w w' [Hp.row 110 3 v (fromP l).1.length (pcs (fromP l).1)]:=by
 have HL:=Lib.hid hl
 obtain⟨m,hm⟩:∃ m,l.length=m:=⟨_,rfl⟩
 have HM:=Lib.hid hm
 have hm6:m≤60000:=by omega
 obtain⟨R,hR⟩:∃ R,fromP l=R:=⟨_,rfl⟩
 have HR:=Lib.hid hR
 rw [hm,hR]
 clear hl hlen hm hR
 go_enter Try.func98,Try.ntmps98
 go_wp2
 go_loopw [5] (fun x5 wr=>∃ (i:Nat),x5=.int .i64 (i:Nat)∧i≤m∧badP (l.take i)=0∧Fr [] w wr) (fun x _=>m - (intOf x).toNat)
 case atStart=>exact⟨0,rfl,by omega,rfl,Fr.refl _ _⟩
 case round =>
  obtain⟨i,rfl,him,hb,hf⟩:=hrel
  have HBD:=Lib.hid hb
  have HF:=Lib.hid hf
  clear hb hf
  by_cases hlt:i<m
  ·obtain⟨⟨cx,cy,st⟩,hpi⟩:∃ c,l[i]?=some c:=⟨_,List.getElem?_eq_getElem (by rw [HM.out];exact hlt)⟩
   obtain⟨g,off,rfl,hg,e0,e1,e2⟩:=(HL.out.fr HF.out).cell hpi
   simp only at e0 e1 e2
   have HPI:=Lib.hid hpi
   clear hpi
   go_wp2
   (refine wRT (by kernel_rfl) (by kernel_rfl) ?_)
   go_wp2_with fail
   refine (place_p cx cy _).mono ?_
   obtain⟨pb,hpb⟩:∃ b,placeB cx cy=b:=⟨_,rfl⟩
   rw [hpb]
   rintro e w5 ⟨rfl,rfl⟩
   have HPB:=Lib.hid hpb
   clear hpb
   cases pb with
   | false =>
    have HE:=Lib.hid (show R=([],5) by
     have hb5:badP [⟨cx,cy,st⟩]=5:=by unfold badP;rw [if_pos HPB.out]
     have hb:badP l=5:=by rw [bad_here HBD.out HPI.out (by rw [hb5];decide),hb5]
     rw [← HR.out,fromP_bad (by rw [hb];decide),hb])
    go_wp2
    refine Strict.intro rfl ?_
    go_wp2
    go_ret2
    rw [HE.out]
    refine⟨_,rfl,?_⟩
    exact (Has.nil (Fr.trans0 HF.out (by (repeat first|exact Fr.refl _ _|assumption|apply Fr.n|apply Fr.d|apply Fr.a|refine Fr.s ?_ (.inr (by simp;try omega)) _)))).newRow (T:=110) (size:=3) (Fr.refl [] _) (owns_none _ _ _ _)
   | true =>
   go_wp2
   refine Strict.intro rfl ?_
   by_cases hs0:st<0
   ·have hd0:decide (st<0)=true:=by simpa using hs0
    have HE:=Lib.hid (show R=([],10) by
     have hb5:badP [⟨cx,cy,st⟩]=10:=by unfold badP;rw [if_neg (by simp [HPB.out]),if_pos (.inl hs0)]
     have hb:badP l=10:=by rw [bad_here HBD.out HPI.out (by rw [hb5];decide),hb5]
     rw [← HR.out,fromP_bad (by rw [hb];decide),hb])
    clear hs0
    go_wp2
    go_ret2
    rw [HE.out]
    refine⟨_,rfl,?_⟩
    exact (Has.nil (Fr.trans0 HF.out (by (repeat first|exact Fr.refl _ _|assumption|apply Fr.n|apply Fr.d|apply Fr.a|refine Fr.s ?_ (.inr (by simp;try omega)) _)))).newRow (T:=110) (size:=3) (Fr.refl [] _) (owns_none _ _ _ _)
   have hd0:decide (st<0)=false:=by simpa using hs0
   by_cases hs8:8≤st
   ·have hd8:decide (st ≥ 8)=true:=by simpa using hs8
    have HE:=Lib.hid (show R=([],10) by
     have hb5:badP [⟨cx,cy,st⟩]=10:=by unfold badP;rw [if_neg (by simp [HPB.out]),if_pos (.inr hs8)]
     have hb:badP l=10:=by rw [bad_here HBD.out HPI.out (by rw [hb5];decide),hb5]
     rw [← HR.out,fromP_bad (by rw [hb];decide),hb])
    clear hs0 hs8
    go_wp2
    go_ret2
    rw [HE.out]
    refine⟨_,rfl,?_⟩
    exact (Has.nil (Fr.trans0 HF.out (by (repeat first|exact Fr.refl _ _|assumption|apply Fr.n|apply Fr.d|apply Fr.a|refine Fr.s ?_ (.inr (by simp;try omega)) _)))).newRow (T:=110) (size:=3) (Fr.refl [] _) (owns_none _ _ _ _)
   have hd8:decide (st ≥ 8)=false:=by simpa using hs8
   have HN:=Lib.hid (bad_next HBD.out HPI.out (show badP [⟨cx,cy,st⟩]=0 by unfold badP;rw [if_neg (by simp [HPB.out]),if_neg (by dsimp only;omega)];rfl))
   clear hs0 hs8
   go_wp2
   go_roundw
   case rel=>exact⟨i+1,by go_num,by omega,HN.out,Fr.trans0 HF.out (by (repeat first|exact Fr.refl _ _|assumption|apply Fr.n|apply Fr.d|apply Fr.a|refine Fr.s ?_ (.inr (by simp;try omega)) _))⟩
   case measure=>simp [intOf];omega
  ·obtain rfl:i=m:=by omega
   have HB0:=Lib.hid (show badP l=0 from by have:=HBD.out;rwa [List.take_of_length_le (by rw [HM.out];exact Nat.le_refl _)] at this)
   have H0:=Lib.hid (show Has w wr [Hp.row 110 3 (.slice none 0 0) (sortP (someP (l.take 0))).length (pcs (sortP (someP (l.take 0))))] from (Has.nil HF.out).newRow (T:=110) (size:=3) (Fr.refl [] _) (owns_none _ _ _ _))
   clear HBD HF
   go_wp2
   go_loopw [4,6] (fun x4 x6 wr=>∃ (k:Nat) (v:Value),(v=x4∧x6=.int .i64 (k:Nat))∧k≤i∧Has w wr [Hp.row 110 3 v (sortP (someP (l.take k))).length (pcs (sortP (someP (l.take k))))]) (fun _ x _=>i - (intOf x).toNat)
   case atStart=>exact⟨0,_,⟨rfl,rfl⟩,by omega,H0.out⟩
   case round =>
    clear H0
    obtain⟨k,v4,⟨rfl,rfl⟩,hkm,h⟩:=hrel
    have H:=Lib.hid h
    clear h
    by_cases hlt:k<i
    ·obtain⟨⟨cx,cy,st⟩,hpi⟩:∃ c,l[k]?=some c:=⟨_,List.getElem?_eq_getElem (by rw [HM.out];exact hlt)⟩
     obtain⟨g,off,rfl,hg,e0,e1,e2⟩:=(HL.out.fr H.out.fr).cell hpi
     simp only at e0 e1 e2
     have HSN:=Lib.hid (some_next hpi)
     clear hpi
     obtain⟨Q,hQ⟩:∃ Q,sortP (someP (l.take k))=Q:=⟨_,rfl⟩
     have HQ:=Lib.hid hQ
     have HQL:=Lib.hid (show Q.length≤60000 from by
      rw [← hQ,(sortP_perm _).length_eq]
      unfold someP
      refine Nat.le_trans (List.length_filter_le _ _) ?_
      rw [List.length_take];omega)
     have h:=H.out
     rw [hQ] at h
     have H:=Lib.hid h
     clear h hQ
     by_cases hs:st=0
     ·have hd:(st != 0)=false:=by simp [hs]
      have hd2:(st == 0)=true:=by simp [hs]
      have HNX:=Lib.hid (show sortP (someP (l.take (k+1)))=Q by rw [HSN.out,if_neg (by simpa using hs),List.append_nil,HQ.out])
      clear hs
      go_wp2
      go_roundw
      case rel=>exact⟨k+1,_,⟨rfl,by go_num⟩,by omega,by rw [HNX.out];exact H.out.step (by (repeat first|exact Fr.refl _ _|assumption|apply Fr.n|apply Fr.d|apply Fr.a|refine Fr.s ?_ (.inr (by simp;try omega)) _))⟩
      case measure=>simp [intOf];omega
     ·have hd:(st != 0)=true:=by simp [hs]
      have HNX:=Lib.hid (show sortP (someP (l.take (k+1)))=insP ⟨cx,cy,st⟩ Q by rw [HSN.out,if_pos hs,sortP_snoc,HQ.out])
      obtain⟨av,cv,rfl,_,_⟩:=oFM H.out.row
      have HIN:=Lib.hid (show ∀ w1,Fr [] wr w1→_ from fun w1 hf=>Rinsert_h ((CellsAtY.fr (Reads.of_owns H.out.row) hf)) (by have:=HQL.out;omega) ⟨cx,cy,st⟩)
      simp only [pcV] at HIN
      clear hs
      go_wp2_with fail
      refine (HIN.out _ (by (repeat first|exact Fr.refl _ _|assumption|apply Fr.n|apply Fr.d|apply Fr.a|refine Fr.s ?_ (.inr (by simp;try omega)) _))).mono ?_
      rintro e w6 ⟨v6,rfl,h6⟩
      have h7:=has_join (H.out.step (by (repeat first|exact Fr.refl _ _|assumption|apply Fr.n|apply Fr.d|apply Fr.a|refine Fr.s ?_ (.inr (by simp;try omega)) _))) h6
      have h7:=h7.ord 2 [0]
      simp only [List.filterMap_cons,List.filterMap_nil,List.getElem?_cons_zero,List.getElem?_cons_succ,List.drop_succ_cons,List.drop_zero,List.cons_append,List.nil_append,List.take_succ_cons,List.take_zero,List.eraseIdx_cons_succ,List.eraseIdx_zero,List.eraseIdx_cons_zero,List.tail_cons,Option.toList_some] at h7
      have H7:=Lib.hid h7
      clear h6 h7 e0 e1 e2 hg
      go_wp2
      go_roundw
      case rel=>exact⟨k+1,_,⟨rfl,by go_num⟩,by omega,by rw [HNX.out];exact H7.out.step (by (repeat first|exact Fr.refl _ _|assumption|apply Fr.n|apply Fr.d|apply Fr.a|refine Fr.s ?_ (.inr (by simp;try omega)) _))⟩
      case measure=>simp [intOf];omega
    ·obtain rfl:k=i:=by omega
     obtain⟨Q,hQ⟩:∃ Q,sortP (someP l)=Q:=⟨_,rfl⟩
     have h:=H.out
     rw [List.take_of_length_le (by rw [HM.out];exact Nat.le_refl _),hQ] at h
     have HQL:=Lib.hid (show Q.length≤60000 from by
      rw [← hQ,(sortP_perm _).length_eq]
      unfold someP
      refine Nat.le_trans (List.length_filter_le _ _) ?_
      rw [HM.out];omega)
     have HW:=Lib.hid (show R=if strictB Q=false then ([],8) else if 5000<Q.length then ([],6) else (Q,0) by
      rw [← HR.out]
      exact fromP_of HB0.out (by rw [← hQ];exact sortP_weak _) (by rw [← hQ];exact sortP_perm _))
     obtain⟨av,cv,rfl,_,_⟩:=oFM h.row
     have HCA:=Lib.hid (show ∀ w1,Fr [] wr w1→CellsAtY w1 (.slice av Q.length cv) Q from fun w1 hf=>CellsAtY.fr (Reads.of_owns h.row) hf)
     obtain⟨q,hq⟩:∃ n,Q.length=n:=⟨_,rfl⟩
     have HQ:=Lib.hid hq
     have hq6:q≤60000:=by have:=HQL.out;omega
     rw [hq] at HCA h ⊢
     have H1:=Lib.hid h
     have HF1:=Lib.hid h.fr
     clear h hQ hq H HQL
     obtain⟨W0,hW0⟩:∃ W0,W0=wr:=⟨_,rfl⟩
     subst hW0
     go_wp2
     go_loopw [7] (fun x7 wr=>∃ (j:Nat),x7=.int .i64 ((j:Int)+1)∧j≤q∧(∀ t,t<j→t+1<q→pBef (Q.getD t z3) (Q.getD (t+1) z3)=true)∧Fr [] W0 wr) (fun x _=>q+1 - (intOf x).toNat)
     case atStart=>exact⟨0,rfl,by omega,by simp,Fr.refl _ _⟩
     case round =>
      obtain⟨j,rfl,hjq,hs,hf⟩:=hrel
      have HS:=Lib.hid hs
      have HF:=Lib.hid hf
      clear hs hf
      by_cases hlt:j+1<q
      ·obtain⟨⟨ax,ay,sa⟩,hp1⟩:∃ c,Q[j]?=some c:=⟨_,List.getElem?_eq_getElem (by rw [HQ.out];omega)⟩
       obtain⟨⟨bx,yb,sb⟩,hp2⟩:∃ c,Q[j+1]?=some c:=⟨_,List.getElem?_eq_getElem (by rw [HQ.out];omega)⟩
       obtain⟨g,off,rfl,hg,e0,e1,e2⟩:=(HCA.out _ HF.out).cell hp1
       obtain⟨g2,of2,he,_,f0,f1,f2⟩:=(HCA.out _ HF.out).cell hp2
       cases he
       simp only at e0 e1 e2 f0 f1 f2
       have HG:=Lib.hid (show Q.getD j z3=⟨ax,ay,sa⟩∧Q.getD (j+1) z3=⟨bx,yb,sb⟩ from ⟨by rw [List.getD_eq_getElem?_getD,hp1];rfl,by rw [List.getD_eq_getElem?_getD,hp2];rfl⟩)
       obtain⟨pb,hpb⟩:∃ b,pBef ⟨ax,ay,sa⟩ ⟨bx,yb,sb⟩=b:=⟨_,rfl⟩
       have HB:=Lib.hid (show ∀ w1,_ from fun w1=>hpb▸before_p ⟨ax,ay,sa⟩ ⟨bx,yb,sb⟩ w1)
       simp only [pcV] at HB
       have HPB:=Lib.hid hpb
       clear hp1 hp2 hpb
       go_wp2
       (refine wRT (by kernel_rfl) (by kernel_rfl) ?_)
       go_wp2_with fail
       refine (HB.out _).mono ?_
       rintro e w8 ⟨rfl,hf8⟩
       have HF8:=Lib.hid (HF.out.trans0 (Fr.trans0 (by (repeat first|exact Fr.refl _ _|assumption|apply Fr.n|apply Fr.d|apply Fr.a|refine Fr.s ?_ (.inr (by simp;try omega)) _)) hf8))
       clear hf8 e0 e1 e2 f0 f1 f2 hg
       cases pb with
       | false =>
        have HE:=Lib.hid (show R=([],8) by
         have hsf:strictB Q=false:=by
          cases hq:strictB Q with
          | false=>rfl
          | true =>
           have:=strict_at hq (k:=j) (by rw [HQ.out];omega)
           rw [HG.out.1,HG.out.2,HPB.out] at this
           cases this
         rw [HW.out,if_pos hsf])
        go_wp2
        refine Strict.intro rfl ?_
        go_wp2
        go_ret2
        rw [HE.out]
        refine⟨_,rfl,?_⟩
        exact (Has.nil (Fr.trans0 (HF1.out.trans0 HF8.out) (by (repeat first|exact Fr.refl _ _|assumption|apply Fr.n|apply Fr.d|apply Fr.a|refine Fr.s ?_ (.inr (by simp;try omega)) _)))).newRow (T:=110) (size:=3) (Fr.refl [] _) (owns_none _ _ _ _)
       | true =>
        have HN:=Lib.hid (show ∀ t,t<j+1→t+1<q→pBef (Q.getD t z3) (Q.getD (t+1) z3)=true from fun t ht h2=>by
         by_cases e:t=j
         ·subst e;rw [HG.out.1,HG.out.2];exact HPB.out
         ·exact HS.out t (by omega) h2)
        go_wp2
        refine Strict.intro rfl ?_
        go_wp2
        go_roundw
        case rel=>exact⟨j+1,by go_num,by omega,HN.out,HF8.out.trans0 (by (repeat first|exact Fr.refl _ _|assumption|apply Fr.n|apply Fr.d|apply Fr.a|refine Fr.s ?_ (.inr (by simp;try omega)) _))⟩
        case measure=>simp [intOf];omega
      ·have HST:=Lib.hid (show strictB Q=true from strict_mk fun t ht=>HS.out t (by rw [HQ.out] at ht;omega) (by rw [HQ.out] at ht;exact ht))
       by_cases h5:5000<q
       ·have hd5:decide ((q:Int) > 5000)=true:=by rw [decide_eq_true_eq];omega
        have HE:=Lib.hid (show R=([],6) by rw [HW.out,if_neg (by rw [HST.out];simp),if_pos (by rw [HQ.out];exact h5)])
        clear h5
        go_wp2
        go_ret2
        rw [HE.out]
        refine⟨_,rfl,?_⟩
        exact (Has.nil (Fr.trans0 (HF1.out.trans0 HF.out) (by (repeat first|exact Fr.refl _ _|assumption|apply Fr.n|apply Fr.d|apply Fr.a|refine Fr.s ?_ (.inr (by simp;try omega)) _)))).newRow (T:=110) (size:=3) (Fr.refl [] _) (owns_none _ _ _ _)
       ·have hd5:decide ((q:Int) > 5000)=false:=by rw [decide_eq_false_iff_not];omega
        have HE:=Lib.hid (show R=(Q,0) by rw [HW.out,if_neg (by rw [HST.out];simp),if_neg (by rw [HQ.out];exact h5)])
        clear h5
        go_wp2
        go_ret2
        rw [HE.out]
        refine⟨_,rfl,?_⟩
        have h:=H1.out.step HF.out
        rw [← HQ.out] at h ⊢
        exact h.step (by (repeat first|exact Fr.refl _ _|assumption|apply Fr.n|apply Fr.d|apply Fr.a|refine Fr.s ?_ (.inr (by simp;try omega)) _))
end Go.Proofs.Ytppmnmheodimoaa
end
section
namespace Go.Proofs.Ytppmnmheodimoaa
open Go Go.RowKit Rg Mp Hp Qs Ev Pt
theorem owns_some27 {w:World} {base e size n c:Nat} {a:Option Addr} {xs:List Value} (h:w.ownsRow base e size (.slice a n c) n xs) (hn:0<n):∃ g,a=some ⟨g,0,none⟩:=by
 obtain⟨a2,c2,he,hz,hg⟩:=owns_form2 h
 obtain⟨rfl,_,rfl⟩:=Value.slice.inj he
 cases a with
 | none=>have:=(hz rfl).1;omega
 | some ad=>obtain⟨g,rfl⟩:=hg ad rfl;exact⟨g,rfl⟩
theorem pcs_one (l:List PC) (c:PC):pcs (l++[c])=pcs l++[.int .i64 c.x,.int .i64 c.y,.int .i64 c.st]:=by simp [pcs]
structure FitP (r:Rule) (B:Int) (p:List PC):Prop where
 right:rightP p=true
 wi:Wi B p
 st:∀ c∈p,c.st<r.S
theorem FitP.fits {r:Rule} {B:Int} {p:List PC} (h:FitP r B p) (hq:quietB r=true):fitsE r p=0:=by
 unfold fitsE
 rw [hq,h.right,if_pos rfl,if_pos rfl,if_pos]
 rw [List.all_eq_true]
 exact fun c hc=>decide_eq_true (h.st c hc)
theorem FitP.pos {r:Rule} {B:Int} {p:List PC} (h:FitP r B p):∀ c∈p,0≤c.st∧c.st<r.S:=fun c hc=>by
 have:=(right_parts h.right).2.1 c hc
 simp only [cellB,Bool.and_eq_true,decide_eq_true_eq] at this
 have:=h.st c hc
 omega
def StepRPost (W:World) (Ps:List Res) (r:Rule) (B:Int) (p:List PC) (e:Ending) (w':World):Prop :=
 ∃ (q:List PC) (va:Option Addr) (vc:Nat),e=.returned (.tuple #[.slice va q.length vc,.int .i64 0])∧FitP r (B+2) q∧fldP q=gen r (fldP p)∧Has W w' (Hp.row 110 3 (.slice va q.length vc) q.length (pcs q)::Ps)
set_option maxHeartbeats 16000000 in
set_option maxRecDepth 100000 in
theorem RStep20_calls {W w:World} {Ps:List Res} (h:Has W w Ps) {r:Rule} {ha na:Option Addr} {hc nc:Nat} (hQ:quietB r=true) (hsrc:RuleSrc W (.slice ha r.hood.length hc) (.slice na r.nodes.length nc) r Ps)
  {p:List PC} {a:Option Addr} {c:Nat} (hp:PatSrc W Ps a c p) {B:Int} (hB:0≤B∧B≤30) (hf:FitP r B p) :
  Calls Try.prog 80 #[.agg #[.int .i64 r.S,.slice ha r.hood.length hc,.slice na r.nodes.length nc],.slice a p.length c] w (StepRPost W Ps r B p):=by
 obtain⟨hR,_⟩:=quiet_parts hQ
 have hhl:=right_hlen hR
 have hnl:=right_len hR
 have hpl:=(right_parts hf.right).1
 have hFT:=fun w' (hff:Fr [] w w')=>RFits_calls (hsrc w' Ps (h.step hff) fun P hP=>hP) (by omega) (by omega) (hp w' Ps (h.step hff) fun P hP=>hP) (by omega)
 rw [hf.fits hQ] at hFT
 have H0:=Lib.hid (h.newBlk (.cells #[.int .i64 r.S,.slice ha r.hood.length hc,.slice na r.nodes.length nc] 31 (0,0)))
 have HQ:=Lib.hid (And.intro hQ hR)
 have HSRC:=Lib.hid hsrc
 have HP:=Lib.hid hp
 have HFIT:=Lib.hid hf
 obtain⟨m,hm⟩:∃ m,r.hood.length=m:=⟨_,rfl⟩
 obtain⟨n,hn⟩:∃ m,r.nodes.length=m:=⟨_,rfl⟩
 obtain⟨l,hl⟩:∃ m,p.length=m:=⟨_,rfl⟩
 rw [hm,hn,hl] at hFT
 rw [hm,hn] at H0 ⊢
 rw [hl] at hpl ⊢
 have HFT:=Lib.hid hFT
 have HM:=Lib.hid (And.intro hm (And.intro hn hl))
 clear h hQ hR hsrc hp hf hm hn hl hFT hhl hnl
 go_enter Try.func80,Try.ntmps80
 go_wp2_with fail
 refine (HFT.out _ (by (repeat first|exact Fr.refl _ _|assumption|apply Fr.n|apply Fr.d|apply Fr.a|refine Fr.s ?_ (.inr (by simp;try omega)) _))).mono ?_
 rintro e w1 ⟨rfl,hf1⟩
 obtain⟨tb,htb⟩:∃ t,w.heap.size=t:=⟨_,rfl⟩
 have h1:=H0.out.step (Fr.trans0 (by (repeat first|exact Fr.refl _ _|assumption|apply Fr.n|apply Fr.d|apply Fr.a|refine Fr.s ?_ (.inr (by simp;try omega)) _)) hf1)
 rw [htb] at h1 ⊢
 have H1:=Lib.hid h1
 have hST:=fun w' (hff:Fr [] w1 w')=>RStates_calls (H1.out.step hff) (HP.out.more fun P hP=>List.mem_cons_of_mem _ hP) HFIT.out.right (B:=B) (by omega) HFIT.out.wi
 rw [HM.out.2.2] at hST
 have HST:=Lib.hid hST
 clear h1 hf1 htb H0 HFT hST
 go_wp2_with fail
 refine (HST.out _ (by (repeat first|exact Fr.refl _ _|assumption|apply Fr.n|apply Fr.d|apply Fr.a|refine Fr.s ?_ (.inr (by simp;try omega)) _))).mono ?_
 rintro e w2 ⟨b,cb,rfl,hbo,h2⟩
 rw [HM.out.2.2]
 have HBO:=Lib.hid hbo
 have hlow:=hbo.low
 have hbl:-100≤b.x∧b.x+b.w≤100∧-100≤b.y∧b.y+b.h≤100:=by omega
 have HBL:=Lib.hid hbl
 unfold fieldV
 have h3:=h2.newBlk (.cells #[.bool true,.int .i64 b.x,.int .i64 b.y,.int .i64 (b.w:Int),.int .i64 (b.h:Int),.slice (some ⟨cb,0,none⟩) (b.w*b.h) (b.w*b.h),.slice a l c] 160 (0,0))
 have H3:=Lib.hid h3
 have HNE:=Lib.hid (fun w' (hw:Has W w' (Hp.blk w2.heap.size (.cells #[.bool true,.int .i64 b.x,.int .i64 b.y,.int .i64 (b.w:Int),.int .i64 (b.h:Int),.slice (some ⟨cb,0,none⟩) (b.w*b.h) (b.w*b.h),.slice a l c] 160 (0,0))::Hp.row 3 1 (.slice (some ⟨cb,0,none⟩) (b.w*b.h) (b.w*b.h)) (b.w*b.h) (iv (arrA (fldP p) b))::Hp.blk tb (.cells #[.int .i64 r.S,.slice ha m hc,.slice na n nc] 31 (0,0))::Ps))=>RNear_calls hw HBL.out (ca:=some ⟨cb,0,none⟩) (n:=b.w*b.h) (la:=a) (lm:=l) (lc:=c))
 unfold fieldV at HNE
 clear h2 h3 HST H1 hbo hlow hbl
 obtain⟨bx,hbx⟩:∃ t,b.x=t:=⟨_,rfl⟩
 obtain⟨by',hby⟩:∃ t,b.y=t:=⟨_,rfl⟩
 obtain⟨bw,hbw⟩:∃ t,b.w=t:=⟨_,rfl⟩
 obtain⟨bh,hbh⟩:∃ t,b.h=t:=⟨_,rfl⟩
 have HBE:=Lib.hid (And.intro hbx (And.intro hby (And.intro hbw hbh)))
 obtain⟨A,hA⟩:∃ A,arrA (fldP p) b=A:=⟨_,rfl⟩
 obtain⟨N,hN⟩:∃ N,nearL b=N:=⟨_,rfl⟩
 have HAN:=Lib.hid (And.intro hA hN)
 have hNl:=nearL_length b
 rw [hN] at hNl
 rw [hA] at H3 HNE
 rw [hbw,hbh,hbx,hby] at H3
 rw [hbw,hbh,hbx,hby,hN] at HNE
 rw [hbw,hbh] at hNl
 rw [hbw,hbh,hbx,hby]
 obtain⟨nn,hnn⟩:∃ n,bw*bh=n:=⟨_,rfl⟩
 rw [hnn] at H3 HNE ⊢
 obtain⟨L,hL⟩:∃ n,(bh+4)*(bw+4)=n:=⟨_,rfl⟩
 rw [hL] at HNE hNl
 have hL5:L≤5000:=by
  have h1:=HBO.out.low
  rw [hbx,hby,hbw,hbh] at h1
  have:(bh+4)*(bw+4)≤64*64:=Nat.mul_le_mul (by omega) (by omega)
  omega
 have HNL:=Lib.hid hNl
 have HNN:=Lib.hid hnn
 clear hbx hby hbw hbh hA hN hnn hL hNl
 have hb:=H3.out.blk
 have v0:_=some _:=hEC hb 0
 have v1:_=some _:=hEC hb 1
 have v2:_=some _:=hEC hb 2
 have v3:_=some _:=hEC hb 3
 have v4:_=some _:=hEC hb 4
 have v5:_=some _:=hEC hb 5
 have v6:_=some _:=hEC hb 6
 have vl:=lBk hb
 clear hb
 go_wp2_with fail
 refine (HNE.out _ (H3.out.step (by (repeat first|exact Fr.refl _ _|assumption|apply Fr.n|apply Fr.d|apply Fr.a|refine Fr.s ?_ (.inr (by simp;try omega)) _)))).mono ?_
 rintro e w4 ⟨na4,nc4,rfl,h4⟩
 have H4:=Lib.hid (h4.nilRow 110 3)
 clear h4 HNE H3 v0 v1 v2 v3 v4 v5 v6 vl
 have hRN:=fun (w':World) (Qs:List Res) (hw:Has W w' Qs) (hs:∀ P∈(Hp.row 87 2 (.slice na4 L nc4) L (pts N)::Hp.blk w2.heap.size (.cells #[.bool true,.int .i64 bx,.int .i64 by',.int .i64 (bw:Int),.int .i64 (bh:Int),.slice (some ⟨cb,0,none⟩) nn nn,.slice a l c] 160 (0,0))::Hp.row 3 1 (.slice (some ⟨cb,0,none⟩) nn nn) nn (iv A)::Hp.blk tb (.cells #[.int .i64 r.S,.slice ha m hc,.slice na n nc] 31 (0,0))::Ps),P∈Qs) (x y:Int) (hx:-200≤x∧x≤200) (hy:-200≤y∧y≤200)=>RNext20_calls hw HQ.out.2 (HSRC.out.more fun P hP=>hs P (by simp [hP])) (HBO.out.hold) HBL.out (cb:=cb) (hs _ (by rw [HBE.out.2.2.1,HBE.out.2.2.2,HNN.out,HAN.out.1];simp)) (fun x y=>fld_range (by have:=right_S HQ.out.2;omega) HFIT.out.pos x y) (la:=a) (lm:=l) (lc:=c) hx hy
 unfold fieldV at hRN
 rw [HBE.out.1,HBE.out.2.1,HBE.out.2.2.1,HBE.out.2.2.2,HNN.out,HM.out.1,HM.out.2.1] at hRN
 have HRN:=Lib.hid hRN
 clear hRN
 have hpos:∀ q∈N,-100≤q.1∧q.1≤100∧-100≤q.2∧q.2≤100:=fun q hq=>by
  rw [← HAN.out.2] at hq
  have:=mem_near.1 hq
  have:=HBO.out.low
  omega
 have HPOS:=Lib.hid hpos
 clear hpos
 obtain⟨F,hF⟩:∃ F,fldP p=F:=⟨_,rfl⟩
 have HF:=Lib.hid hF
 rw [hF] at HRN
 clear hF
 go_wp2
 go_loopg [9,10,11] L (fun gg z9 z10 z11 wr=>∃ (i k:Nat) (va:Option Addr) (vc:Nat),i≤L∧k≤i∧L - i≤gg∧z11=.int .i64 (i:Int)∧z10=.bool false∧z9=.slice va k vc∧Hid ((nextL r F (N.take i)).length=k)∧Hid (Has W wr (Hp.row 110 3 (.slice va k vc) k (pcs (nextL r F (N.take i)))::Hp.row 87 2 (.slice na4 L nc4) L (pts N)::Hp.blk w2.heap.size (.cells #[.bool true,.int .i64 bx,.int .i64 by',.int .i64 (bw:Int),.int .i64 (bh:Int),.slice (some ⟨cb,0,none⟩) nn nn,.slice a l c] 160 (0,0))::Hp.row 3 1 (.slice (some ⟨cb,0,none⟩) nn nn) nn (iv A)::Hp.blk tb (.cells #[.int .i64 r.S,.slice ha m hc,.slice na n nc] 31 (0,0))::Ps)))
 case atStart=>exact⟨0,0,none,0,Nat.zero_le _,Nat.le_refl _,by omega,rfl,rfl,rfl,Lib.hid (by rw [List.take_zero];rfl),Lib.hid (by rw [List.take_zero];exact H4.out.step (by (repeat first|exact Fr.refl _ _|assumption|apply Fr.n|apply Fr.d|apply Fr.a|refine Fr.s ?_ (.inr (by simp;try omega)) _)))⟩
 case round =>
  obtain⟨i,k,va,vc,hi,hki,hg,rfl,rfl,rfl,HK,HH⟩:=hrel
  clear H4
  have hb:=(HH.out.bring 2).blk
  have v0:_=some _:=hEC hb 0
  have v1:_=some _:=hEC hb 1
  have v2:_=some _:=hEC hb 2
  have v3:_=some _:=hEC hb 3
  have v4:_=some _:=hEC hb 4
  have v5:_=some _:=hEC hb 5
  have v6:_=some _:=hEC hb 6
  have vl:=lBk hb
  have hb:=(HH.out.bring 4).blk
  have x0:_=some _:=hEC hb 0
  have x1:_=some _:=hEC hb 1
  have x2:_=some _:=hEC hb 2
  have xl:=lBk hb
  clear hb
  by_cases hin:i<L
  ·obtain⟨⟨qx,qy⟩,hq⟩:∃ q,N[i]?=some q:=⟨_,List.getElem?_eq_getElem (by rw [HNL.out];exact hin)⟩
   have hqp:=HPOS.out _ (List.mem_of_getElem? hq)
   simp only at hqp
   obtain⟨hg0,hg1⟩:=pts_get hq
   have hr:=(HH.out.bring 1).row
   obtain⟨ng,rfl⟩:=owns_some27 hr (by omega)
   have p0:=owns_cell hr rfl hg0
   have p1:=owns_cell hr rfl hg1
   have pl:=oLT hr rfl
   simp only at p0 p1
   have HNX:=Lib.hid (nextL_snoc r F (N.take i) (qx,qy))
   have htk:N.take (i+1)=N.take i++[(qx,qy)]:=by rw [List.take_add_one,hq];rfl
   have HTK:=Lib.hid htk
   obtain⟨s,hs⟩:∃ s,gen r F qx qy=s:=⟨_,rfl⟩
   have HSS:=Lib.hid hs
   have H2:=Lib.hid (HH.out.newBlk (.cells #[.int .i64 qx,.int .i64 qy] 87 (0,0)))
   have HQB:=Lib.hid (fun w' (hf:Fr [] (wr.alloc (.cells #[.int .i64 qx,.int .i64 qy] 87 (0,0))) w')=>HRN.out w' _ (H2.out.step hf) (fun P hP=>List.mem_cons_of_mem _ (List.mem_cons_of_mem _ hP)) qx qy (by omega) (by omega))
   rw [hs] at HQB
   have hmaxl:(5001:Nat)≤maxLen:=by decide
   have HLL:=Lib.hid (show k+1≤maxLen∧(k+1)*24≤140737488355328 from by omega)
   clear hq hg0 hg1 hr htk hs hmaxl
   go_wp2_with fail
   refine (HQB.out _ (by (repeat first|exact Fr.refl _ _|assumption|apply Fr.n|apply Fr.d|apply Fr.a|refine Fr.s ?_ (.inr (by simp;try omega)) _))).mono ?_
   rintro e w5 ⟨rfl,h5⟩
   obtain⟨qb,hqb⟩:∃ t,wr.heap.size=t:=⟨_,rfl⟩
   rw [hqb] at h5 ⊢
   have hb:=h5.blk
   have q0:_=some _:=hEC hb 0
   have q1:_=some _:=hEC hb 1
   have ql:=lBk hb
   have H5:=Lib.hid h5
   clear h5 hqb hb HQB H2 HH v0 v1 v2 v3 v4 v5 v6 vl x0 x1 x2 xl p0 p1 pl
   by_cases hs0:s=0
   ·subst hs0
    have hnx:nextL r F (N.take (i+1))=nextL r F (N.take i):=by rw [HTK.out,HNX.out,HSS.out];simp
    have HNY:=Lib.hid hnx
    clear hnx
    go_wp2
    go_roundg (L - (i+1))
    case measure=>exact Nat.lt_of_lt_of_le (Nat.sub_succ_lt_self _ _ hin) hg
    case rel=>exact⟨i+1,k,va,vc,hin,by omega,Nat.le_refl _,by simp,rfl,rfl,Lib.hid (by rw [HNY.out];exact HK.out),Lib.hid (by rw [HNY.out];exact H5.out.drop.step (by (repeat first|exact Fr.refl _ _|assumption|apply Fr.n|apply Fr.d|apply Fr.a|refine Fr.s ?_ (.inr (by simp;try omega)) _)))⟩
   ·have hb0:(s != 0)=true:=by simpa using hs0
    have hnx:nextL r F (N.take (i+1))=nextL r F (N.take i)++[⟨qx,qy,s⟩]:=by
     rw [HTK.out,HNX.out]
     (try simp only)
     rw [HSS.out,if_neg hs0]
    have HNY:=Lib.hid hnx
    have HVA:=Lib.hid (fun w=>Rvalid20_calls (w:=w) (x:=qx) (y:=qy) (by omega) (by omega))
    have H6:=Lib.hid (H5.out.swap)
    clear hnx
    go_wp2_with (at_builtin;refine append_has (W:=W) (size:=3) (bytes:=24) (z:=.agg #[.int .i64 0,.int .i64 0,.int .i64 0]) (e:=110) (n:=k) (xs:=pcs (nextL r F (N.take i))) (news:=[.int .i64 qx,.int .i64 qy,.int .i64 s]) rfl rfl Try.underlying60 (by kernel_rfl) rfl (by decide) rfl rfl (H6.out.step (by (repeat first|exact Fr.refl _ _|assumption|apply Fr.n|apply Fr.d|apply Fr.a|refine Fr.s ?_ (.inr (by simp;try omega)) _))) (by (repeat first|rw [if_pos (by omega)]|rw [if_neg (by omega)]|rw [hDR]|rw [hDN]|rw [hAz]|rw [hSz]|rw [hAC]|rw [hSC]|rw [oMS]|rw [uPC]|rw [lSZ]|rw [lSS]|rfl)) rfl (by simp [Value.oneCell']) HLL.out.1 HLL.out.2 ?_)
    intro g2 cap2 w7 h7 hf7 hg7
    rw [show pcs (nextL r F (N.take i))++[.int .i64 qx,.int .i64 qy,.int .i64 s]=pcs (nextL r F (N.take (i+1))) from by rw [HNY.out,pcs_one]] at h7
    clear q0 q1 ql
    have hb:=(h7.bring 1).blk
    have q0:_=some _:=hEC hb 0
    have q1:_=some _:=hEC hb 1
    have ql:=lBk hb
    have H7:=Lib.hid h7
    clear h7 hb hf7 hg7 H5 H6
    go_wp2_with fail
    refine (HVA.out _).mono ?_
    rintro e w8 ⟨rfl,hw8⟩
    subst hw8
    go_wp2
    go_roundg (L - (i+1))
    case measure=>exact Nat.lt_of_lt_of_le (Nat.sub_succ_lt_self _ _ hin) hg
    case rel=>exact⟨i+1,k+1,some ⟨g2,0,none⟩,cap2,hin,by omega,Nat.le_refl _,by simp,rfl,rfl,Lib.hid (by rw [HNY.out,List.length_append,HK.out];rfl),Lib.hid ((H7.out.ord 2 [0]).step (by (repeat first|exact Fr.refl _ _|assumption|apply Fr.n|apply Fr.d|apply Fr.a|refine Fr.s ?_ (.inr (by simp;try omega)) _)))⟩
  ·obtain rfl:L=i:=by omega
   have h5:=HH.out
   have hk:=HK.out
   rw [List.take_of_length_le (by rw [HNL.out];exact Nat.le_refl _)] at h5 hk
   have hlow:=HBO.out.low
   obtain⟨hso,hlen⟩:=step_ok HQ.out.1 (B:=B) hB.1 hB.2 HFIT.out.pos HBO.out.hold hlow
   rw [HAN.out.2,HF.out] at hso hlen
   have HSO:=Lib.hid hso
   obtain⟨Q,hQe⟩:∃ Q,nextL r F N=Q:=⟨_,rfl⟩
   rw [hQe] at h5 hk hlen HSO
   have hca:CellsAtY wr (.slice va Q.length vc) Q:=by
    have:=h5.rowReads
    rw [← hk] at this
    exact this
   have hFR:=fun w' (hf:Fr [] wr w')=>RFrom5_h (hca.fr hf) (by omega)
   rw [from_right HSO.out.right (List.Perm.refl _),hk] at hFR
   have HFR:=Lib.hid hFR
   have H5:=Lib.hid h5
   have HKL:=Lib.hid hk
   rw [hk] at hlen
   clear h5 hk hca hFR hso hlow hQe HH HK v0 v1 v2 v3 v4 v5 v6 vl x0 x1 x2 xl
   go_wp2_with fail
   refine (HFR.out _ (by (repeat first|exact Fr.refl _ _|assumption|apply Fr.n|apply Fr.d|apply Fr.a|refine Fr.s ?_ (.inr (by simp;try omega)) _))).mono ?_
   rintro e w6 ⟨v6,rfl,h6⟩
   (try rw [HKL.out] at h6)
   obtain⟨qa,qc,rfl,_,_⟩:=owns_form2 h6.row
   have H6:=Lib.hid (has_join (H5.out.step (by (repeat first|exact Fr.refl _ _|assumption|apply Fr.n|apply Fr.d|apply Fr.a|refine Fr.s ?_ (.inr (by simp;try omega)) _))) h6)
   clear h6 HFR H5
   go_wp2
   go_ret2
   refine⟨Q,qa,qc,by rw [HKL.out];rfl,⟨HSO.out.right,HSO.out.wi,HSO.out.st⟩,by rw [HSO.out.fld,HF.out],?_⟩
   rw [HKL.out]
   exact ((H6.out.ord 6 [0]).step (by (repeat first|exact Fr.refl _ _|assumption|apply Fr.n|apply Fr.d|apply Fr.a|refine Fr.s ?_ (.inr (by simp;try omega)) _)))
end Go.Proofs.Ytppmnmheodimoaa
end
section
namespace Go.Proofs.Ytppmnmheodimoaa
open Go Go.RowKit Rg Mp Hp Qs Ev Pt
theorem has_one27 {W w:World} {Ps:List Res} (h:Has W w Ps) (T:Nat) (v:Value):Has W (w.alloc (.cells #[v] T (0,0))) (Hp.row T 1 (.slice (some ⟨w.heap.size,0,none⟩) 1 1) 1 [v]::Ps):=by
 refine h.newRow ((Fr.refl [] w).alloc _) ?_
 have hm:(1:Nat)≤maxLen:=by decide
 exact⟨by simp,.inr ⟨w.heap.size,1,#[v],rfl,Nat.le_refl _,by rw [hAC,if_pos rfl],by omega,by omega,by simp,by simp⟩⟩
structure HistI (W:World) (Ps X:List Res) (r:Rule) (B:Int) (p:List PC) (i:Nat) (q:List PC) (qa:Option Addr) (qc:Nat):Prop where
 sub:∀ P∈Ps,P∈X
 src:PatSrc W X qa qc q
 fit:FitP r (B+2*(i:Int)) q
 fld:fldP q=it (gen r) i (fldP p)
def HistPost (W:World) (Ps:List Res) (r:Rule) (B:Int) (p:List PC) (n:Nat) (e:Ending) (w':World):Prop :=
 ∃ (X:List Res) (q:List PC) (qa:Option Addr) (qc:Nat) (us:List Value) (va:Option Addr) (vc:Nat),e=.returned (.tuple #[.slice va (n+1) vc,.int .i64 0])∧us.length=n∧HistI W Ps X r B p n q qa qc ∧
  Has W w' (Hp.row 61 1 (.slice va (n+1) vc) (n+1) (us++[.slice qa q.length qc])::X)
set_option maxHeartbeats 16000000 in
set_option maxRecDepth 100000 in
theorem RHistory_calls {W w:World} {Ps:List Res} (h:Has W w Ps) {r:Rule} {ha na:Option Addr} {hc nc:Nat} (hQ:quietB r=true) (hsrc:RuleSrc W (.slice ha r.hood.length hc) (.slice na r.nodes.length nc) r Ps)
  {p:List PC} {a:Option Addr} {c:Nat} (hp:PatSrc W Ps a c p) {B:Int} {n:Nat} (hB:0≤B∧B+2*(n:Int)≤32) (hf:FitP r B p) :
  Calls Try.prog 58 #[.agg #[.int .i64 r.S,.slice ha r.hood.length hc,.slice na r.nodes.length nc],.slice a p.length c,.int .i64 (n:Int)] w (HistPost W Ps r B p n):=by
 obtain⟨hR,_⟩:=quiet_parts hQ
 have hhl:=right_hlen hR
 have hnl:=right_len hR
 have hpl:=(right_parts hf.right).1
 have hFT:=fun w' (hff:Fr [] w w')=>RFits_calls (hsrc w' Ps (h.step hff) fun P hP=>hP) (by omega) (by omega) (hp w' Ps (h.step hff) fun P hP=>hP) (by omega)
 rw [hf.fits hQ] at hFT
 have H0:=Lib.hid (h.newBlk (.cells #[.int .i64 r.S,.slice ha r.hood.length hc,.slice na r.nodes.length nc] 31 (0,0)))
 have HST:=Lib.hid (fun (w':World) (X:List Res) (q:List PC) (qa:Option Addr) (qc:Nat) (B':Int) (hw:Has W w' X) (hs:∀ P∈Ps,P∈X) (hq:PatSrc W X qa qc q) (hB':0≤B'∧B'≤30) (hfq:FitP r B' q)=>RStep20_calls hw hQ (hsrc.more hs) hq hB' hfq)
 have HI0:=Lib.hid (show HistI W Ps Ps r B p 0 p a c from ⟨fun P hP=>hP,hp,by simpa using hf,rfl⟩)
 obtain⟨m,hm⟩:∃ m,r.hood.length=m:=⟨_,rfl⟩
 obtain⟨k,hk⟩:∃ m,r.nodes.length=m:=⟨_,rfl⟩
 obtain⟨l,hl⟩:∃ m,p.length=m:=⟨_,rfl⟩
 rw [hm,hk,hl] at hFT
 rw [hm,hk] at H0 HST ⊢
 rw [hl] at hpl ⊢
 have HFT:=Lib.hid hFT
 have HL:=Lib.hid hl
 clear h hQ hR hsrc hp hf hm hk hl hFT hhl hnl
 go_enter Try.func58,Try.ntmps58
 go_wp2_with fail
 refine (HFT.out _ (by (repeat first|exact Fr.refl _ _|assumption|apply Fr.n|apply Fr.d|apply Fr.a|refine Fr.s ?_ (.inr (by simp;try omega)) _))).mono ?_
 rintro e w1 ⟨rfl,hf1⟩
 obtain⟨tb,htb⟩:∃ t,w.heap.size=t:=⟨_,rfl⟩
 have h1:=H0.out.step (Fr.trans0 (by (repeat first|exact Fr.refl _ _|assumption|apply Fr.n|apply Fr.d|apply Fr.a|refine Fr.s ?_ (.inr (by simp;try omega)) _)) hf1)
 rw [htb] at h1 ⊢
 have H1:=Lib.hid (has_one27 h1 61 (.slice a l c))
 clear h1 hf1 htb H0 HFT
 go_wp2
 go_loopg [9,10] n (fun gg z9 z10 wr=>∃ (i:Nat) (X:List Res) (q:List PC) (qa:Option Addr) (qc:Nat) (us:List Value) (va:Option Addr) (vc:Nat),i≤n∧n - i≤gg∧z10=.int .i64 (i:Int)∧z9=.slice va (i+1) vc∧Hid (us.length=i)∧Hid (HistI W Ps X r B p i q qa qc)∧Hid (Has W wr (Hp.row 61 1 (.slice va (i+1) vc) (i+1) (us++[.slice qa q.length qc])::Hp.blk tb (.cells #[.int .i64 r.S,.slice ha m hc,.slice na k nc] 31 (0,0))::X)))
 case atStart=>exact⟨0,Ps,p,a,c,[],_,1,Nat.zero_le _,by omega,rfl,rfl,Lib.hid rfl,HI0,Lib.hid (by rw [HL.out];exact H1.out.step (by (repeat first|exact Fr.refl _ _|assumption|apply Fr.n|apply Fr.d|apply Fr.a|refine Fr.s ?_ (.inr (by simp;try omega)) _)))⟩
 case round =>
  obtain⟨i,X,q,qa,qc,us,va,vc,hi,hg,rfl,rfl,HU,HQI,HH⟩:=hrel
  clear H1 HI0
  have hb:=(HH.out.bring 1).blk
  have v0:_=some _:=hEC hb 0
  have v1:_=some _:=hEC hb 1
  have v2:_=some _:=hEC hb 2
  have vl:=lBk hb
  clear hb
  have hr:=HH.out.row
  obtain⟨g,rfl⟩:=owns_some27 hr (by omega)
  by_cases hin:i<n
  ·have p0:=owns_cell hr rfl (show (us++[Value.slice qa q.length qc])[i]?=some (.slice qa q.length qc) from by rw [List.getElem?_append_right (by rw [HU.out];exact Nat.le_refl _),HU.out,Nat.sub_self];rfl)
   have pl:=oLT hr rfl
   have HSQ:=Lib.hid (fun w' (hf:Fr [] wr w')=>HST.out w' _ q qa qc (B+2*(i:Int)) (HH.out.step hf) (fun P hP=>List.mem_cons_of_mem _ (List.mem_cons_of_mem _ (HQI.out.sub P hP))) (HQI.out.src.more fun P hP=>List.mem_cons_of_mem _ (List.mem_cons_of_mem _ hP)) (by omega) HQI.out.fit)
   have hmaxl:(50:Nat)≤maxLen:=by decide
   have HLL:=Lib.hid (show i+1+1≤maxLen∧(i+1+1)*24≤140737488355328 from by omega)
   clear hr hmaxl
   go_wp2
   (refine wRT (by kernel_rfl) (by kernel_rfl) ?_)
   go_wp2_with fail
   refine (HSQ.out _ (by (repeat first|exact Fr.refl _ _|assumption|apply Fr.n|apply Fr.d|apply Fr.a|refine Fr.s ?_ (.inr (by simp;try omega)) _))).mono ?_
   rintro e w3 ⟨q2,qa2,qc2,rfl,hfit,hfld,h3⟩
   have HF2:=Lib.hid (And.intro hfit hfld)
   have h4:=h3.ord 3 [1,2,0]
   simp only [List.filterMap_cons,List.filterMap_nil,List.getElem?_cons_zero,List.getElem?_cons_succ,List.drop_succ_cons,List.drop_zero,List.cons_append,List.nil_append,List.take_succ_cons,List.take_zero,List.eraseIdx_cons_succ,List.eraseIdx_zero,List.eraseIdx_cons_zero,List.tail_cons,Option.toList_some] at h4
   have H3:=Lib.hid h4
   clear h3 h4 hfit hfld HSQ HH v0 v1 v2 vl p0 pl
   go_wp2
   refine Strict.intro rfl ?_
   go_wp2_with (at_builtin;refine append_has (W:=W) (size:=1) (bytes:=24) (z:=.slice none 0 0) (e:=61) (n:=i+1) (xs:=us++[.slice qa q.length qc]) (news:=[.slice qa2 q2.length qc2]) rfl rfl Try.underlying121 (by kernel_rfl) rfl (by decide) rfl rfl (H3.out.step (by (repeat first|exact Fr.refl _ _|assumption|apply Fr.n|apply Fr.d|apply Fr.a|refine Fr.s ?_ (.inr (by simp;try omega)) _))) (by (repeat first|rw [if_pos (by omega)]|rw [if_neg (by omega)]|rw [hDR]|rw [hDN]|rw [hAz]|rw [hSz]|rw [hAC]|rw [hSC]|rw [oMS]|rw [uPC]|rw [lSZ]|rw [lSS]|rfl)) rfl (by simp [Value.oneCell']) HLL.out.1 HLL.out.2 ?_)
   intro g5 cap5 w5 h5 hf5 hg5
   have H5:=Lib.hid h5
   clear h5 hf5 hg5 H3
   go_wp2
   go_roundg (n - (i+1))
   case measure=>exact Nat.lt_of_lt_of_le (Nat.sub_succ_lt_self _ _ hin) hg
   case rel =>
    refine⟨i+1,Hp.row 110 3 (.slice qa2 q2.length qc2) q2.length (pcs q2)::X,q2,qa2,qc2,us++[.slice qa q.length qc],some ⟨g5,0,none⟩,cap5,hin,Nat.le_refl _,by simp,rfl,Lib.hid (by rw [List.length_append,HU.out];rfl),Lib.hid ⟨fun P hP=>List.mem_cons_of_mem _ (HQI.out.sub P hP),PatSrc.row rfl (List.mem_cons_self ..),?_,?_⟩,Lib.hid (by rw [List.append_assoc];exact H5.out.step (by (repeat first|exact Fr.refl _ _|assumption|apply Fr.n|apply Fr.d|apply Fr.a|refine Fr.s ?_ (.inr (by simp;try omega)) _)))⟩
    ·have:=HF2.out.1
     rw [show B+2*((i+1:Nat):Int)=B+2*(i:Int)+2 from by omega]
     exact this
    ·rw [HF2.out.2,HQI.out.fld];rfl
  ·obtain rfl:n=i:=by omega
   clear hr
   go_wp2
   go_ret2
   have h9:=HH.out.swap.drop
   exact⟨X,q,qa,qc,us,some ⟨g,0,none⟩,vc,rfl,HU.out,HQI.out,h9.step (by (repeat first|exact Fr.refl _ _|assumption|apply Fr.n|apply Fr.d|apply Fr.a|refine Fr.s ?_ (.inr (by simp;try omega)) _))⟩
def RunPost (W:World) (Ps:List Res) (r:Rule) (B:Int) (p:List PC) (n:Nat) (e:Ending) (w':World):Prop :=
 ∃ (X:List Res) (q:List PC) (qa:Option Addr) (qc:Nat),e=.returned (.tuple #[.slice qa q.length qc,.int .i64 0])∧HistI W Ps X r B p n q qa qc∧Has W w' X
set_option maxHeartbeats 8000000 in
set_option maxRecDepth 100000 in
theorem RRun_calls {W w:World} {Ps:List Res} (h:Has W w Ps) {r:Rule} {ha na:Option Addr} {hc nc:Nat} (hQ:quietB r=true) (hsrc:RuleSrc W (.slice ha r.hood.length hc) (.slice na r.nodes.length nc) r Ps)
  {p:List PC} {a:Option Addr} {c:Nat} (hp:PatSrc W Ps a c p) {B:Int} {n:Nat} (hB:0≤B∧B+2*(n:Int)≤32) (hf:FitP r B p) :
  Calls Try.prog 33 #[.agg #[.int .i64 r.S,.slice ha r.hood.length hc,.slice na r.nodes.length nc],.slice a p.length c,.int .i64 (n:Int)] w (RunPost W Ps r B p n):=by
 have H0:=Lib.hid (h.newBlk (.cells #[.int .i64 r.S,.slice ha r.hood.length hc,.slice na r.nodes.length nc] 31 (0,0)))
 have HHI:=Lib.hid (fun w' (hff:Fr [] w w')=>RHistory_calls (h.step hff) hQ hsrc hp hB hf)
 obtain⟨m,hm⟩:∃ m,r.hood.length=m:=⟨_,rfl⟩
 obtain⟨k,hk⟩:∃ m,r.nodes.length=m:=⟨_,rfl⟩
 obtain⟨l,hl⟩:∃ m,p.length=m:=⟨_,rfl⟩
 rw [hm,hk,hl] at HHI
 rw [hm,hk,hl]
 clear h hQ hsrc hp hf hm hk hl H0
 go_enter Try.func33,Try.ntmps33
 go_wp2_with fail
 refine (HHI.out _ (by (repeat first|exact Fr.refl _ _|assumption|apply Fr.n|apply Fr.d|apply Fr.a|refine Fr.s ?_ (.inr (by simp;try omega)) _))).mono ?_
 rintro e w1 ⟨X,q,qa,qc,us,va,vc,rfl,hu,hi,h1⟩
 have hr:=h1.row
 obtain⟨g,rfl⟩:=owns_some27 hr (by omega)
 have p0:=owns_cell hr rfl (show (us++[Value.slice qa q.length qc])[n]?=some (.slice qa q.length qc) from by rw [List.getElem?_append_right (by rw [hu];exact Nat.le_refl _),hu,Nat.sub_self];rfl)
 have pl:=oLT hr rfl
 have H1:=Lib.hid h1.drop
 have HI:=Lib.hid hi
 clear h1 hr hu hi HHI
 go_wp2
 go_ret2
 exact⟨X,q,qa,qc,rfl,HI.out,H1.out.step (by (repeat first|exact Fr.refl _ _|assumption|apply Fr.n|apply Fr.d|apply Fr.a|refine Fr.s ?_ (.inr (by simp;try omega)) _))⟩
end Go.Proofs.Ytppmnmheodimoaa
end
section
namespace Go.Proofs.Ytppmnmheodimoaa
open Go Go.RowKit Rg Mp Hp Qs Ev Bn Pt
theorem in_spot {p:List PC} {x y:Int} {L:Nat} (h:p.all (inC x y L)=true):∀ c∈p,(x≤c.x∧c.x - x<((2 ^ L:Nat):Int))∧y≤c.y∧c.y - y<((2 ^ L:Nat):Int):=by
 intro c hc
 have:=List.all_eq_true.1 h c hc
 simpa only [inC,inB,Bool.and_eq_true,decide_eq_true_eq] using this
theorem okS_spot {p:List PC} (hr:rightP p=true) {x y:Int} {L:Nat} (h:p.all (inC x y L)=true) {s:Int} (hs:∀ c∈p,c.st<s):OkS s L (p.map (spot x y)) where
 inside c hc:=by
  obtain⟨d,hd,rfl⟩:=List.mem_map.1 hc
  obtain⟨⟨h1,h2⟩,h3,h4⟩:=in_spot h d hd
  refine⟨?_,?_⟩<;>(show Int.toNat _<2 ^ L;omega)
 state c hc:=by
  obtain⟨d,hd,rfl⟩:=List.mem_map.1 hc
  exact⟨((right_cell hr).2 d hd).2.2.1,hs d hd⟩
 apart:=by
  have hp:p.Pairwise fun a b=>pBef a b=true:=by
   unfold rightP at hr
   simp only [Bool.and_eq_true] at hr
   exact strict_pair hr.2.2
  rw [List.pairwise_map]
  refine List.Pairwise.imp_of_mem ?_ hp
  intro a b ha hb hab he
  obtain⟨⟨h1,h2⟩,h3,h4⟩:=in_spot h a ha
  obtain⟨⟨g1,g2⟩,g3,g4⟩:=in_spot h b hb
  simp only [spot] at he
  simp only [pBef,decide_eq_true_eq] at hab
  omega
end Go.Proofs.Ytppmnmheodimoaa
end
