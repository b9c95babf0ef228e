/- Own texts of this claim, part 18: no condition. -/
import Derived.Test.YtdanghnadbkhfaaGreatZR16
import Derived.Test.YtdanghnadbkhfaaGreatZR15
import Derived.Test.YtdanghnadbkhfaaGreatZR4
import Derived.Test.YtdanghnadbkhfaaGreatZR5
set_option linter.unusedVariables false
set_option linter.unusedSimpArgs false
section
namespace Go.Proofs.Pt
theorem bad_here {l:List PC} {k:Nat} {c:PC} (h0:badP (l.take k)=0) (hc:l[k]?=some c) (hb:badP [c]≠0):badP l=badP [c]:=by
 have e:l=(l.take k++[c])++l.drop (k+1):=by
  rw [← List.take_append_drop k l,List.take_append_drop]
  have hk:=(List.getElem?_eq_some_iff.1 hc)
  obtain⟨hk,rfl⟩:=hk
  rw [List.append_assoc,List.singleton_append,← List.drop_eq_getElem_cons hk,List.take_append_drop]
 have h1:badP (l.take k++[c])=badP [c]:=by rw [badP_snoc,h0];simp
 rw [e,badP_app (by rw [h1];exact hb),h1]
theorem bad_next {l:List PC} {k:Nat} {c:PC} (h0:badP (l.take k)=0) (hc:l[k]?=some c) (hb:badP [c]=0):badP (l.take (k+1))=0:=by
 rw [List.take_add_one,hc]
 show badP (l.take k++[c])=0
 rw [badP_snoc,h0];simpa using hb
theorem some_next {l:List PC} {k:Nat} {c:PC} (hc:l[k]?=some c):someP (l.take (k+1))=someP (l.take k)++if c.st≠0 then [c] else []:=by
 rw [List.take_add_one,hc]
 show someP (l.take k++[c])=_
 unfold someP
 rw [List.filter_append]
 by_cases h:c.st=0<;>simp [h]
theorem fromP_bad {l:List PC} (h:badP l≠0):fromP l=([],badP l):=by unfold fromP;rw [if_pos h]
theorem weak_adj {q:List PC} (hw:Weak q) {i:Nat} (hi:i+1<q.length):samePos (q.getD i z3) (q.getD (i+1) z3)=!pBef (q.getD i z3) (q.getD (i+1) z3):=by
 apply samePos_iff
 have:=List.pairwise_iff_getElem.1 hw i (i+1) (by omega) hi (by omega)
 rw [List.getD_eq_getElem?_getD,List.getD_eq_getElem?_getD,List.getElem?_eq_getElem hi,List.getElem?_eq_getElem (by omega)]
 exact this
theorem weak_twice {q:List PC} (hw:Weak q) {i:Nat} (hi:i+1<q.length) (h:samePos (q.getD i z3) (q.getD (i+1) z3)=true):strictB q=false:=by
 rw [weak_adj hw hi] at h
 cases hs:strictB q with
 | false=>rfl
 | true=>rw [strict_at hs hi] at h;cases h
theorem weak_once {q:List PC} (hw:Weak q) (h:∀ i,i+1<q.length→samePos (q.getD i z3) (q.getD (i+1) z3)=false):strictB q=true :=
 strict_mk fun i hi=>by have:=h i hi;rw [weak_adj hw hi] at this;simpa using this
end Go.Proofs.Pt
namespace Go.Proofs.YtdanghnadbkhfaaGreat
open Go Go.RowKit Rg Hp Pt
theorem info_cell:(Tryz.prog.info? 75).map (fun i=>(i.zero,i.size,i.bytes))=some (some (.agg #[.int .i64 0,.int .i64 0,.int .i64 0]),3,24):=by kernel_rfl
theorem append_pc {ops:Array Oper} {rest:List Oper} {o:Oper} {a:Act} {W:World} {Q:Exit→Act→World→Prop} (hgd:o.guard=none) {s x:Operand} {t1:TypeId} (ho:o.op=.call { callee:=.builtin .append,args:=#[s,x],argTypes:=#[t1,t1] }) (ht:Tryz.prog.underlying t1=some (.slice 75))
  {base:Nat} {v:Value} {n:Nat} {xs:List Value} (hs:a.eval s=v) (hown:W.ownsRow base 75 3 v n xs) {nb c:Nat} {y:PC} (hx:a.eval x=.slice (some ⟨nb,0,none⟩) 1 c)
  (hnb:W.heap[nb]?=some (.cells #[.int .i64 y.x,.int .i64 y.y,.int .i64 y.st] 75 (0,0))) (hn:n≤4000000000000) (hbase:base≤W.heap.size)
  (h:∀ g cap w',w'.ownsRow base 75 3 (.slice (some ⟨g,0,none⟩) (n+1) cap) (n+1) (xs++[.int .i64 y.x,.int .i64 y.y,.int .i64 y.st])→(∀ b,b<W.heap.size→v.ownBlock≠some b→w'.heap[b]?=W.heap[b]?)→Fr v.ownBlock.toList W w'→(v.ownBlock=some g∨g=W.heap.size)→g<w'.heap.size →
   wpList Tryz.prog ops Q rest (a.put o.dst (.slice (some ⟨g,0,none⟩) (n+1) cap)) w'):wpList Tryz.prog ops Q (o::rest) a W :=
 append_new hgd ho ht info_cell rfl (by decide) hs hown hx (news:=[.int .i64 y.x,.int .i64 y.y,.int .i64 y.st]) hnb rfl (by intro u hu;simp at hu;rcases hu with rfl|rfl|rfl<;>rfl) (by unfold maxLen;omega) (by omega) hbase h
theorem pcs_snoc (l:List PC) (c:PC):pcs l++[.int .i64 c.x,.int .i64 c.y,.int .i64 c.st]=pcs (l++[c]):=by simp [pcs]
theorem append_pp {ops:Array Oper} {rest:List Oper} {o:Oper} {a:Act} {W:World} {Q:Exit→Act→World→Prop} (hgd:o.guard=none) {s x:Operand} (ho:o.op=.call { callee:=.builtin .append,args:=#[s,x],argTypes:=#[51,51] })
  {base:Nat} {v:Value} {n:Nat} {xs:List Value} (hs:a.eval s=v) (hown:W.ownsRow base 75 3 v n xs) {nb c:Nat} {y:PC} (hx:a.eval x=.slice (some ⟨nb,0,none⟩) 1 c)
  (hnb:W.heap[nb]?=some (.cells #[.int .i64 y.x,.int .i64 y.y,.int .i64 y.st] 75 (0,0))) (hn:n≤4000000000000) (hbase:base≤W.heap.size)
  (h:∀ g cap w',w'.ownsRow base 75 3 (.slice (some ⟨g,0,none⟩) (n+1) cap) (n+1) (xs++[.int .i64 y.x,.int .i64 y.y,.int .i64 y.st])→(∀ b,b<W.heap.size→v.ownBlock≠some b→w'.heap[b]?=W.heap[b]?)→Fr v.ownBlock.toList W w'→(v.ownBlock=some g∨g=W.heap.size)→g<w'.heap.size →
   wpList Tryz.prog ops Q rest (a.put o.dst (.slice (some ⟨g,0,none⟩) (n+1) cap)) w'):wpList Tryz.prog ops Q (o::rest) a W :=
 append_pc hgd ho Tryz.underlying51 hs hown hx hnb hn hbase h
def FromPost (w:World) (l:List PC) (e:Ending) (w':World):Prop :=
 ∃ v,e=.returned (.tuple #[v,.int .i64 (fromP l).2])∧w'.ownsRow w.heap.size 75 3 v (fromP l).1.length (pcs (fromP l).1)∧Fr [] w w'
theorem owns_none (w:World) (base e size:Nat):w.ownsRow base e size (.slice none 0 0) 0 []:=⟨by simp,.inl ⟨rfl,rfl⟩⟩
set_option maxHeartbeats 8000000 in
theorem PFrom_calls {w:World} {l:List PC} {a:Option Addr} {c:Nat} (hl:CellsAt w (.slice a l.length c) l) (hlen:l.length≤60000) :
  Calls Tryz.prog 56 #[.slice a l.length c] w (FromPost w l):=by
 have Hl:=Lib.hid hl
 have HLEN:=Lib.hid hlen
 clear hl
 go_enter Tryz.func56,Tryz.ntmps56
 go_wp2
 go_loopw [4,10] (fun x4 x wr=>∃ k:Nat,x=.int .i64 k∧k≤l.length∧badP (l.take k)=0∧Fr [] w wr∧wr.ownsRow w.heap.size 75 3 x4 (someP (l.take k)).length (pcs (someP (l.take k)))) (fun _ x _=>l.length - (intOf x).toNat)
 case atStart=>exact⟨0,rfl,by omega,rfl,Fr.refl _ _,owns_none _ _ _ _⟩
 case round =>
  obtain⟨k,rfl,hk,hb,hf,ho⟩:=hrel
  have Hb:=Lib.hid hb
  have Hf:=Lib.hid hf
  have Ho:=Lib.hid ho
  clear hb hf ho
  by_cases hlt:k<l.length
  ·obtain⟨⟨x,y,st⟩,hp⟩:∃ p,l[k]?=some p:=⟨_,List.getElem?_eq_getElem hlt⟩
   obtain⟨g,off,rfl,hg,e0,e1,e2⟩:=(Hl.out.fr Hf.out).cell hp
   simp only at e0 e1 e2
   have HAT:=Lib.hid (at_p ⟨x,y,st⟩)
   have HPL:=Lib.hid (placed_p ⟨x,y,st⟩)
   unfold pcV at HAT
   simp only at HAT HPL
   have HX:=Lib.hid (And.intro (bad_here Hb.out hp) (And.intro (bad_next Hb.out hp) (some_next hp)))
   have hsl:(someP (l.take k)).length≤k:=Nat.le_trans (List.length_filter_le _ _) (by simp;omega)
   have HSL:=Lib.hid hsl
   clear hp hsl
   simp only [badP] at HX
   generalize placeB x y=pl at HX HPL
   cases pl with
   | false =>
    have HR:=Lib.hid (fromP_bad (l:=l) (by rw [HX.out.1 (by simp)];simp))
    have HR2:=Lib.hid (HX.out.1 (by simp))
    go_wp2_with fail
    refine (HAT.out _).mono ?_
    rintro e w1 ⟨rfl,hg1⟩
    have hf:=hg1.fr
    have hm_:=(hf.block (wr.heap.size) (by first|(simp;done)|(simp;omega)) (by simp)).trans (show _=some (.cells #[.int .i64 x,.int .i64 y,.int .i64 st] 75 (0,0)) by (repeat first|rw [if_pos (by omega)]|rw [if_neg (by omega)]|rw [hDR]|rw [hDN]|rw [hAz]|rw [hSz]|rw [hAC]|rw [hSC]|rw [oMS]|rw [uPC]|rw [lSZ]|rw [lSS]|rfl))
    have m0:=hEC hm_ 0
    have m1:=hEC hm_ 1
    have m2:=hEC hm_ 2
    have ml:=lBk hm_
    have Hm:=Lib.hid hm_
    clear hm_
    have Hf1:=Lib.hid (Fr.trans0 (by have:=Hf.out;(repeat first|exact Fr.refl _ _|assumption|apply Fr.n|apply Fr.d|apply Fr.a|refine Fr.s ?_ (.inr (by simp;try omega)) _)) hf:Fr [] w w1)
    have Ho1:=Lib.hid (oOB (w':=w1) Ho.out fun g hg=>(hf.block g (by have:=oLT Ho.out hg;simp;omega) (by simp)).trans (by have:=oLT Ho.out hg;(repeat first|rw [if_pos (by omega)]|rw [if_neg (by omega)]|rw [hDR]|rw [hDN]|rw [hAz]|rw [hSz]|rw [hAC]|rw [hSC]|rw [oMS]|rw [uPC]|rw [lSZ]|rw [lSS]|rfl)))
    clear hf hg1
    go_wp2_with fail
    refine (HPL.out _).mono ?_
    rintro e w2 ⟨rfl,hg2⟩
    have hf:=hg2.fr
    (try clear m0)
    (try clear m1)
    (try clear m2)
    (try clear ml)
    have hm_:=(hf.block _ (lBk Hm.out) (by simp)).trans Hm.out
    clear Hm
    have m0:=hEC hm_ 0
    have m1:=hEC hm_ 1
    have m2:=hEC hm_ 2
    have ml:=lBk hm_
    have Hm:=Lib.hid hm_
    clear hm_
    have Hf2:=Lib.hid (Hf1.out.trans0 hf)
    have Ho2:=Lib.hid (oOB (w':=w2) Ho1.out fun g hg=>hf.block g (oLT Ho1.out hg) (by simp))
    clear hf hg2 Hf1 e0 e1 e2 Ho1
    go_wp2
    go_ret2
    unfold FromPost
    rw [HR.out,HR2.out]
    exact⟨_,rfl,owns_none _ _ _ _,Hf2.out⟩
   | true =>
    by_cases h0:st<0
    ·have hd:decide (st<0)=true:=by simpa using h0
     have HR:=Lib.hid (fromP_bad (l:=l) (by rw [HX.out.1 (by simp [h0])];simp [h0]))
     have HR2:=Lib.hid (HX.out.1 (by simp [h0]))
     go_wp2_with fail
     refine (HAT.out _).mono ?_
     rintro e w1 ⟨rfl,hg1⟩
     have hf:=hg1.fr
     have hm_:=(hf.block (wr.heap.size) (by first|(simp;done)|(simp;omega)) (by simp)).trans (show _=some (.cells #[.int .i64 x,.int .i64 y,.int .i64 st] 75 (0,0)) by (repeat first|rw [if_pos (by omega)]|rw [if_neg (by omega)]|rw [hDR]|rw [hDN]|rw [hAz]|rw [hSz]|rw [hAC]|rw [hSC]|rw [oMS]|rw [uPC]|rw [lSZ]|rw [lSS]|rfl))
     have m0:=hEC hm_ 0
     have m1:=hEC hm_ 1
     have m2:=hEC hm_ 2
     have ml:=lBk hm_
     have Hm:=Lib.hid hm_
     clear hm_
     have Hf1:=Lib.hid (Fr.trans0 (by have:=Hf.out;(repeat first|exact Fr.refl _ _|assumption|apply Fr.n|apply Fr.d|apply Fr.a|refine Fr.s ?_ (.inr (by simp;try omega)) _)) hf:Fr [] w w1)
     have Ho1:=Lib.hid (oOB (w':=w1) Ho.out fun g hg=>(hf.block g (by have:=oLT Ho.out hg;simp;omega) (by simp)).trans (by have:=oLT Ho.out hg;(repeat first|rw [if_pos (by omega)]|rw [if_neg (by omega)]|rw [hDR]|rw [hDN]|rw [hAz]|rw [hSz]|rw [hAC]|rw [hSC]|rw [oMS]|rw [uPC]|rw [lSZ]|rw [lSS]|rfl)))
     clear hf hg1
     go_wp2_with fail
     refine (HPL.out _).mono ?_
     rintro e w2 ⟨rfl,hg2⟩
     have hf:=hg2.fr
     (try clear m0)
     (try clear m1)
     (try clear m2)
     (try clear ml)
     have hm_:=(hf.block _ (lBk Hm.out) (by simp)).trans Hm.out
     clear Hm
     have m0:=hEC hm_ 0
     have m1:=hEC hm_ 1
     have m2:=hEC hm_ 2
     have ml:=lBk hm_
     have Hm:=Lib.hid hm_
     clear hm_
     have Hf2:=Lib.hid (Hf1.out.trans0 hf)
     have Ho2:=Lib.hid (oOB (w':=w2) Ho1.out fun g hg=>hf.block g (oLT Ho1.out hg) (by simp))
     clear hf hg2 Hf1 e0 e1 e2 Ho1
     go_wp2
     go_ret2
     unfold FromPost
     rw [HR.out,HR2.out]
     simp only [h0,true_or,if_true,Bool.true_eq_false,if_false]
     exact⟨_,rfl,owns_none _ _ _ _,Hf2.out⟩
    ·have hd:decide (st<0)=false:=by simpa using h0
     by_cases h8:st ≥ 8
     ·have hd8:decide (st ≥ 8)=true:=by simpa using h8
      have h8':8≤st:=h8
      have HR:=Lib.hid (fromP_bad (l:=l) (by rw [HX.out.1 (by simp [h8'])];simp [h8']))
      have HR2:=Lib.hid (HX.out.1 (by simp [h8']))
      go_wp2_with fail
      refine (HAT.out _).mono ?_
      rintro e w1 ⟨rfl,hg1⟩
      have hf:=hg1.fr
      have hm_:=(hf.block (wr.heap.size) (by first|(simp;done)|(simp;omega)) (by simp)).trans (show _=some (.cells #[.int .i64 x,.int .i64 y,.int .i64 st] 75 (0,0)) by (repeat first|rw [if_pos (by omega)]|rw [if_neg (by omega)]|rw [hDR]|rw [hDN]|rw [hAz]|rw [hSz]|rw [hAC]|rw [hSC]|rw [oMS]|rw [uPC]|rw [lSZ]|rw [lSS]|rfl))
      have m0:=hEC hm_ 0
      have m1:=hEC hm_ 1
      have m2:=hEC hm_ 2
      have ml:=lBk hm_
      have Hm:=Lib.hid hm_
      clear hm_
      have Hf1:=Lib.hid (Fr.trans0 (by have:=Hf.out;(repeat first|exact Fr.refl _ _|assumption|apply Fr.n|apply Fr.d|apply Fr.a|refine Fr.s ?_ (.inr (by simp;try omega)) _)) hf:Fr [] w w1)
      have Ho1:=Lib.hid (oOB (w':=w1) Ho.out fun g hg=>(hf.block g (by have:=oLT Ho.out hg;simp;omega) (by simp)).trans (by have:=oLT Ho.out hg;(repeat first|rw [if_pos (by omega)]|rw [if_neg (by omega)]|rw [hDR]|rw [hDN]|rw [hAz]|rw [hSz]|rw [hAC]|rw [hSC]|rw [oMS]|rw [uPC]|rw [lSZ]|rw [lSS]|rfl)))
      clear hf hg1
      go_wp2_with fail
      refine (HPL.out _).mono ?_
      rintro e w2 ⟨rfl,hg2⟩
      have hf:=hg2.fr
      (try clear m0)
      (try clear m1)
      (try clear m2)
      (try clear ml)
      have hm_:=(hf.block _ (lBk Hm.out) (by simp)).trans Hm.out
      clear Hm
      have m0:=hEC hm_ 0
      have m1:=hEC hm_ 1
      have m2:=hEC hm_ 2
      have ml:=lBk hm_
      have Hm:=Lib.hid hm_
      clear hm_
      have Hf2:=Lib.hid (Hf1.out.trans0 hf)
      have Ho2:=Lib.hid (oOB (w':=w2) Ho1.out fun g hg=>hf.block g (oLT Ho1.out hg) (by simp))
      clear hf hg2 Hf1 e0 e1 e2 Ho1
      go_wp2
      go_ret2
      unfold FromPost
      rw [HR.out,HR2.out]
      simp only [h8',or_true,if_true,Bool.true_eq_false,if_false]
      exact⟨_,rfl,owns_none _ _ _ _,Hf2.out⟩
     ·have hd8:decide (st ≥ 8)=false:=by simpa using h8
      have hbz:¬ (st<0∨8≤st):=by omega
      simp only [hbz,if_false,Bool.true_eq_false] at HX
      by_cases hs:st > 0
      ·have hds:decide (st > 0)=true:=by simpa using hs
       have hst:st≠0:=by omega
       simp only [hst,ne_eq,not_false_eq_true,if_true] at HX
       go_wp2_with fail
       refine (HAT.out _).mono ?_
       rintro e w1 ⟨rfl,hg1⟩
       have hf:=hg1.fr
       have hm_:=(hf.block (wr.heap.size) (by first|(simp;done)|(simp;omega)) (by simp)).trans (show _=some (.cells #[.int .i64 x,.int .i64 y,.int .i64 st] 75 (0,0)) by (repeat first|rw [if_pos (by omega)]|rw [if_neg (by omega)]|rw [hDR]|rw [hDN]|rw [hAz]|rw [hSz]|rw [hAC]|rw [hSC]|rw [oMS]|rw [uPC]|rw [lSZ]|rw [lSS]|rfl))
       have m0:=hEC hm_ 0
       have m1:=hEC hm_ 1
       have m2:=hEC hm_ 2
       have ml:=lBk hm_
       have Hm:=Lib.hid hm_
       clear hm_
       have Hf1:=Lib.hid (Fr.trans0 (by have:=Hf.out;(repeat first|exact Fr.refl _ _|assumption|apply Fr.n|apply Fr.d|apply Fr.a|refine Fr.s ?_ (.inr (by simp;try omega)) _)) hf:Fr [] w w1)
       have Ho1:=Lib.hid (oOB (w':=w1) Ho.out fun g hg=>(hf.block g (by have:=oLT Ho.out hg;simp;omega) (by simp)).trans (by have:=oLT Ho.out hg;(repeat first|rw [if_pos (by omega)]|rw [if_neg (by omega)]|rw [hDR]|rw [hDN]|rw [hAz]|rw [hSz]|rw [hAC]|rw [hSC]|rw [oMS]|rw [uPC]|rw [lSZ]|rw [lSS]|rfl)))
       clear hf hg1
       go_wp2_with fail
       refine (HPL.out _).mono ?_
       rintro e w2 ⟨rfl,hg2⟩
       have hf:=hg2.fr
       (try clear m0)
       (try clear m1)
       (try clear m2)
       (try clear ml)
       have hm_:=(hf.block _ (lBk Hm.out) (by simp)).trans Hm.out
       clear Hm
       have m0:=hEC hm_ 0
       have m1:=hEC hm_ 1
       have m2:=hEC hm_ 2
       have ml:=lBk hm_
       have Hm:=Lib.hid hm_
       clear hm_
       have Hf2:=Lib.hid (Hf1.out.trans0 hf)
       have Ho2:=Lib.hid (oOB (w':=w2) Ho1.out fun g hg=>hf.block g (oLT Ho1.out hg) (by simp))
       clear hf hg2 Hf1 e0 e1 e2 Ho1
       go_wp2_with (at_builtin;refine append_pp (n:=(someP (l.take k)).length) (base:=w.heap.size) (xs:=(pcs (someP (l.take k)))) (y:=(⟨x,y,st⟩:PC)) rfl rfl rfl ?e1 rfl ?e2 ?e3 ?e4 ?_)
       case e1=>exact oOB Ho2.out fun y hy=>hAE _ _ _ (oLT Ho2.out hy)
       case e2=>first|(first|(rw [hAC,if_pos rfl];done)|exact (Array.getElem?_eq_some_iff.1 ((hAC _ _ _).trans (if_pos rfl))).2|(simp only [hDR,hDN];rw [hAC,if_pos rfl];done))|(repeat first|rw [if_pos (by omega)]|rw [if_neg (by omega)]|rw [hDR]|rw [hDN]|rw [hAz]|rw [hSz]|rw [hAC]|rw [hSC]|rw [oMS]|rw [uPC]|rw [lSZ]|rw [lSS]|rfl)
       case e3=>(have:=HSL.out;have:=HLEN.out;omega)
       case e4=>have:=Hf2.out.size;(first|omega|(simp only [hDR,hDN,hAz];omega)|(simp;omega))
       intro g2 cap w9 hown1 hW1 hF1 hloc1 hg1
       rw [(pcs_snoc _ ⟨x,y,st⟩)] at hown1
       have Hown1:=Lib.hid hown1
       have Hf9:=Lib.hid (fr_append Hf2.out Ho2.out hF1)
       clear hown1 hW1 hF1 hloc1
       go_wp2
       go_roundw
       case rel =>
        refine⟨k+1,by go_num,by omega,HX.out.2.1 (by simp),Hf9.out,?_⟩
        rw [HX.out.2.2,List.length_append]
        exact Hown1.out
       case measure=>simp [intOf];omega
      ·have hst0:st=0:=by omega
       have hds:decide (st > 0)=false:=by simpa using hs
       simp only [hst0,ne_eq,not_true_eq_false,if_false,List.append_nil] at HX
       clear hst0
       go_wp2_with fail
       refine (HAT.out _).mono ?_
       rintro e w1 ⟨rfl,hg1⟩
       have hf:=hg1.fr
       have hm_:=(hf.block (wr.heap.size) (by first|(simp;done)|(simp;omega)) (by simp)).trans (show _=some (.cells #[.int .i64 x,.int .i64 y,.int .i64 st] 75 (0,0)) by (repeat first|rw [if_pos (by omega)]|rw [if_neg (by omega)]|rw [hDR]|rw [hDN]|rw [hAz]|rw [hSz]|rw [hAC]|rw [hSC]|rw [oMS]|rw [uPC]|rw [lSZ]|rw [lSS]|rfl))
       have m0:=hEC hm_ 0
       have m1:=hEC hm_ 1
       have m2:=hEC hm_ 2
       have ml:=lBk hm_
       have Hm:=Lib.hid hm_
       clear hm_
       have Hf1:=Lib.hid (Fr.trans0 (by have:=Hf.out;(repeat first|exact Fr.refl _ _|assumption|apply Fr.n|apply Fr.d|apply Fr.a|refine Fr.s ?_ (.inr (by simp;try omega)) _)) hf:Fr [] w w1)
       have Ho1:=Lib.hid (oOB (w':=w1) Ho.out fun g hg=>(hf.block g (by have:=oLT Ho.out hg;simp;omega) (by simp)).trans (by have:=oLT Ho.out hg;(repeat first|rw [if_pos (by omega)]|rw [if_neg (by omega)]|rw [hDR]|rw [hDN]|rw [hAz]|rw [hSz]|rw [hAC]|rw [hSC]|rw [oMS]|rw [uPC]|rw [lSZ]|rw [lSS]|rfl)))
       clear hf hg1
       go_wp2_with fail
       refine (HPL.out _).mono ?_
       rintro e w2 ⟨rfl,hg2⟩
       have hf:=hg2.fr
       (try clear m0)
       (try clear m1)
       (try clear m2)
       (try clear ml)
       have hm_:=(hf.block _ (lBk Hm.out) (by simp)).trans Hm.out
       clear Hm
       have m0:=hEC hm_ 0
       have m1:=hEC hm_ 1
       have m2:=hEC hm_ 2
       have ml:=lBk hm_
       have Hm:=Lib.hid hm_
       clear hm_
       have Hf2:=Lib.hid (Hf1.out.trans0 hf)
       have Ho2:=Lib.hid (oOB (w':=w2) Ho1.out fun g hg=>hf.block g (oLT Ho1.out hg) (by simp))
       clear hf hg2 Hf1 e0 e1 e2 Ho1
       go_wp2
       go_roundw
       case rel =>
        refine⟨k+1,by go_num,by omega,HX.out.2.1 (by simp),Hf2.out,?_⟩
        rw [HX.out.2.2]
        exact Ho2.out
       case measure=>simp [intOf];omega
  ·obtain rfl:k=l.length:=by omega
   rw [List.take_length] at Ho Hb
   have hbl:badP l=0:=Hb.out
   have hml:(someP l).length≤l.length:=List.length_filter_le _ _
   go_wp2_with fail
   refine (sort_calls Ho.out (by have:=HLEN.out;omega)).mono ?_
   rintro e w5 ⟨rfl,q,hperm,hweak,hown,hf⟩
   have hfr:Fr [] w w5:=Hf.out.trans hf fun x hx=>.inr (owns_ge Ho.out (by simpa using hx))
   obtain⟨_,a5,c5,rfl,_⟩:=Reads.of_owns hown
   have hfrom:=fromP_of hbl hweak hperm
   have hql:q.length≤60000:=by have:=hperm.length_eq;have:=HLEN.out;omega
   have HFP:=Lib.hid hfrom
   have HW:=Lib.hid hweak
   have HO5:=Lib.hid hown
   have Hf5:=Lib.hid hfr
   clear hbl hml hperm hweak hown hf hfr hfrom Ho Hb Hf hk hlt
   go_wp2
   go_loopw [7] (fun x wr=>∃ i:Nat,x=.int .i64 ((i:Int)+1)∧i≤q.length∧(i=0∨i+1≤q.length)∧(∀ j,j<i→samePos (q.getD j z3) (q.getD (j+1) z3)=false)∧Fr [] w5 wr) (fun x _=>q.length+1 - (intOf x).toNat)
   case atStart=>exact⟨0,by simp,by omega,.inl rfl,by omega,Fr.refl _ _⟩
   case round =>
    obtain⟨i,rfl,hi,hi2,hn,hf⟩:=hrel
    have Hf:=Lib.hid hf
    have Hn:=Lib.hid hn
    clear hf hn
    by_cases hlt:i+1<q.length
    ·have hd:decide ((i:Int)+1<(q.length:Int))=true:=by simp;omega
     obtain⟨⟨x,y,st⟩,hp⟩:∃ p,q[i]?=some p:=⟨_,List.getElem?_eq_getElem (by omega)⟩
     obtain⟨⟨u,v,su⟩,hq⟩:∃ p,q[i+1]?=some p:=⟨_,List.getElem?_eq_getElem hlt⟩
     have hra:∀ w1,Fr [] w5 w1→CellsAt w1 (.slice a5 q.length c5) q:=fun w1 h=>CellsAt.fr (Reads.of_owns HO5.out) h
     have HRA:=Lib.hid hra
     obtain⟨g,off,rfl,hg,e0,e1,e2⟩:=(hra _ Hf.out).cell hp
     obtain⟨g',off',he,_,e3,e4,e5⟩:=(hra _ Hf.out).cell hq
     cases he
     simp only at e0 e1 e2 e3 e4 e5
     have hAX:=at_p ⟨x,y,st⟩
     have hAU:=at_p ⟨u,v,su⟩
     unfold pcV at hAX hAU
     have HAX:=Lib.hid hAX
     have HAU:=Lib.hid hAU
     have hsp:samePos (q.getD i z3) (q.getD (i+1) z3)=(x == u && y == v):=by
      rw [List.getD_eq_getElem?_getD,hp,List.getD_eq_getElem?_getD,hq]
      unfold samePos
      rw [Bool.eq_iff_iff];simp
     have HSP:=Lib.hid hsp
     have Hq:=Lib.hid hq
     clear hp hq hsp hra hAX hAU
     go_wp2
     refine wRS [([0,1,2,3,4,6,7,8,9,5],[9]),([10,11],[])] (by kernel_rfl) (by kernel_rfl) ?_
     (simp only [wpSegs,pick,Array.getD_eq_getD_getElem?,List.getElem?_toArray,List.getElem?_cons_succ,List.getElem?_cons_zero,Option.getD_some])
     go_wp2_with fail
     refine (HAX.out _).mono ?_
     rintro e w6 ⟨rfl,hg6⟩
     have hf6:=Hf.out.trans0 (Fr.trans0 (by (repeat first|exact Fr.refl _ _|assumption|apply Fr.n|apply Fr.d|apply Fr.a|refine Fr.s ?_ (.inr (by simp;try omega)) _)) hg6.fr)
     have Hf6:=Lib.hid hf6
     clear hf6 hg6 e0 e1 e2 e3 e4 e5
     obtain⟨g',off',he,_,e3,e4,e5⟩:=(HRA.out _ Hf6.out).cell Hq.out
     cases he
     simp only at e3 e4 e5
     go_wp2
     refine Mid.intro ⟨⟨aGR (T:=75) (cs:=[.int .i64 u,.int .i64 v,.int .i64 su]) rfl rfl rfl Tryz.underlying75 rfl (by kernel_rfl) (fun j v hj=>?rng) rfl,trivial⟩,?_⟩
     case rng =>
      rcases j with _|_|_|j
      ·simp only [List.getElem?_cons_zero,Option.some.injEq] at hj
       subst hj
       exact e3
      ·simp only [List.getElem?_cons_zero,List.getElem?_cons_succ,Option.some.injEq] at hj
       subst hj
       exact e4
      ·simp only [List.getElem?_cons_zero,List.getElem?_cons_succ,Option.some.injEq] at hj
       subst hj
       exact e5
      ·simp at hj
     go_wp2_with fail
     refine (HAU.out _).mono ?_
     rintro e w7 ⟨rfl,hg7⟩
     have Hf7:=Lib.hid (Hf6.out.trans0 hg7.fr)
     clear hg7 e3 e4 e5
     by_cases hx:x=u
     ·subst hx
      by_cases hy:y=v
      ·subst hy
       have HT:=Lib.hid (weak_twice HW.out hlt (HSP.out.trans (by simp)))
       have hfrom:=HFP.out
       rw [HT.out] at hfrom
       simp only [if_true] at hfrom
       have HFQ:=Lib.hid hfrom
       clear hfrom
       go_wp2
       refine Mid.intro ⟨trivial,Strict.intro rfl ?_⟩
       go_wp2
       go_ret2
       unfold FromPost
       rw [HFQ.out]
       exact⟨_,rfl,owns_none _ _ _ _,Hf5.out.trans0 Hf7.out⟩
      ·have hyb:(y == v)=false:=by simpa using hy
       have HSF:=Lib.hid (HSP.out.trans (show (x == x && y == v)=false by simp [hy]))
       clear hy
       go_wp2
       refine Mid.intro ⟨trivial,Strict.intro rfl ?_⟩
       go_wp2
       go_roundw
       case rel =>
        refine⟨i+1,by go_num,by omega,.inr (by omega),fun j hj=>?_,Hf7.out⟩
        rcases Nat.lt_or_ge j i with h|h
        ·exact Hn.out j h
        ·obtain rfl:j=i:=by omega
         exact HSF.out
       case measure=>simp [intOf];omega
     ·have hxb:(x == u)=false:=by simpa using hx
      have HSF:=Lib.hid (HSP.out.trans (show (x == u && y == v)=false by simp [hx]))
      clear hx
      go_wp2
      refine Mid.intro ⟨trivial,Strict.intro rfl ?_⟩
      go_wp2
      go_roundw
      case rel =>
       refine⟨i+1,by go_num,by omega,.inr (by omega),fun j hj=>?_,Hf7.out⟩
       rcases Nat.lt_or_ge j i with h|h
       ·exact Hn.out j h
       ·obtain rfl:j=i:=by omega
        exact HSF.out
      case measure=>simp [intOf];omega
    ·have hd:decide ((i:Int)+1<(q.length:Int))=false:=by simp;omega
     have hst:=weak_once HW.out (fun j hj=>Hn.out j (by omega))
     have hfrom:=HFP.out
     rw [hst] at hfrom
     simp only [Bool.true_eq_false,if_false] at hfrom
     by_cases h5:5000<q.length
     ·have hd5:decide ((q.length:Int) > 5000)=true:=by simp;omega
      rw [if_pos h5] at hfrom
      have HFQ:=Lib.hid hfrom
      clear hfrom hst
      go_wp2
      go_ret2
      unfold FromPost
      rw [HFQ.out]
      exact⟨_,rfl,owns_none _ _ _ _,Hf5.out.trans0 Hf.out⟩
     ·have hd5:decide ((q.length:Int) > 5000)=false:=by simp;omega
      rw [if_neg h5] at hfrom
      have HFQ:=Lib.hid hfrom
      clear hfrom hst
      go_wp2
      go_ret2
      unfold FromPost
      rw [HFQ.out]
      exact⟨_,rfl,oOB HO5.out fun g hg=>Hf.out.block g (oLT HO5.out hg) (by simp),Hf5.out.trans0 Hf.out⟩
end Go.Proofs.YtdanghnadbkhfaaGreat
end
section
namespace Go.Proofs.YtdanghnadbkhfaaGreat
open Go Go.RowKit Rg Mp Hp Qs Ev Bn Pt
def AtPost (w:World) (n d:Int) (e:Ending) (w':World):Prop:=∃ a ok,e=.returned (.tuple #[.int .i64 a,.bool ok])∧(ok=true→a=n+d)∧(ok=false→n+d < -1048576∨1048576<n+d)∧w'=w
theorem mask40 {x:Int} (h0:0≤x) (h1:x<18446744073709551616):bits BinOp.and IntKind.u64 x 1099511627775=x % 1099511627776:=by
 obtain⟨n,rfl⟩:=Int.eq_ofNat_of_zero_le h0
 have e:=u64_and_nat n 1099511627775 (by omega) (by omega)
 rw [show (1099511627775:Nat)=2 ^ 40 - 1 from rfl,Nat.and_two_pow_sub_one_eq_mod] at e
 rw [show (n:Int) % 1099511627776=((n % 2 ^ 40:Nat):Int) by omega]
 exact e
theorem neg64 {n:Int} (h1:-9223372036854775808≤n) (h2:n<0):IntKind.u64.wrap (-IntKind.u64.wrap n)=-n:=by
 simp only [IntKind.wrap,IntKind.bits,IntKind.signed];simp;omega
theorem w64 {x:Int} (h1:-9223372036854775808≤x) (h2:x<9223372036854775808):wrap64 x=x:=by unfold wrap64;omega
theorem u64w {x:Int} (h1:0≤x) (h2:x<18446744073709551616):IntKind.u64.wrap x=x:=by
 simp only [IntKind.wrap,IntKind.bits,IntKind.signed];simp;omega
theorem at_q (w:World) (n d:Int) (h1:-9223372036854775808≤n) (h2:n<9223372036854775808) (h3:0≤d) (h4:d<18446744073709551616) :
  Calls Tryz.prog 95 #[.int .i64 n,.int .u64 d] w (AtPost w n d):=by
 have H:=Lib.hid (And.intro (And.intro h1 h2) (And.intro h3 h4))
 clear h1 h2 h3 h4
 by_cases hn:n ≥ 0
 ·have hd:decide (n ≥ 0)=true:=by simpa using hn
  obtain⟨m,hm⟩:∃ m,bits BinOp.and IntKind.u64 d 1099511627775=m:=⟨_,rfl⟩
  have HM:=Lib.hid ((mask40 H.out.2.1 H.out.2.2).symm.trans hm)
  by_cases hn1:n≤1048576
  ·have hb1:decide (n≤1048576)=true:=by simpa using hn1
   obtain⟨b2,hb2⟩:∃ b,decide (d≤1048576)=b:=⟨_,rfl⟩
   have HB:=Lib.hid hb2
   have HN:=Lib.hid (And.intro hn hn1)
   clear hn hn1
   go_enter Tryz.func95,Tryz.ntmps95
   go_wp2
   go_ret2
   refine⟨_,_,rfl,fun h=>?_,fun h=>?_,rfl⟩
   ·have h1:=HB.out;have h2:=HM.out;have h3:=HN.out;have h4:=H.out
    rw [h] at h1
    simp only [decide_eq_true_eq] at h1
    have h5:m=d:=by omega
    rw [h5,w64 (x:=d) (by omega) (by omega),w64 (by omega) (by omega)]
   ·have h1:=HB.out;have h3:=HN.out
    rw [h] at h1
    simp only [decide_eq_false_iff_not] at h1
    omega
  ·have hb1:decide (n≤1048576)=false:=by simpa using hn1
   have HN:=Lib.hid hn1
   clear hn hn1
   go_enter Tryz.func95,Tryz.ntmps95
   go_wp2
   go_ret2
   refine⟨_,_,rfl,fun h=>(by cases h),fun h=>?_,rfl⟩
   have h3:=HN.out;have h4:=H.out
   omega
 ·have hd:decide (n ≥ 0)=false:=by simpa using hn
  have hm:=neg64 H.out.1.1 (by omega)
  obtain⟨m,hnm⟩:∃ m,-n=m:=⟨_,rfl⟩
  rw [hnm] at hm
  have HNM:=Lib.hid (And.intro hnm hn)
  clear hnm hn
  by_cases hdm:m≤d
  ·have hdb:decide (d ≥ m)=true:=by simpa using hdm
   have hs:IntKind.u64.wrap (d - m)=d - m:=u64w (by omega) (by have:=HNM.out;have:=H.out;omega)
   obtain⟨k,hk⟩:∃ k,d - m=k:=⟨_,rfl⟩
   rw [hk] at hs
   obtain⟨x,hx⟩:∃ x,bits BinOp.and IntKind.u64 k 1099511627775=x:=⟨_,rfl⟩
   have HX:=Lib.hid ((mask40 (by omega) (by have:=HNM.out;have:=H.out;omega)).symm.trans hx)
   have HK:=Lib.hid hk
   obtain⟨b2,hb2⟩:∃ b,decide (k≤1048576)=b:=⟨_,rfl⟩
   have HB:=Lib.hid hb2
   have hdk:IntKind.u64.wrap (d - m)=k:=by rw [hk];exact hs
   have HD:=Lib.hid hdm
   clear hdm hk hs
   go_enter Tryz.func95,Tryz.ntmps95
   go_wp2
   go_ret2
   refine⟨_,_,rfl,fun h=>?_,fun h=>?_,rfl⟩
   ·have h1:=HB.out;have h2:=HX.out;have h3:=HNM.out;have h4:=H.out;have h5:=HK.out
    rw [h] at h1
    simp only [decide_eq_true_eq] at h1
    have h6:=HD.out
    rw [w64 (by omega) (by omega)]
    omega
   ·have h1:=HB.out;have h3:=HNM.out;have h5:=HK.out
    rw [h] at h1
    simp only [decide_eq_false_iff_not] at h1
    omega
  ·have hdb:decide (d ≥ m)=false:=by simpa using hdm
   have hs:IntKind.u64.wrap (m - d)=m - d:=u64w (by omega) (by have:=HNM.out;have:=H.out;omega)
   obtain⟨k,hk⟩:∃ k,m - d=k:=⟨_,rfl⟩
   rw [hk] at hs
   obtain⟨x,hx⟩:∃ x,bits BinOp.and IntKind.u64 k 1099511627775=x:=⟨_,rfl⟩
   have HX:=Lib.hid ((mask40 (by omega) (by have:=HNM.out;have:=H.out;omega)).symm.trans hx)
   have HK:=Lib.hid hk
   obtain⟨b2,hb2⟩:∃ b,decide (k≤1048576)=b:=⟨_,rfl⟩
   have HB:=Lib.hid hb2
   have hdk:IntKind.u64.wrap (m - d)=k:=by rw [hk];exact hs
   have HD:=Lib.hid hdm
   clear hdm hk hs
   go_enter Tryz.func95,Tryz.ntmps95
   go_wp2
   go_ret2
   refine⟨_,_,rfl,fun h=>?_,fun h=>?_,rfl⟩
   ·have h1:=HB.out;have h2:=HX.out;have h3:=HNM.out;have h4:=H.out;have h5:=HK.out;have h6:=HD.out
    rw [h] at h1
    simp only [decide_eq_true_eq] at h1
    rw [w64 (x:=x) (by omega) (by omega),w64 (by omega) (by omega)]
    omega
   ·have h1:=HB.out;have h3:=HNM.out;have h5:=HK.out;have h6:=HD.out
    rw [h] at h1
    simp only [decide_eq_false_iff_not] at h1
    omega
end Go.Proofs.YtdanghnadbkhfaaGreat
end
section
namespace Go.Proofs.YtdanghnadbkhfaaGreat
open Go Go.RowKit Rg Mp Hp Qs Ev Bn Pt
def inB (n f:Int) (L:Nat):Bool:=decide (f≤n∧n - f<((2 ^ L:Nat):Int))
def OffPost (w:World) (n f:Int) (L:Nat) (e:Ending) (w':World):Prop:=∃ d:Int,e=.returned (.tuple #[.int .u64 d,.bool (inB n f L)])∧(inB n f L=true→d=n - f∧d<18446744073709551616)∧w'=w
theorem sub64 {n f:Int} (h1:-9223372036854775808≤n) (h2:n<9223372036854775808) (h3:-9223372036854775808≤f) (h4:f<9223372036854775808) (h:f≤n):IntKind.u64.wrap (IntKind.u64.wrap n - IntKind.u64.wrap f)=n - f:=by
 simp only [IntKind.wrap,IntKind.bits,IntKind.signed];simp;omega
theorem div_zero {d:Int} (h:0≤d) {L:Nat}:(d / 2 ^ L == 0)=decide (d<((2 ^ L:Nat):Int)):=by
 have hp:(0:Int)<2 ^ L:=Int.pow_pos (by omega)
 rw [show ((2 ^ L:Nat):Int)=2 ^ L by simp,Bool.eq_iff_iff]
 simp only [beq_iff_eq,decide_eq_true_eq]
 constructor
 ·intro e
  have h1:=Int.lt_ediv_add_one_mul_self d hp
  rw [e] at h1;omega
 ·intro e
  exact Int.ediv_eq_zero_of_lt h e
theorem offset_q (w:World) (n f:Int) (L:Nat) (hL:L≤256) (h1:-9223372036854775808≤n) (h2:n<9223372036854775808) (h3:-9223372036854775808≤f) (h4:f<9223372036854775808) :
  Calls Tryz.prog 63 #[.int .i64 n,.int .i64 f,.int .i64 L] w (OffPost w n f L):=by
 by_cases hf:f≤n
 ·have hd:decide (n ≥ f)=true:=by simpa using hf
  have hs:=sub64 h1 h2 h3 h4 hf
  obtain⟨d,hdd⟩:∃ d,n - f=d:=⟨_,rfl⟩
  rw [hdd] at hs
  by_cases h64:64≤L
  ·have hd64:decide ((L:Int) ≥ 64)=true:=by simp;omega
   have hp:=Nat.pow_le_pow_right (n:=2) (by omega) h64
   have hin:inB n f L=true:=by unfold inB;rw [decide_eq_true_eq];omega
   have HR:=Lib.hid (And.intro hin (And.intro hdd (show d<18446744073709551616 by omega)))
   clear hf h1 h2 h3 h4 hdd h64 hp hin
   go_enter Tryz.func63,Tryz.ntmps63
   go_wp2
   go_ret2
   exact⟨d,by rw [HR.out.1];rfl,fun _=>⟨HR.out.2.1.symm,HR.out.2.2⟩,rfl⟩
  ·have hd64:decide ((L:Int) ≥ 64)=false:=by simp;omega
   have hsh:IntKind.u64.wrap (L:Int)=L:=u64w (by omega) (by omega)
   have hin:inB n f L=decide (d<((2 ^ L:Nat):Int)):=by unfold inB;rw [decide_eq_decide];omega
   have HR:=Lib.hid (And.intro hin (And.intro hdd (show d<18446744073709551616 by omega)))
   have H0:=Lib.hid (show 0≤d by omega)
   clear hf h1 h2 h3 h4 hdd hin
   go_enter Tryz.func63,Tryz.ntmps63
   go_wp2
   go_ret2
   refine⟨d,?_,fun _=>⟨HR.out.2.1.symm,HR.out.2.2⟩,rfl⟩
   rw [HR.out.1,← div_zero H0.out];rfl
 ·have hd:decide (n ≥ f)=false:=by simpa using hf
  have hin:inB n f L=false:=by unfold inB;rw [decide_eq_false_iff_not];omega
  have HR:=Lib.hid hin
  clear hf h1 h2 h3 h4 hin
  go_enter Tryz.func63,Tryz.ntmps63
  go_wp2
  go_ret2
  refine⟨IntKind.u64.wrap (IntKind.u64.wrap n - IntKind.u64.wrap f),?_,fun h=>?_,rfl⟩
  ·rw [HR.out];rfl
  ·rw [HR.out] at h;cases h
end Go.Proofs.YtdanghnadbkhfaaGreat
end
section
namespace Go.Proofs.Hp
open Go Go.RowKit
theorem hAP {W w w9:World} {Ps:List Res} {T size n n' g:Nat} {v v':Value} {xs xs':List Value} (h:Has W w (Hp.row T size v n xs::Ps)) (hown:w9.ownsRow 0 T size v' n' xs') (hv:v'.ownBlock=some g) (hf:Fr v.ownBlock.toList w w9) (hg:v.ownBlock=some g∨w.heap.size≤g):Has W w9 (Hp.row T size v' n' xs'::Ps) :=
 h.turn fun F ⟨h1,h2⟩=>⟨[g],⟨hown,by rw [hv];rfl⟩,by rw [h2];exact hf,fun x hx=>by
  simp only [List.mem_singleton] at hx
  subst hx
  rcases hg with hg|hg
  ·left;rw [h2,hg];simp
  ·right;exact hg⟩
end Go.Proofs.Hp
end
section
namespace Go.Proofs.YtdanghnadbkhfaaGreat
open Go Go.RowKit Rg Mp Hp Qs Ev Bn Pt
def rdO (b rb:Nat) (x0 y0:Int) (v:Value) (ok:Bool):Obj:=.cells #[.pointer (some ⟨b,0,none⟩),.map (some rb),.int .i64 x0,.int .i64 y0,v,.bool ok] 108 (0,0)
theorem rdO_cnt (b rb:Nat) (x0 y0:Int) (v:Value) (ok:Bool):CntO b rb (rdO b rb x0 y0 v ok):=⟨_,_,rfl,rfl,rfl⟩
def rdL (b db rb:Nat) (s:Int) (ns:List K4) (mm:List (Int×BV)) (x0 y0:Int) (v:Value) (ok:Bool) (l:List PC) (Ps:List Res):List Res :=
 cntL (rdO b rb x0 y0 v ok) b db rb s ns mm (Hp.row 75 3 v l.length (pcs l)::Ps)
def RdRel (ok:Bool) (l C:List PC) (ok':Bool) (l':List PC):Prop :=
 (ok'=true→ok=true∧l'=l++C)∧(ok'=false→ok=false∨∃ c∈C,placeB c.x c.y=false)∧l'.length≤l.length+C.length
theorem RdRel.refl (ok:Bool) (l:List PC):RdRel ok l [] ok l:=⟨fun h=>⟨h,by simp⟩,fun h=>.inl h,by simp⟩
theorem RdRel.trans {a b c:Bool} {l m n C D:List PC} (h:RdRel a l C b m) (k:RdRel b m D c n):RdRel a l (C++D) c n:=by
 obtain⟨h1,h2,h3⟩:=h
 obtain⟨k1,k2,k3⟩:=k
 refine⟨fun e=>?_,fun e=>?_,by rw [List.length_append];omega⟩
 ·obtain⟨e1,rfl⟩:=k1 e
  obtain⟨e2,rfl⟩:=h1 e1
  exact⟨e2,by rw [List.append_assoc]⟩
 ·rcases k2 e with e|⟨x,hx,hp⟩
  ·rcases h2 e with e|⟨x,hx,hp⟩
   ·exact .inl e
   ·exact .inr ⟨x,by simp [hx],hp⟩
  ·exact .inr ⟨x,by simp [hx],hp⟩
theorem RdRel.off {l C:List PC}:RdRel false l C false l:=⟨fun h=>by simp at h,fun _=>.inl rfl,by omega⟩
def shC (x0 y0:Int) (L:List Spot):List PC:=L.map fun c=>⟨x0+c.x,y0+c.y,c.st⟩
def Pos (n X Y:Nat) (x y:Int) (far:Bool):Prop :=
 ((0≤x∧x<18446744073709551616)∧0≤y∧y<18446744073709551616)∧(far=true→18446744073709551616≤X∨18446744073709551616≤Y) ∧
 (far=false→x=X∧y=Y∧(n≤64→X+2 ^ n≤18446744073709551616∧Y+2 ^ n≤18446744073709551616)∧(64<n→X=0∧Y=0))
def RdPost (W:World) (b db rb:Nat) (s:Int) (ns:List K4) (x0 y0:Int) (ok:Bool) (l C:List PC) (Ps:List Res) (e:Ending) (w':World):Prop :=
 e=.returned (.tuple #[])∧∃ v' ok' l' mm',Has W w' (rdL b db rb s ns mm' x0 y0 v' ok' l' Ps)∧RdRel ok l C ok' l'
def ReadAt (W:World) (b db rb:Nat) (s:Int) (ns:List K4) (x0 y0:Int) (n:Nat):Prop :=
 ∀ (w:World) (Ps:List Res) (mm:List (Int×BV)) (v:Value) (ok:Bool) (l:List PC) (id:Int) (t:Tr) (X Y:Nat) (x y:Int) (far:Bool),Has W w (rdL b db rb s ns mm x0 y0 v ok l Ps)→Is s ns n id t→Pos n X Y x y far→l.length+popT t≤5000 →
  Calls Tryz.prog 55 #[.pointer (some ⟨db,0,none⟩),.int .i64 id,.int .u64 x,.int .u64 y,.bool far] w (RdPost W b db rb s ns x0 y0 ok l (shC x0 y0 (cellsT n t X Y)) Ps)
theorem run_field_mag (w:World) (a:Bool) (s:Value):(Instr.field 27 (.agg #[.bool a,s]) 1).run Tryz.prog w=.ok s w:=by
 simp [Instr.field,Sem.run_bind,run_underlying,Tryz.underlying27,part,go_sem,asAgg,isAgg,Tryz.underlying4,Tryz.underlying25]
theorem zd_nil {V:Nat}:zd (V:Int)=[]↔V=0:=by
 unfold zd
 rw [Int.natAbs_natCast]
 exact dg_eq_nil (by omega)
theorem append_pl {ops:Array Oper} {rest:List Oper} {o:Oper} {a:Act} {W:World} {Q:Exit→Act→World→Prop} (hgd:o.guard=none) {s x:Operand} (ho:o.op=.call { callee:=.builtin .append,args:=#[s,x],argTypes:=#[50,50] })
  {base:Nat} {v:Value} {n:Nat} {xs:List Value} (hs:a.eval s=v) (hown:W.ownsRow base 75 3 v n xs) {nb c:Nat} {y:PC} (hx:a.eval x=.slice (some ⟨nb,0,none⟩) 1 c)
  (hnb:W.heap[nb]?=some (.cells #[.int .i64 y.x,.int .i64 y.y,.int .i64 y.st] 75 (0,0))) (hn:n≤4000000000000) (hbase:base≤W.heap.size)
  (h:∀ g cap w',w'.ownsRow base 75 3 (.slice (some ⟨g,0,none⟩) (n+1) cap) (n+1) (xs++[.int .i64 y.x,.int .i64 y.y,.int .i64 y.st])→(∀ b,b<W.heap.size→v.ownBlock≠some b→w'.heap[b]?=W.heap[b]?)→Fr v.ownBlock.toList W w'→(v.ownBlock=some g∨g=W.heap.size)→g<w'.heap.size →
   wpList Tryz.prog ops Q rest (a.put o.dst (.slice (some ⟨g,0,none⟩) (n+1) cap)) w'):wpList Tryz.prog ops Q (o::rest) a W :=
 append_pc hgd ho Tryz.underlying50 hs hown hx hnb hn hbase h
set_option maxHeartbeats 16000000 in
theorem read_leaf {W:World} {b db rb:Nat} {s:Int} {ns:List K4} {x0 y0:Int} (hx0:-9223372036854775808≤x0∧x0<9223372036854775808) (hy0:-9223372036854775808≤y0∧y0<9223372036854775808):ReadAt W b db rb s ns x0 y0 0:=by
 intro w Ps mm v ok l id t X Y x y far h hi hpos hlen
 obtain⟨V,hV⟩:∃ V,popT t=V:=⟨_,rfl⟩
 have HC:=Lib.hid (fun w1 Qs (h1:Has W w1 (rdL b db rb s ns mm x0 y0 v ok l Qs))=>hV▸count_q (rdO_cnt b rb x0 y0 v ok) 0 (by omega) w1 _ mm id t h1 hi)
 have HK:=Lib.hid (fun w1 Qs (h1:Has W w1 (sTR b s ns::Qs))=>KidsLeaf_has h1 hi)
 obtain⟨_,_,ht⟩:=hi.zero (has_good h.third)
 have hfl:=run_field_mag
 have H:=Lib.hid h
 have hfull:=hi.2.2.1
 by_cases hV0:V=0
 ·have hc:cellsT 0 t X Y=[]:=cellsT_none hfull (by rw [hV,hV0])
  rw [hc]
  clear h hi hpos hc ht hfull
  have hz:zd (V:Int)=[]:=zd_nil.2 hV0
  have hb:(((zd (V:Int)).length:Int) == 0)=true:=by rw [hz];rfl
  clear hV0 hV
  go_enter Tryz.func55,Tryz.ntmps55
  go_wp2_with fail
  refine (HC.out _ _ H.out).mono ?_
  rintro e w1 ⟨a1,c1,mm1,rfl,h1,hm1⟩
  simp only [bvV]
  have hd:=h1.swap.blk
  simp only [rdO] at hd
  have d0:=hEC hd 0
  have d5:=hEC hd 5
  have dl:=lBk hd
  have H1:=Lib.hid h1
  clear h1 hd hm1
  go_wp2
  go_end0
  exact⟨rfl,v,ok,l,mm1,H1.out,RdRel.refl ok l⟩
 cases ok with
 | false =>
  clear h hi hpos ht hfull
  have hz:¬ zd (V:Int)=[]:=fun e=>hV0 (zd_nil.1 e)
  have hb:(((zd (V:Int)).length:Int) == 0)=false:=by
   have:=List.length_pos_iff.2 hz
   simp;exact hz
  clear hV0 hV
  go_enter Tryz.func55,Tryz.ntmps55
  go_wp2_with fail
  refine (HC.out _ _ H.out).mono ?_
  rintro e w1 ⟨a1,c1,mm1,rfl,h1,hm1⟩
  simp only [bvV]
  have hd:=h1.swap.blk
  simp only [rdO] at hd
  have d0:=hEC hd 0
  have d5:=hEC hd 5
  have dl:=lBk hd
  have H1:=Lib.hid h1
  clear h1 hd hm1
  go_wp2
  go_end0
  exact⟨rfl,v,false,l,mm1,H1.out,RdRel.off⟩
 | true =>
 have hc:shC x0 y0 (cellsT 0 t X Y)=[⟨x0+X,y0+Y,id⟩]:=by
  subst ht
  have:id≠0:=fun e=>hV0 (by rw [← hV,e];rfl)
  simp [cellsT,this,shC]
 rw [hc]
 obtain⟨⟨⟨p1,p2⟩,p3,p4⟩,pf,pn⟩:=hpos
 have HAX:=Lib.hid (fun w1=>at_q w1 x0 x hx0.1 hx0.2 p1 p2)
 have HAY:=Lib.hid (fun w1=>at_q w1 y0 y hy0.1 hy0.2 p3 p4)
 have HPF:=Lib.hid (And.intro pf pn)
 have HRB:=Lib.hid (And.intro hx0 hy0)
 have HLEN:=Lib.hid hlen
 clear h hi hc ht hfull pf pn p1 p2 p3 p4 hx0 hy0 hlen
 have hz:¬ zd (V:Int)=[]:=fun e=>hV0 (zd_nil.1 e)
 have hb:(((zd (V:Int)).length:Int) == 0)=false:=by
  have:=List.length_pos_iff.2 hz
  simp;exact hz
 clear hV0 hV
 go_enter Tryz.func55,Tryz.ntmps55
 go_wp2_with fail
 refine (HC.out _ _ H.out).mono ?_
 rintro e w1 ⟨a1,c1,mm1,rfl,h1,hm1⟩
 simp only [bvV]
 have hd:=h1.swap.blk
 simp only [rdO] at hd
 have d0:=hEC hd 0
 have d5:=hEC hd 5
 have dl:=lBk hd
 have H1:=Lib.hid h1
 clear h1 hd hm1
 go_wp2_with fail
 refine (HK.out _ _ H1.out.third).mono ?_
 rintro e w2 ⟨rfl,h2,_⟩
 have hd:=h2.third.blk
 simp only [rdO] at hd
 clear d0 d5 dl
 have d0:=hEC hd 0
 have d2:=hEC hd 2
 have d3:=hEC hd 3
 have d4:=hEC hd 4
 have d4z:=hEF hd 4
 have d5:=hEC hd 5
 have d5z:=hEF hd 5
 have dl:=lBk hd
 have H20:=Lib.hid h2
 have H2:=Lib.hid (h2.step ((Fr.refl [] _).alloc (.cells #[.int .i64 0,.int .i64 0,.int .i64 0,.int .i64 0] 81)))
 clear h2 hd
 go_wp2_with fail
 refine (HAX.out _).mono ?_
 rintro e w3 ⟨ax,okx,rfl,hax1,hax2,rfl⟩
 have HA1:=Lib.hid (And.intro hax1 hax2)
 clear hax1 hax2
 go_wp2_with fail
 refine (HAY.out _).mono ?_
 rintro e w4 ⟨ay,oky,rfl,hay1,hay2,rfl⟩
 have HA2:=Lib.hid (And.intro hay1 hay2)
 clear hay1 hay2
 have HC1:=Lib.hid (show RdRel true l [⟨x0+X,y0+Y,id⟩] false l↔placeB (x0+X) (y0+Y)=false by
  simp [RdRel])
 cases far with
 | true =>
  go_wp2
  go_end0
  refine⟨rfl,v,false,l,mm1,?_,HC1.out.2 ?_⟩
  ·exact ((hST H20.out.third 5 (.bool false)).ord 4 [2,0,1,3]).step ((Fr.refl [] _).alloc _)
  ·have h1:=HPF.out.1 (by simp);have h2:=HRB.out
   unfold placeB
   simp only [decide_eq_false_iff_not]
   omega
 | false =>
  have hXY:=HPF.out.2 (by simp)
  have HXY:=Lib.hid (And.intro hXY.1 hXY.2.1)
  clear hXY
  cases okx with
  | false =>
   go_wp2
   go_end0
   refine⟨rfl,v,false,l,mm1,?_,HC1.out.2 ?_⟩
   ·exact ((hST H20.out.third 5 (.bool false)).ord 4 [2,0,1,3]).step ((Fr.refl [] _).alloc _)
   ·have h1:=HA1.out.2 (by simp);have h2:=HXY.out
    unfold placeB
    simp only [decide_eq_false_iff_not]
    omega
  | true =>
   cases oky with
   | false =>
    go_wp2
    go_end0
    refine⟨rfl,v,false,l,mm1,?_,HC1.out.2 ?_⟩
    ·exact ((hST H20.out.third 5 (.bool false)).ord 4 [2,0,1,3]).step ((Fr.refl [] _).alloc _)
    ·have h1:=HA2.out.2 (by simp);have h2:=HXY.out
     unfold placeB
     simp only [decide_eq_false_iff_not]
     omega
   | true =>
    have hax:x0+(X:Int)=ax:=by have:=HA1.out.1 (by simp);have:=HXY.out;omega
    have hay:y0+(Y:Int)=ay:=by have:=HA2.out.1 (by simp);have:=HXY.out;omega
    have HE:=Lib.hid (And.intro hax hay)
    clear hax hay
    have Ho:=Lib.hid (H2.out.f3.row)
    go_wp2_with (at_builtin;refine append_pl (n:=l.length) (base:=0) (xs:=pcs l) (y:=⟨ax,ay,id⟩) rfl rfl rfl ?e1 rfl ?e2 ?e3 ?e4 ?_)
    case e1=>exact oOB Ho.out fun g hg=>hAE _ _ _ (oLT Ho.out hg)
    case e2=>refine (Array.getElem?_eq_some_iff.1 ?_).2;(repeat first|rw [if_pos (by omega)]|rw [if_neg (by omega)]|rw [hDR]|rw [hDN]|rw [hAz]|rw [hSz]|rw [hAC]|rw [hSC]|rw [oMS]|rw [uPC]|rw [lSZ]|rw [lSS]|rfl)
    case e3=>have:=HLEN.out;omega
    case e4=>omega
    intro g2 cap w9 hown1 hW1 hF1 hloc1 hg1
    rw [pcs_snoc l ⟨ax,ay,id⟩] at hown1
    have hA:=H2.out.f3.step ((Fr.refl [] _).alloc (.cells #[.int .i64 ax,.int .i64 ay,.int .i64 id] 75))
    have h9:=hAP (n':=(l++[⟨ax,ay,id⟩]:List PC).length) hA (by rw [show (l++[⟨ax,ay,id⟩]:List PC).length=l.length+1 by simp];exact hown1) rfl hF1 (by rcases hloc1 with h|h;exact .inl h;exact .inr (by rw [h];simp))
    have hd:=h9.f3.blk
    clear d0 d2 d3 d4 d4z d5 d5z dl
    have d4:=hEC hd 4
    have d4z:=hEF hd 4
    have dl:=lBk hd
    have H9:=Lib.hid h9
    clear hown1 hW1 hF1 hloc1 hg1 hA h9 hd
    go_wp2
    go_end0
    refine⟨rfl,.slice (some ⟨g2,0,none⟩) (l.length+1) cap,true,l++[⟨ax,ay,id⟩],mm1,?_,fun _=>⟨rfl,by rw [HE.out.1,HE.out.2]⟩,fun h=>by simp at h,by simp⟩
    have h5:=(hST H9.out.f3 4 (.slice (some ⟨g2,0,none⟩) (l.length+1) cap)).ord 4 [3,0,2,1]
    simp only [List.filterMap_cons,List.filterMap_nil,List.getElem?_cons_zero,List.getElem?_cons_succ,List.drop_succ_cons,List.drop_zero,List.cons_append,List.nil_append,List.take_succ_cons,List.take_zero,List.eraseIdx_cons_succ,List.eraseIdx_zero,List.eraseIdx_cons_zero,List.tail_cons,Option.toList_some] at h5
    exact h5
end Go.Proofs.YtdanghnadbkhfaaGreat
end
section
namespace Go.Proofs.YtdanghnadbkhfaaGreat
open Go Qs Ev
structure OkS (s:Int) (n:Nat) (l:List Spot):Prop where
 inside:∀ c∈l,c.x<2 ^ n∧c.y<2 ^ n
 state:∀ c∈l,1≤c.st∧c.st<s
 apart:l.Pairwise fun a b=>¬ (a.x=b.x∧a.y=b.y)
theorem OkS.part {s:Int} {n:Nat} {l:List Spot} (h:OkS s (n+1) l) (k:Nat):OkS s n (partQ (2 ^ n) k l) where
 inside c hc:=by
  simp only [partQ,List.mem_map,List.mem_filter,decide_eq_true_eq] at hc
  obtain⟨d,⟨hd,hq⟩,rfl⟩:=hc
  have:=h.inside d hd
  rw [Nat.pow_succ] at this
  simp only [intoQ]
  constructor<;>split<;>omega
 state c hc:=by
  simp only [partQ,List.mem_map,List.mem_filter,decide_eq_true_eq] at hc
  obtain⟨d,⟨hd,hq⟩,rfl⟩:=hc
  exact h.state d hd
 apart:=by
  unfold partQ
  rw [List.pairwise_map]
  refine List.Pairwise.imp_of_mem ?_ (h.apart.filter _)
  intro a b ha hb hab
  simp only [List.mem_filter,decide_eq_true_eq] at ha hb
  have e:quadOf (2 ^ n) a=quadOf (2 ^ n) b:=ha.2.trans hb.2.symm
  unfold quadOf at e
  simp only [intoQ]
  intro hh
  apply hab
  obtain⟨h1,h2⟩:=hh
  by_cases x1:2 ^ n≤a.x<;>by_cases x2:2 ^ n≤b.x<;>by_cases y1:2 ^ n≤a.y<;>by_cases y2:2 ^ n≤b.y<;>simp only [x1,x2,y1,y2,if_true,if_false] at e h1 h2<;>omega
theorem OkS.nil {s:Int} {n:Nat}:OkS s n []:=⟨by simp,by simp,List.Pairwise.nil⟩
end Go.Proofs.YtdanghnadbkhfaaGreat
end
