/- Own texts of this claim, part 17: no condition. -/
import Derived.Shelf.SlSortCmp.PdqK
import Derived.Shelf.Small.Bits
import Derived.Test.YtdanghnadbkhfaaGreatProg
import Derived.Shelf.SlSortCmp.NoneTotal
import Derived.Test.YtdanghnadbkhfaaGreatZR15
set_option linter.unusedVariables false
set_option linter.unusedSimpArgs false
section
namespace Go.Proofs.Pt
def z3:PC:=⟨0,0,0⟩
def rgtAt (l:List PC) (k:Nat):Bool:=cellB (l.getD k z3) && (decide (k=0) || pBef (l.getD (k - 1) z3) (l.getD k z3))
theorem strict_at:∀ {l:List PC} {k:Nat},strictB l=true→k+1<l.length→pBef (l.getD k z3) (l.getD (k+1) z3)=true
 | [],k,_,h=>by simp at h
 | [_],k,_,h=>by simp at h
 | a::b::l,0,h,_=>by simp only [strictB,Bool.and_eq_true] at h;exact h.1
 | a::b::l,k+1,h,hk=>by
  simp only [strictB,Bool.and_eq_true] at h
  have:=strict_at (k:=k) h.2 (by simpa using hk)
  simpa using this
theorem strict_mk:∀ {l:List PC},(∀ k,k+1<l.length→pBef (l.getD k z3) (l.getD (k+1) z3)=true)→strictB l=true
 | [],_=>rfl
 | [_],_=>rfl
 | a::b::l,h=>by
  simp only [strictB,Bool.and_eq_true]
  refine⟨by simpa using h 0 (by simp),strict_mk fun k hk=>?_⟩
  have:=h (k+1) (by simpa using hk)
  simpa using this
theorem rgt_false {l:List PC} {k:Nat} (hk:k<l.length) (h:rgtAt l k=false):rightP l=false:=by
 cases hr:rightP l with
 | false=>rfl
 | true =>
  unfold rightP at hr
  simp only [Bool.and_eq_true,decide_eq_true_eq,List.all_eq_true] at hr
  obtain⟨_,h2,h3⟩:=hr
  unfold rgtAt at h
  have e:l.getD k z3=l[k]:=by rw [List.getD_eq_getElem?_getD,List.getElem?_eq_getElem hk];rfl
  rw [e,h2 _ (List.getElem_mem hk),Bool.true_and] at h
  cases k with
  | zero=>simp at h
  | succ k =>
   have:=strict_at (k:=k) h3 hk
   rw [e,Nat.add_sub_cancel] at *
   rw [this] at h
   simp at h
theorem rgt_true {l:List PC} (h5:l.length≤5000) (h:∀ k,k<l.length→rgtAt l k=true):rightP l=true:=by
 unfold rightP
 simp only [Bool.and_eq_true,decide_eq_true_eq,List.all_eq_true]
 refine⟨h5,fun c hc=>?_,strict_mk fun k hk=>?_⟩
 ·obtain⟨i,hi,rfl⟩:=List.mem_iff_getElem.1 hc
  have:=h i hi
  unfold rgtAt at this
  rw [Bool.and_eq_true,List.getD_eq_getElem?_getD,List.getElem?_eq_getElem hi] at this
  exact this.1
 ·have:=h (k+1) hk
  unfold rgtAt at this
  simp only [Bool.and_eq_true,Nat.add_sub_cancel,Bool.or_eq_true,decide_eq_true_eq] at this
  rcases this.2 with h|h
  ·omega
  ·exact h
theorem rgt_zero {l:List PC} {c:PC} (h:l[0]?=some c):rgtAt l 0=cellB c:=by
 unfold rgtAt
 rw [List.getD_eq_getElem?_getD,h];simp
theorem rgt_succ {l:List PC} {k:Nat} {c d:PC} (h:l[k+1]?=some c) (h':l[k]?=some d):rgtAt l (k+1)=(cellB c && pBef d c):=by
 unfold rgtAt
 rw [List.getD_eq_getElem?_getD,h,Nat.add_sub_cancel,List.getD_eq_getElem?_getD,h'];simp
end Go.Proofs.Pt
namespace Go.Proofs.YtdanghnadbkhfaaGreat
open Go Go.RowKit Rg Hp Pt
def pcs (l:List PC):List Value:=l.flatMap fun c=>[.int .i64 c.x,.int .i64 c.y,.int .i64 c.st]
theorem pcs_len (l:List PC):(pcs l).length=l.length*3:=by
 induction l with
 | nil=>rfl
 | cons c l ih=>simp only [pcs,List.flatMap_cons,List.length_append,List.length_cons,List.length_nil] at *;omega
theorem pcs_get:∀ {l:List PC} {i:Nat} {c:PC},l[i]?=some c→(pcs l)[i*3]?=some (.int .i64 c.x)∧(pcs l)[i*3+1]?=some (.int .i64 c.y)∧(pcs l)[i*3+2]?=some (.int .i64 c.st)
 | [],i,c,h=>by simp at h
 | d::l,0,c,h=>by
  simp only [List.getElem?_cons_zero,Option.some.injEq] at h
  subst h
  exact⟨rfl,rfl,rfl⟩
 | d::l,i+1,c,h=>by
  have:=pcs_get (l:=l) (i:=i) (by simpa using h)
  have e:pcs (d::l)=[.int .i64 d.x,.int .i64 d.y,.int .i64 d.st]++pcs l:=rfl
  rw [e]
  have f:∀ j,([Value.int .i64 d.x,.int .i64 d.y,.int .i64 d.st]++pcs l)[3+j]?=(pcs l)[j]?:=fun j=>by rw [List.getElem?_append_right (by simp)];simp
  rw [show (i+1)*3=3+i*3 by omega,show 3+i*3+1=3+(i*3+1) by omega,show 3+i*3+2=3+(i*3+2) by omega,f,f,f]
  exact this
def CellsAt (w:World) (v:Value) (l:List PC):Prop:=Reads w v l.length 3 (pcs l)
theorem CellsAt.fr {w w':World} {v:Value} {l:List PC} (h:CellsAt w v l) (hf:Fr [] w w'):CellsAt w' v l:=Reads.fr h hf
theorem CellsAt.cell {w:World} {a:Option Addr} {n c:Nat} {l:List PC} (h:CellsAt w (.slice a n c) l) {i:Nat} {p:PC} (hi:l[i]?=some p) :
  ∃ g off,a=some ⟨g,off,none⟩∧g<w.heap.size∧w.cell? ⟨g,off+i*3,none⟩=some (.int .i64 p.x)∧w.cell? ⟨g,off+i*3+1,none⟩=some (.int .i64 p.y)∧w.cell? ⟨g,off+i*3+2,none⟩=some (.int .i64 p.st):=by
 obtain⟨_,a',c',he,h2⟩:=h
 cases he
 obtain⟨g,off,rfl,hg,hc⟩:=h2 (by have:=(List.getElem?_eq_some_iff.1 hi).1;omega)
 obtain⟨h0,h1,h2⟩:=pcs_get hi
 exact⟨g,off,rfl,hg,hc _ _ h0,by have:=hc _ _ h1;rwa [← Nat.add_assoc] at this,by have:=hc _ _ h2;rwa [← Nat.add_assoc] at this⟩
theorem ret_bool' {a b:Bool} (h:a=b):Ending.returned (.bool a)=Ending.returned (.bool b):=by rw [h]
theorem cmpQ_bef (p q:PC):decide (cmpQ p q ≥ 0)=!pBef p q:=by
 unfold cmpQ cmpJ pBef
 rw [Bool.eq_iff_iff]
 simp only [decide_eq_true_eq,Bool.not_eq_true',decide_eq_false_iff_not]
 by_cases h1:p.y<q.y
 ·simp [h1]
 ·by_cases h2:q.y<p.y
  ·simp [h1,h2];omega
  ·by_cases h3:p.x<q.x
   ·simp [h1,h2,h3];omega
   ·by_cases h4:q.x<p.x
    ·simp [h1,h2,h3,h4]
    ·simp [h1,h2,h3,h4]
set_option maxHeartbeats 4000000 in
theorem PRight_calls {w:World} {l:List PC} {a:Option Addr} {c:Nat} (hl:CellsAt w (.slice a l.length c) l) (hlen:l.length≤4000000000000000000) :
  Calls Tryz.prog 62 #[.slice a l.length c] w fun e w'=>e=.returned (.bool (rightP l))∧Fr [] w w':=by
 have Hl:=Lib.hid hl
 clear hl
 by_cases h5:l.length≤5000
 ·have hd5:decide (((l.length:Nat):Int) > 5000)=false:=by simp;omega
  go_enter Tryz.func62,Tryz.ntmps62
  go_wp2
  go_loopw [10] (fun x wr=>∃ k:Nat,x=.int .i64 k∧k≤l.length∧(∀ j,j<k→rgtAt l j=true)∧Fr [] w wr) (fun x _=>l.length - (intOf x).toNat)
  case atStart=>exact⟨0,rfl,by omega,by omega,Fr.refl _ _⟩
  case round =>
   obtain⟨k,rfl,hk,hn,hf⟩:=hrel
   have Hk:=Lib.hid hn
   have Hf:=Lib.hid hf
   clear hn hf
   by_cases hlt:k<l.length
   ·obtain⟨⟨x,y,st⟩,hp⟩:∃ p,l[k]?=some p:=⟨_,List.getElem?_eq_getElem hlt⟩
    obtain⟨g,off,rfl,hg,e0,e1,e2⟩:=(Hl.out.fr Hf.out).cell hp
    simp only at e0 e1 e2
    have HAT:=Lib.hid (at_p ⟨x,y,st⟩)
    have HPL:=Lib.hid (placed_p ⟨x,y,st⟩)
    unfold pcV at HAT
    simp only at HAT HPL
    cases k with
    | zero =>
     have HA:=Lib.hid (rgt_zero hp)
     clear hp
     simp only [Nat.zero_mul,Nat.add_zero] at e0 e1 e2
     unfold cellB at HA
     simp only at HA
     generalize placeB x y=pl at HA HPL
     cases pl with
     | false =>
      go_wp2
      (refine wRT (by kernel_rfl) (by kernel_rfl) ?_)
      go_wp2_with fail
      refine (HAT.out _).mono ?_
      rintro e w1 ⟨rfl,hg1⟩
      have hf:=hg1.fr
      have hm_:=(hf.block (wr.heap.size) (by first|(simp;done)|(simp;omega)) (by simp)).trans (show _=some (.cells #[.int .i64 x,.int .i64 y,.int .i64 st] 75 (0,0)) by (repeat first|rw [if_pos (by omega)]|rw [if_neg (by omega)]|rw [hDR]|rw [hDN]|rw [hAz]|rw [hSz]|rw [hAC]|rw [hSC]|rw [oMS]|rw [uPC]|rw [lSZ]|rw [lSS]|rfl))
      have m0:=hEC hm_ 0
      have m1:=hEC hm_ 1
      have m2:=hEC hm_ 2
      have ml:=lBk hm_
      have Hm:=Lib.hid hm_
      clear hm_
      have Hf1:=Lib.hid (Fr.trans0 (by have:=Hf.out;(repeat first|exact Fr.refl _ _|assumption|apply Fr.n|apply Fr.d|apply Fr.a|refine Fr.s ?_ (.inr (by simp;try omega)) _)) hf:Fr [] w w1)
      clear hf hg1
      go_wp2_with fail
      refine (HPL.out _).mono ?_
      rintro e w2 ⟨rfl,hg2⟩
      have hf:=hg2.fr
      (try clear m0)
      (try clear m1)
      (try clear m2)
      (try clear ml)
      have hm_:=(hf.block _ (lBk Hm.out) (by simp)).trans Hm.out
      clear Hm
      have m0:=hEC hm_ 0
      have m1:=hEC hm_ 1
      have m2:=hEC hm_ 2
      have ml:=lBk hm_
      have Hm:=Lib.hid hm_
      clear hm_
      have Hf2:=Lib.hid (Hf1.out.trans0 hf)
      clear hf hg2 Hf1 e0 e1 e2
      go_wp2
      refine Strict.intro rfl ?_
      go_wp2
      go_ret
      exact⟨ret_bool' (rgt_false hlt (HA.out.trans (by simp ))).symm,by have:=Hf2.out;(repeat first|exact Fr.refl _ _|assumption|apply Fr.n|apply Fr.d|apply Fr.a|refine Fr.s ?_ (.inr (by simp;try omega)) _)⟩
     | true =>
      by_cases h1:st<1
      ·have hd1:decide (st<1)=true:=by simpa using h1
       go_wp2
       (refine wRT (by kernel_rfl) (by kernel_rfl) ?_)
       go_wp2_with fail
       refine (HAT.out _).mono ?_
       rintro e w1 ⟨rfl,hg1⟩
       have hf:=hg1.fr
       have hm_:=(hf.block (wr.heap.size) (by first|(simp;done)|(simp;omega)) (by simp)).trans (show _=some (.cells #[.int .i64 x,.int .i64 y,.int .i64 st] 75 (0,0)) by (repeat first|rw [if_pos (by omega)]|rw [if_neg (by omega)]|rw [hDR]|rw [hDN]|rw [hAz]|rw [hSz]|rw [hAC]|rw [hSC]|rw [oMS]|rw [uPC]|rw [lSZ]|rw [lSS]|rfl))
       have m0:=hEC hm_ 0
       have m1:=hEC hm_ 1
       have m2:=hEC hm_ 2
       have ml:=lBk hm_
       have Hm:=Lib.hid hm_
       clear hm_
       have Hf1:=Lib.hid (Fr.trans0 (by have:=Hf.out;(repeat first|exact Fr.refl _ _|assumption|apply Fr.n|apply Fr.d|apply Fr.a|refine Fr.s ?_ (.inr (by simp;try omega)) _)) hf:Fr [] w w1)
       clear hf hg1
       go_wp2_with fail
       refine (HPL.out _).mono ?_
       rintro e w2 ⟨rfl,hg2⟩
       have hf:=hg2.fr
       (try clear m0)
       (try clear m1)
       (try clear m2)
       (try clear ml)
       have hm_:=(hf.block _ (lBk Hm.out) (by simp)).trans Hm.out
       clear Hm
       have m0:=hEC hm_ 0
       have m1:=hEC hm_ 1
       have m2:=hEC hm_ 2
       have ml:=lBk hm_
       have Hm:=Lib.hid hm_
       clear hm_
       have Hf2:=Lib.hid (Hf1.out.trans0 hf)
       clear hf hg2 Hf1 e0 e1 e2
       go_wp2
       refine Strict.intro rfl ?_
       go_wp2
       go_ret
       exact⟨ret_bool' (rgt_false hlt (HA.out.trans (by simp ;omega))).symm,by have:=Hf2.out;(repeat first|exact Fr.refl _ _|assumption|apply Fr.n|apply Fr.d|apply Fr.a|refine Fr.s ?_ (.inr (by simp;try omega)) _)⟩
      ·have hd1:decide (st<1)=false:=by simpa using h1
       by_cases h8:st ≥ 8
       ·have hd8:decide (st ≥ 8)=true:=by simpa using h8
        go_wp2
        (refine wRT (by kernel_rfl) (by kernel_rfl) ?_)
        go_wp2_with fail
        refine (HAT.out _).mono ?_
        rintro e w1 ⟨rfl,hg1⟩
        have hf:=hg1.fr
        have hm_:=(hf.block (wr.heap.size) (by first|(simp;done)|(simp;omega)) (by simp)).trans (show _=some (.cells #[.int .i64 x,.int .i64 y,.int .i64 st] 75 (0,0)) by (repeat first|rw [if_pos (by omega)]|rw [if_neg (by omega)]|rw [hDR]|rw [hDN]|rw [hAz]|rw [hSz]|rw [hAC]|rw [hSC]|rw [oMS]|rw [uPC]|rw [lSZ]|rw [lSS]|rfl))
        have m0:=hEC hm_ 0
        have m1:=hEC hm_ 1
        have m2:=hEC hm_ 2
        have ml:=lBk hm_
        have Hm:=Lib.hid hm_
        clear hm_
        have Hf1:=Lib.hid (Fr.trans0 (by have:=Hf.out;(repeat first|exact Fr.refl _ _|assumption|apply Fr.n|apply Fr.d|apply Fr.a|refine Fr.s ?_ (.inr (by simp;try omega)) _)) hf:Fr [] w w1)
        clear hf hg1
        go_wp2_with fail
        refine (HPL.out _).mono ?_
        rintro e w2 ⟨rfl,hg2⟩
        have hf:=hg2.fr
        (try clear m0)
        (try clear m1)
        (try clear m2)
        (try clear ml)
        have hm_:=(hf.block _ (lBk Hm.out) (by simp)).trans Hm.out
        clear Hm
        have m0:=hEC hm_ 0
        have m1:=hEC hm_ 1
        have m2:=hEC hm_ 2
        have ml:=lBk hm_
        have Hm:=Lib.hid hm_
        clear hm_
        have Hf2:=Lib.hid (Hf1.out.trans0 hf)
        clear hf hg2 Hf1 e0 e1 e2
        go_wp2
        refine Strict.intro rfl ?_
        go_wp2
        go_ret
        exact⟨ret_bool' (rgt_false hlt (HA.out.trans (by simp ;omega))).symm,by have:=Hf2.out;(repeat first|exact Fr.refl _ _|assumption|apply Fr.n|apply Fr.d|apply Fr.a|refine Fr.s ?_ (.inr (by simp;try omega)) _)⟩
       ·have hd8:decide (st ≥ 8)=false:=by simpa using h8
        go_wp2
        (refine wRT (by kernel_rfl) (by kernel_rfl) ?_)
        go_wp2_with fail
        refine (HAT.out _).mono ?_
        rintro e w1 ⟨rfl,hg1⟩
        have hf:=hg1.fr
        have hm_:=(hf.block (wr.heap.size) (by first|(simp;done)|(simp;omega)) (by simp)).trans (show _=some (.cells #[.int .i64 x,.int .i64 y,.int .i64 st] 75 (0,0)) by (repeat first|rw [if_pos (by omega)]|rw [if_neg (by omega)]|rw [hDR]|rw [hDN]|rw [hAz]|rw [hSz]|rw [hAC]|rw [hSC]|rw [oMS]|rw [uPC]|rw [lSZ]|rw [lSS]|rfl))
        have m0:=hEC hm_ 0
        have m1:=hEC hm_ 1
        have m2:=hEC hm_ 2
        have ml:=lBk hm_
        have Hm:=Lib.hid hm_
        clear hm_
        have Hf1:=Lib.hid (Fr.trans0 (by have:=Hf.out;(repeat first|exact Fr.refl _ _|assumption|apply Fr.n|apply Fr.d|apply Fr.a|refine Fr.s ?_ (.inr (by simp;try omega)) _)) hf:Fr [] w w1)
        clear hf hg1
        go_wp2_with fail
        refine (HPL.out _).mono ?_
        rintro e w2 ⟨rfl,hg2⟩
        have hf:=hg2.fr
        (try clear m0)
        (try clear m1)
        (try clear m2)
        (try clear ml)
        have hm_:=(hf.block _ (lBk Hm.out) (by simp)).trans Hm.out
        clear Hm
        have m0:=hEC hm_ 0
        have m1:=hEC hm_ 1
        have m2:=hEC hm_ 2
        have ml:=lBk hm_
        have Hm:=Lib.hid hm_
        clear hm_
        have Hf2:=Lib.hid (Hf1.out.trans0 hf)
        clear hf hg2 Hf1 e0 e1 e2
        go_wp2
        refine Strict.intro rfl ?_
        go_wp2
        go_roundw
        case rel =>
         refine⟨0+1,by go_num,by omega,fun j hj=>?_,by have:=Hf2.out;(repeat first|exact Fr.refl _ _|assumption|apply Fr.n|apply Fr.d|apply Fr.a|refine Fr.s ?_ (.inr (by simp;try omega)) _)⟩
         rcases Nat.lt_or_ge j (0) with h|h
         ·exact Hk.out j h
         ·obtain rfl:j=0:=by omega
          exact HA.out.trans (by simp ;omega)
        case measure=>simp [intOf];omega
    | succ k =>
     obtain⟨⟨u,v,su⟩,hq⟩:∃ p,l[k]?=some p:=⟨_,List.getElem?_eq_getElem (by omega)⟩
     have HA:=Lib.hid (rgt_succ hp hq)
     have HOR:=Lib.hid (order_p ⟨u,v,su⟩ ⟨x,y,st⟩)
     have hcb:=cmpQ_bef ⟨u,v,su⟩ ⟨x,y,st⟩
     have Hq:=Lib.hid hq
     unfold cellB at HA
     unfold pcV at HOR
     simp only at HA HOR
     generalize placeB x y=pl at HA HPL
     generalize pBef ⟨u,v,su⟩ ⟨x,y,st⟩=be at HA hcb
     generalize cmpQ ⟨u,v,su⟩ ⟨x,y,st⟩=z at HOR hcb
     clear hp hq
     cases pl with
     | false =>
      go_wp2
      (refine wRT (by kernel_rfl) (by kernel_rfl) ?_)
      go_wp2_with fail
      refine (HAT.out _).mono ?_
      rintro e w1 ⟨rfl,hg1⟩
      have hf:=hg1.fr
      have hm_:=(hf.block (wr.heap.size) (by first|(simp;done)|(simp;omega)) (by simp)).trans (show _=some (.cells #[.int .i64 x,.int .i64 y,.int .i64 st] 75 (0,0)) by (repeat first|rw [if_pos (by omega)]|rw [if_neg (by omega)]|rw [hDR]|rw [hDN]|rw [hAz]|rw [hSz]|rw [hAC]|rw [hSC]|rw [oMS]|rw [uPC]|rw [lSZ]|rw [lSS]|rfl))
      have m0:=hEC hm_ 0
      have m1:=hEC hm_ 1
      have m2:=hEC hm_ 2
      have ml:=lBk hm_
      have Hm:=Lib.hid hm_
      clear hm_
      have Hf1:=Lib.hid (Fr.trans0 (by have:=Hf.out;(repeat first|exact Fr.refl _ _|assumption|apply Fr.n|apply Fr.d|apply Fr.a|refine Fr.s ?_ (.inr (by simp;try omega)) _)) hf:Fr [] w w1)
      clear hf hg1
      go_wp2_with fail
      refine (HPL.out _).mono ?_
      rintro e w2 ⟨rfl,hg2⟩
      have hf:=hg2.fr
      (try clear m0)
      (try clear m1)
      (try clear m2)
      (try clear ml)
      have hm_:=(hf.block _ (lBk Hm.out) (by simp)).trans Hm.out
      clear Hm
      have m0:=hEC hm_ 0
      have m1:=hEC hm_ 1
      have m2:=hEC hm_ 2
      have ml:=lBk hm_
      have Hm:=Lib.hid hm_
      clear hm_
      have Hf2:=Lib.hid (Hf1.out.trans0 hf)
      clear hf hg2 Hf1 e0 e1 e2
      go_wp2
      refine Strict.intro rfl ?_
      go_wp2
      go_ret
      exact⟨ret_bool' (rgt_false hlt (HA.out.trans (by simp ))).symm,by have:=Hf2.out;(repeat first|exact Fr.refl _ _|assumption|apply Fr.n|apply Fr.d|apply Fr.a|refine Fr.s ?_ (.inr (by simp;try omega)) _)⟩
     | true =>
      by_cases h1:st<1
      ·have hd1:decide (st<1)=true:=by simpa using h1
       go_wp2
       (refine wRT (by kernel_rfl) (by kernel_rfl) ?_)
       go_wp2_with fail
       refine (HAT.out _).mono ?_
       rintro e w1 ⟨rfl,hg1⟩
       have hf:=hg1.fr
       have hm_:=(hf.block (wr.heap.size) (by first|(simp;done)|(simp;omega)) (by simp)).trans (show _=some (.cells #[.int .i64 x,.int .i64 y,.int .i64 st] 75 (0,0)) by (repeat first|rw [if_pos (by omega)]|rw [if_neg (by omega)]|rw [hDR]|rw [hDN]|rw [hAz]|rw [hSz]|rw [hAC]|rw [hSC]|rw [oMS]|rw [uPC]|rw [lSZ]|rw [lSS]|rfl))
       have m0:=hEC hm_ 0
       have m1:=hEC hm_ 1
       have m2:=hEC hm_ 2
       have ml:=lBk hm_
       have Hm:=Lib.hid hm_
       clear hm_
       have Hf1:=Lib.hid (Fr.trans0 (by have:=Hf.out;(repeat first|exact Fr.refl _ _|assumption|apply Fr.n|apply Fr.d|apply Fr.a|refine Fr.s ?_ (.inr (by simp;try omega)) _)) hf:Fr [] w w1)
       clear hf hg1
       go_wp2_with fail
       refine (HPL.out _).mono ?_
       rintro e w2 ⟨rfl,hg2⟩
       have hf:=hg2.fr
       (try clear m0)
       (try clear m1)
       (try clear m2)
       (try clear ml)
       have hm_:=(hf.block _ (lBk Hm.out) (by simp)).trans Hm.out
       clear Hm
       have m0:=hEC hm_ 0
       have m1:=hEC hm_ 1
       have m2:=hEC hm_ 2
       have ml:=lBk hm_
       have Hm:=Lib.hid hm_
       clear hm_
       have Hf2:=Lib.hid (Hf1.out.trans0 hf)
       clear hf hg2 Hf1 e0 e1 e2
       go_wp2
       refine Strict.intro rfl ?_
       go_wp2
       go_ret
       exact⟨ret_bool' (rgt_false hlt (HA.out.trans (by simp ;omega))).symm,by have:=Hf2.out;(repeat first|exact Fr.refl _ _|assumption|apply Fr.n|apply Fr.d|apply Fr.a|refine Fr.s ?_ (.inr (by simp;try omega)) _)⟩
      ·have hd1:decide (st<1)=false:=by simpa using h1
       by_cases h8:st ≥ 8
       ·have hd8:decide (st ≥ 8)=true:=by simpa using h8
        go_wp2
        (refine wRT (by kernel_rfl) (by kernel_rfl) ?_)
        go_wp2_with fail
        refine (HAT.out _).mono ?_
        rintro e w1 ⟨rfl,hg1⟩
        have hf:=hg1.fr
        have hm_:=(hf.block (wr.heap.size) (by first|(simp;done)|(simp;omega)) (by simp)).trans (show _=some (.cells #[.int .i64 x,.int .i64 y,.int .i64 st] 75 (0,0)) by (repeat first|rw [if_pos (by omega)]|rw [if_neg (by omega)]|rw [hDR]|rw [hDN]|rw [hAz]|rw [hSz]|rw [hAC]|rw [hSC]|rw [oMS]|rw [uPC]|rw [lSZ]|rw [lSS]|rfl))
        have m0:=hEC hm_ 0
        have m1:=hEC hm_ 1
        have m2:=hEC hm_ 2
        have ml:=lBk hm_
        have Hm:=Lib.hid hm_
        clear hm_
        have Hf1:=Lib.hid (Fr.trans0 (by have:=Hf.out;(repeat first|exact Fr.refl _ _|assumption|apply Fr.n|apply Fr.d|apply Fr.a|refine Fr.s ?_ (.inr (by simp;try omega)) _)) hf:Fr [] w w1)
        clear hf hg1
        go_wp2_with fail
        refine (HPL.out _).mono ?_
        rintro e w2 ⟨rfl,hg2⟩
        have hf:=hg2.fr
        (try clear m0)
        (try clear m1)
        (try clear m2)
        (try clear ml)
        have hm_:=(hf.block _ (lBk Hm.out) (by simp)).trans Hm.out
        clear Hm
        have m0:=hEC hm_ 0
        have m1:=hEC hm_ 1
        have m2:=hEC hm_ 2
        have ml:=lBk hm_
        have Hm:=Lib.hid hm_
        clear hm_
        have Hf2:=Lib.hid (Hf1.out.trans0 hf)
        clear hf hg2 Hf1 e0 e1 e2
        go_wp2
        refine Strict.intro rfl ?_
        go_wp2
        go_ret
        exact⟨ret_bool' (rgt_false hlt (HA.out.trans (by simp ;omega))).symm,by have:=Hf2.out;(repeat first|exact Fr.refl _ _|assumption|apply Fr.n|apply Fr.d|apply Fr.a|refine Fr.s ?_ (.inr (by simp;try omega)) _)⟩
       ·have hd8:decide (st ≥ 8)=false:=by simpa using h8
        cases be with
        | true =>
         simp only [Bool.not_true] at hcb
         go_wp2
         (refine wRT (by kernel_rfl) (by kernel_rfl) ?_)
         go_wp2_with fail
         refine (HAT.out _).mono ?_
         rintro e w1 ⟨rfl,hg1⟩
         have hf:=hg1.fr
         have hm_:=(hf.block (wr.heap.size) (by first|(simp;done)|(simp;omega)) (by simp)).trans (show _=some (.cells #[.int .i64 x,.int .i64 y,.int .i64 st] 75 (0,0)) by (repeat first|rw [if_pos (by omega)]|rw [if_neg (by omega)]|rw [hDR]|rw [hDN]|rw [hAz]|rw [hSz]|rw [hAC]|rw [hSC]|rw [oMS]|rw [uPC]|rw [lSZ]|rw [lSS]|rfl))
         have m0:=hEC hm_ 0
         have m1:=hEC hm_ 1
         have m2:=hEC hm_ 2
         have ml:=lBk hm_
         have Hm:=Lib.hid hm_
         clear hm_
         have Hf1:=Lib.hid (Fr.trans0 (by have:=Hf.out;(repeat first|exact Fr.refl _ _|assumption|apply Fr.n|apply Fr.d|apply Fr.a|refine Fr.s ?_ (.inr (by simp;try omega)) _)) hf:Fr [] w w1)
         clear hf hg1
         go_wp2_with fail
         refine (HPL.out _).mono ?_
         rintro e w2 ⟨rfl,hg2⟩
         have hf:=hg2.fr
         (try clear m0)
         (try clear m1)
         (try clear m2)
         (try clear ml)
         have hm_:=(hf.block _ (lBk Hm.out) (by simp)).trans Hm.out
         clear Hm
         have m0:=hEC hm_ 0
         have m1:=hEC hm_ 1
         have m2:=hEC hm_ 2
         have ml:=lBk hm_
         have Hm:=Lib.hid hm_
         clear hm_
         have Hf2:=Lib.hid (Hf1.out.trans0 hf)
         clear hf hg2 Hf1 e0 e1 e2
         obtain⟨g',off',he,_,e3,e4,e5⟩:=(Hl.out.fr Hf2.out).cell Hq.out
         cases he
         simp only at e3 e4 e5
         go_wp2_with fail
         refine (HOR.out _).mono ?_
         rintro e w3 ⟨rfl,hg3⟩
         have Hf2:=Lib.hid (Fr.trans0 (by have:=Hf2.out;(repeat first|exact Fr.refl _ _|assumption|apply Fr.n|apply Fr.d|apply Fr.a|refine Fr.s ?_ (.inr (by simp;try omega)) _)) hg3.fr:Fr [] w w3)
         clear hg3
         go_wp2
         refine Strict.intro rfl ?_
         go_wp2
         go_roundw
         case rel =>
          refine⟨k+1+1,by go_num,by omega,fun j hj=>?_,by have:=Hf2.out;(repeat first|exact Fr.refl _ _|assumption|apply Fr.n|apply Fr.d|apply Fr.a|refine Fr.s ?_ (.inr (by simp;try omega)) _)⟩
          rcases Nat.lt_or_ge j (k+1) with h|h
          ·exact Hk.out j h
          ·obtain rfl:j=k+1:=by omega
           exact HA.out.trans (by simp ;omega)
         case measure=>simp [intOf];omega
        | false =>
         simp only [Bool.not_false] at hcb
         go_wp2
         (refine wRT (by kernel_rfl) (by kernel_rfl) ?_)
         go_wp2_with fail
         refine (HAT.out _).mono ?_
         rintro e w1 ⟨rfl,hg1⟩
         have hf:=hg1.fr
         have hm_:=(hf.block (wr.heap.size) (by first|(simp;done)|(simp;omega)) (by simp)).trans (show _=some (.cells #[.int .i64 x,.int .i64 y,.int .i64 st] 75 (0,0)) by (repeat first|rw [if_pos (by omega)]|rw [if_neg (by omega)]|rw [hDR]|rw [hDN]|rw [hAz]|rw [hSz]|rw [hAC]|rw [hSC]|rw [oMS]|rw [uPC]|rw [lSZ]|rw [lSS]|rfl))
         have m0:=hEC hm_ 0
         have m1:=hEC hm_ 1
         have m2:=hEC hm_ 2
         have ml:=lBk hm_
         have Hm:=Lib.hid hm_
         clear hm_
         have Hf1:=Lib.hid (Fr.trans0 (by have:=Hf.out;(repeat first|exact Fr.refl _ _|assumption|apply Fr.n|apply Fr.d|apply Fr.a|refine Fr.s ?_ (.inr (by simp;try omega)) _)) hf:Fr [] w w1)
         clear hf hg1
         go_wp2_with fail
         refine (HPL.out _).mono ?_
         rintro e w2 ⟨rfl,hg2⟩
         have hf:=hg2.fr
         (try clear m0)
         (try clear m1)
         (try clear m2)
         (try clear ml)
         have hm_:=(hf.block _ (lBk Hm.out) (by simp)).trans Hm.out
         clear Hm
         have m0:=hEC hm_ 0
         have m1:=hEC hm_ 1
         have m2:=hEC hm_ 2
         have ml:=lBk hm_
         have Hm:=Lib.hid hm_
         clear hm_
         have Hf2:=Lib.hid (Hf1.out.trans0 hf)
         clear hf hg2 Hf1 e0 e1 e2
         obtain⟨g',off',he,_,e3,e4,e5⟩:=(Hl.out.fr Hf2.out).cell Hq.out
         cases he
         simp only at e3 e4 e5
         go_wp2_with fail
         refine (HOR.out _).mono ?_
         rintro e w3 ⟨rfl,hg3⟩
         have Hf2:=Lib.hid (Fr.trans0 (by have:=Hf2.out;(repeat first|exact Fr.refl _ _|assumption|apply Fr.n|apply Fr.d|apply Fr.a|refine Fr.s ?_ (.inr (by simp;try omega)) _)) hg3.fr:Fr [] w w3)
         clear hg3
         go_wp2
         refine Strict.intro rfl ?_
         go_wp2
         go_ret
         exact⟨ret_bool' (rgt_false hlt (HA.out.trans (by simp ))).symm,by have:=Hf2.out;(repeat first|exact Fr.refl _ _|assumption|apply Fr.n|apply Fr.d|apply Fr.a|refine Fr.s ?_ (.inr (by simp;try omega)) _)⟩
   ·obtain rfl:k=l.length:=by omega
    go_wp2
    go_ret
    exact⟨ret_bool' (rgt_true h5 Hk.out).symm,Hf.out⟩
 ·have hr:rightP l=false:=by unfold rightP;rw [decide_eq_false h5,Bool.false_and]
  rw [hr]
  have hd5:decide (((l.length:Nat):Int) > 5000)=true:=by simp;omega
  go_enter Tryz.func62,Tryz.ntmps62
  go_wp2
  go_ret
  exact⟨rfl,by (repeat first|exact Fr.refl _ _|assumption|apply Fr.n|apply Fr.d|apply Fr.a|refine Fr.s ?_ (.inr (by simp;try omega)) _)⟩
end Go.Proofs.YtdanghnadbkhfaaGreat
end
section
namespace Go.Proofs
open Go.Shelf
def Tryz.pdqCell_ren:Go.Shelf.Ren:=⟨fun|14=>115|20=>123|21=>124|22=>125|23=>126|24=>127|25=>128|26=>129|27=>130|46=>136|47=>137|48=>138|49=>139|50=>140|15=>116|57=>142|28=>131|29=>132|n=>n,fun|24=>75|22=>50|3=>3|25=>166|4=>4|0=>0|46=>192|45=>191|50=>114|66=>201|39=>161|55=>110|70=>205|76=>208|77=>209|53=>106|5=>5|9=>9|n=>n,fun|n=>n⟩
theorem Tryz.pdqCell:Go.Proofs.SlLaysF0.n14 Tryz.prog Tryz.pdqCell_ren:={
 mixed:=by kernel_rfl
 f14:=⟨Tryz.f115.name,by decide,Tryz.func115.trans (congrArg some (by kernel_rfl))⟩
 f15:=Tryz.func116.trans (congrArg some (by kernel_rfl))
 f20:=⟨Tryz.f123.name,by decide,Tryz.func123.trans (congrArg some (by kernel_rfl))⟩
 f21:=⟨Tryz.f124.name,by decide,Tryz.func124.trans (congrArg some (by kernel_rfl))⟩
 f22:=⟨Tryz.f125.name,by decide,Tryz.func125.trans (congrArg some (by kernel_rfl))⟩
 f23:=⟨Tryz.f126.name,by decide,Tryz.func126.trans (congrArg some (by kernel_rfl))⟩
 f24:=⟨Tryz.f127.name,by decide,Tryz.func127.trans (congrArg some (by kernel_rfl))⟩
 f25:=⟨Tryz.f128.name,by decide,Tryz.func128.trans (congrArg some (by kernel_rfl))⟩
 f26:=⟨Tryz.f129.name,by decide,Tryz.func129.trans (congrArg some (by kernel_rfl))⟩
 f27:=⟨Tryz.f130.name,by decide,Tryz.func130.trans (congrArg some (by kernel_rfl))⟩
 f28:=Tryz.func131.trans (congrArg some (by kernel_rfl))
 f29:=Tryz.func132.trans (congrArg some (by kernel_rfl))
 f46:=⟨Tryz.f136.name,by decide,Tryz.func136.trans (congrArg some (by kernel_rfl))⟩
 f47:=Tryz.func137.trans (congrArg some (by kernel_rfl))
 f48:=Tryz.func138.trans (congrArg some (by kernel_rfl))
 f49:=⟨Tryz.f139.name,by decide,Tryz.func139.trans (congrArg some (by kernel_rfl))⟩
 f50:=⟨Tryz.f140.name,by decide,Tryz.func140.trans (congrArg some (by kernel_rfl))⟩
 f57:=⟨Tryz.f142.name,by decide,Tryz.func142.trans (congrArg some (by kernel_rfl))⟩
 t0:=Tryz.underlying0
 a0:=Tryz.isAgg0
 z0:=Tryz.sizeOf0
 v0:=Tryz.zeroValue0
 t3:=Tryz.underlying3
 a3:=Tryz.isAgg3
 z3:=Tryz.sizeOf3
 v3:=Tryz.zeroValue3
 t4:=Tryz.underlying4
 a4:=Tryz.isAgg4
 z4:=Tryz.sizeOf4
 v4:=Tryz.zeroValue4
 t5:=Tryz.underlying5
 a5:=Tryz.isAgg5
 z5:=Tryz.sizeOf5
 v5:=Tryz.zeroValue5
 t9:=Tryz.underlying9
 a9:=Tryz.isAgg9
 z9:=Tryz.sizeOf9
 v9:=Tryz.zeroValue9
 t22:=Tryz.underlying50
 a22:=Tryz.isAgg50
 z22:=Tryz.sizeOf50
 v22:=Tryz.zeroValue50
 t25:=Tryz.underlying166
 a25:=Tryz.isAgg166
 z25:=Tryz.sizeOf166
 v25:=Tryz.zeroValue166
 t39:=Tryz.underlying161
 a39:=Tryz.isAgg161
 z39:=Tryz.sizeOf161
 v39:=Tryz.zeroValue161
 t45:=Tryz.underlying191
 a45:=Tryz.isAgg191
 z45:=Tryz.sizeOf191
 v45:=Tryz.zeroValue191
 t46:=Tryz.underlying192
 a46:=Tryz.isAgg192
 z46:=Tryz.sizeOf192
 v46:=Tryz.zeroValue192
 t50:=Tryz.underlying114
 a50:=Tryz.isAgg114
 z50:=Tryz.sizeOf114
 v50:=Tryz.zeroValue114
 t53:=Tryz.underlying106
 a53:=Tryz.isAgg106
 z53:=Tryz.sizeOf106
 v53:=Tryz.zeroValue106
 t55:=Tryz.underlying110
 a55:=Tryz.isAgg110
 z55:=Tryz.sizeOf110
 v55:=Tryz.zeroValue110
 t66:=Tryz.underlying201
 a66:=Tryz.isAgg201
 z66:=Tryz.sizeOf201
 v66:=Tryz.zeroValue201
 t70:=Tryz.underlying205
 a70:=Tryz.isAgg205
 z70:=Tryz.sizeOf205
 v70:=Tryz.zeroValue205
 t76:=Tryz.underlying208
 a76:=Tryz.isAgg208
 z76:=Tryz.sizeOf208
 v76:=Tryz.zeroValue208
 t77:=Tryz.underlying209
 a77:=Tryz.isAgg209
 z77:=Tryz.sizeOf209
 v77:=Tryz.zeroValue209 }
def Tryz.lays125_ren:Go.Shelf.Ren:=⟨fun|125=>116|128=>131|129=>132|n=>n,fun|46=>161|3=>3|51=>106|53=>110|4=>4|5=>5|9=>9|n=>n,fun|n=>n⟩
theorem Tryz.lays125:Go.Proofs.Lays.n125 Tryz.prog Tryz.lays125_ren:={
 mixed:=by kernel_rfl
 f125:=Tryz.func116.trans (congrArg some (by kernel_rfl))
 f128:=Tryz.func131.trans (congrArg some (by kernel_rfl))
 f129:=Tryz.func132.trans (congrArg some (by kernel_rfl))
 t3:=Tryz.underlying3
 a3:=Tryz.isAgg3
 z3:=Tryz.sizeOf3
 v3:=Tryz.zeroValue3
 t4:=Tryz.underlying4
 a4:=Tryz.isAgg4
 z4:=Tryz.sizeOf4
 v4:=Tryz.zeroValue4
 t5:=Tryz.underlying5
 a5:=Tryz.isAgg5
 z5:=Tryz.sizeOf5
 v5:=Tryz.zeroValue5
 t9:=Tryz.underlying9
 a9:=Tryz.isAgg9
 z9:=Tryz.sizeOf9
 v9:=Tryz.zeroValue9
 t46:=Tryz.underlying161
 a46:=Tryz.isAgg161
 z46:=Tryz.sizeOf161
 v46:=Tryz.zeroValue161
 t51:=Tryz.underlying106
 a51:=Tryz.isAgg106
 z51:=Tryz.sizeOf106
 v51:=Tryz.zeroValue106
 t53:=Tryz.underlying110
 a53:=Tryz.isAgg110
 z53:=Tryz.sizeOf110
 v53:=Tryz.zeroValue110 }
end Go.Proofs
end
section
namespace Go.Proofs.Pt
open Go.Sort Go.Shelf
instance:Inhabited PC:=⟨z3⟩
end Go.Proofs.Pt
namespace Go.Proofs.YtdanghnadbkhfaaGreat
open Go Go.RowKit Rg Hp Pt Go.Sort Go.Shelf
def pcE (c:PC):List Value:=[.int .i64 c.x,.int .i64 c.y,.int .i64 c.st]
theorem lt_bef (a b:PC):ltOf cmpQ a b=pBef a b:=by
 unfold ltOf cmpQ cmpJ pBef
 rw [Bool.eq_iff_iff]
 simp only [decide_eq_true_eq]
 by_cases h1:a.y<b.y
 ·simp [h1]
 ·by_cases h2:b.y<a.y
  ·simp [h1,h2];omega
  ·by_cases h3:a.x<b.x
   ·simp [h1,h2,h3];omega
   ·by_cases h4:b.x<a.x
    ·simp [h1,h2,h3,h4]
    ·simp [h1,h2,h3,h4]
theorem swo_bef:SWO (ltOf cmpQ) where
 irrefl x:=by rw [lt_bef];simp [pBef]
 trans x y z h1 h2:=by rw [lt_bef] at *;exact pBef_trans h1 h2
 ntrans x y z h1 h2:=by rw [lt_bef] at *;exact pBef_weak h2 h1
theorem flatP_get {q:List PC} {t:Nat} (h:t<q.length*3):(pcs q)[t]?=some ((flatK pcE 3 q.toArray)[t]!):=by
 rw [get_flatK _ _ _ _ (by simpa using h)]
 have hi:t / 3<q.length:=by omega
 have hq:q[t / 3]?=some q[t / 3]:=List.getElem?_eq_getElem hi
 have e:q.toArray[t / 3]! = q[t / 3]:=by simp [hi]
 rw [e]
 obtain⟨h0,h1,h2⟩:=pcs_get hq
 generalize q[t / 3]=c at h0 h1 h2 ⊢
 have:t % 3=0∨t % 3=1∨t % 3=2:=by omega
 rcases this with r|r|r<;>rw [r]
 ·rw [show t / 3*3=t by omega] at h0
  exact h0
 ·rw [show t / 3*3+1=t by omega] at h1
  exact h1
 ·rw [show t / 3*3+2=t by omega] at h2
  exact h2
theorem put_size (c:Array Value) (d:Array Value) (off:Nat):(putCells id off d c).size=c.size:=by simp [putCells]
theorem put_take {q:List PC} {c:Array Value} (h:q.length*3≤c.size):(putCells id 0 (flatK pcE 3 q.toArray) c).toList.take (q.length*3)=pcs q:=by
 apply List.ext_getElem?
 intro t
 rw [List.getElem?_take]
 by_cases ht:t<q.length*3
 ·rw [if_pos ht,flatP_get ht,Array.getElem?_toList]
  unfold putCells
  rw [Array.getElem?_mapIdx,Array.getElem?_eq_getElem (by omega)]
  simp [ht]
 ·rw [if_neg ht,List.getElem?_eq_none (by rw [pcs_len];omega)]
theorem put_heap {w:World} {g:Nat} {cur:Array Value} {e:TypeId} {fr:Nat×Nat} (d:Array PC) (n:Nat) (os:Array Obj) (h:w.heap[g]?=some (.cells cur e fr)) :
  (sortWorldK pcE 3 w g 0 n d os).heap[g]?=some (.cells (putCells id 0 (flatK pcE 3 d) cur) e fr)∧Fr [g] w (sortWorldK pcE 3 w g 0 n d os):=by
 have hg:=(Array.getElem?_eq_some_iff.1 h).1
 have hh:∀ k,k<w.heap.size→(sortWorldK pcE 3 w g 0 n d os).heap[k]?=(w.heap.modify g (onCells (putCells id 0 (flatK pcE 3 d))))[k]?:=by
  intro k hk
  show ((w.heap.modify g (onCells (putCells id 0 (flatK pcE 3 d))))++os)[k]?=_
  rw [Array.getElem?_append_left (by simpa using hk)]
 constructor
 ·rw [hh g hg,Array.getElem?_modify,if_pos rfl,h]
  rfl
 ·refine⟨rfl,rfl,rfl,?_,fun k hk hn=>?_⟩
  ·show w.heap.size≤((w.heap.modify g (onCells (putCells id 0 (flatK pcE 3 d))))++os).size
   simp
  ·rw [hh k hk,Array.getElem?_modify,if_neg (by simp at hn;exact fun e=>hn e.symm)]
theorem cmpLays_p (blk off size:Nat) (w:World):CmpLays Tryz.prog 99 #[] pcE 3 cmpQ blk off size w :=
 fun _ _ _ _ x y=>(order_p x y _).mono fun _ _ ⟨he,hg⟩=>⟨he,hg.grow⟩
theorem sort_calls {w:World} {base:Nat} {v:Value} {m:List PC} (h:w.ownsRow base 75 3 v m.length (pcs m)) (hm:m.length<4611686018427387904) :
  Calls Tryz.prog 98 #[v,.func (.func 99) #[] #[]] w fun e w'=>e=.returned (.tuple #[])∧∃ q:List PC,q.Perm m∧Weak q∧w'.ownsRow base 75 3 v q.length (pcs q)∧Fr v.ownBlock.toList w w':=by
 have eg:∀ args w,(callFunc 99 args).run Tryz.prog w=.ok (.enter 99 args) w:=enters_of Tryz.func99 (by kernel_rfl) rfl
 have hL:∀ (n:Nat) (w:World),n<4611686018427387904→Calls Tryz.prog 116 #[.int .u64 (n:Int)] w fun e w'=>e=.returned (.int .i64 (Lib.bitLen n:Nat))∧w'=w:=by
  intro n w hn
  have h:=Any.bits_Len Tryz.lays125 (n:Int) w (by omega) (by omega)
  rwa [Int.toNat_natCast] at h
 have wr:∀ n:Nat,n<4611686018427387904→IntKind.u64.wrap (n:Int)=n:=by intro n hn;simp [IntKind.wrap,IntKind.bits,IntKind.signed];omega
 rcases h.2 with ⟨rfl,hn⟩|⟨g,cap,cur,rfl,hb,hg,hnc,hcm,hcs,ht⟩
 ·obtain rfl:=List.eq_nil_of_length_eq_zero hn
  have hp:∀ lim:Int,Calls Tryz.prog 115 #[.slice none 0 0,.int .i64 0,.int .i64 0,.int .i64 lim,.func (.func 99) #[] #[]] w fun e w'=>e=.returned (.tuple #[])∧w'=w:=fun lim=>AnyF.pdqsortCmpFunc_none { Tryz.pdqCell with } none 0 lim (.func (.func 99) #[] #[]) w
  have HP:=Lib.hid hp
  have HL:=Lib.hid (hL 0 w (by omega))
  have HO:=Lib.hid h
  clear hp hL wr h hn hm
  go_enter Tryz.func98,Tryz.ntmps98
  go_wp2_with (first|(go_at_call 116;refine HL.out.mono ?_;rintro e w' ⟨rfl,rfl⟩)|(go_at_call 115;refine (HP.out _).mono ?_;rintro e w' ⟨rfl,rfl⟩))
  go_end0
  exact⟨rfl,[],List.Perm.refl _,List.Pairwise.nil,HO.out,Fr.refl _ _⟩
 ·have hlt:=(Array.getElem?_eq_some_iff.1 hg).1
  have hsz:m.length*3≤cur.size:=by rw [hcs];exact Nat.mul_le_mul_right _ hnc
  have hH:HoldsK pcE 3 w g 0 m.toArray:=by
   intro j hj
   rw [size_flatK] at hj
   have hj:j<m.length*3:=by simpa using hj
   rw [Nat.zero_add]
   have h1:=flatP_get hj
   rw [← ht,List.getElem?_take,if_pos hj,Array.getElem?_toList] at h1
   exact⟨by rw [hEC hg j];exact h1,hEF hg j⟩
  have hlim:Lib.bitLen m.length<4611686018427387904:=Nat.lt_of_le_of_lt (Lib.bitLen_le m.length 62 (by omega) (by omega)) (by omega)
  have hp:Calls Tryz.prog 115 #[.slice (some ⟨g,0,none⟩) m.length cap,.int .i64 0,.int .i64 m.length,.int .i64 (Lib.bitLen m.length:Nat),.func (.func 99) #[] #[]] w fun e w'=>e=.returned (.tuple #[])∧SWK pcE 3 w g 0 (pdq (ltOf cmpQ) m.toArray 0 m.length (Lib.bitLen m.length) true true) w' :=
   AnyQ.pdqsortCmpFunc_all Tryz.pdqCell 3 Tryz.isAgg75 Tryz.sizeOf75 pcE cmpQ 99 #[] swo_bef g 0 cap m.toArray w eg (cmpLays_p g 0 _ w) ⟨fun _=>rfl,fun x v hv=>by simp [pcE] at hv;rcases hv with rfl|rfl|rfl<;>rfl,hH,hlt⟩ (m.toArray.size+1) 0 m.length (Lib.bitLen m.length) m.toArray w (by simp) rfl (SWK.start hH) (Nat.zero_le _) (by simp) (by simpa using hm) hlim (Or.inl rfl)
  have hcon:Calls Tryz.prog 98 #[.slice (some ⟨g,0,none⟩) m.length cap,.func (.func 99) #[] #[]] w fun e w'=>e=.returned (.tuple #[])∧∃ d' n os,PermIn 0 m.toArray.size m.toArray d'∧SortedIn (ltOf cmpQ) 0 m.toArray.size d'∧w'=sortWorldK pcE 3 w g 0 n d' os:=by
   have h5:=pdq_sorts (ltOf cmpQ) swo_bef m.toArray 0 m.toArray.size (Lib.bitLen m.length) true true (Nat.zero_le _) (Nat.le_refl _) (Or.inl rfl)
   have H5:=Lib.hid h5
   have HP:=Lib.hid hp
   have HL:=Lib.hid (hL m.length w hm)
   have hw:=wr m.length hm
   clear hp hL wr h5 hH eg h hlim hsz hlt hg hcs ht hnc hcm hb
   go_enter Tryz.func98,Tryz.ntmps98
   go_wp2_with (first|(go_at_call 116;refine HL.out.mono ?_;rintro e w' ⟨rfl,rfl⟩)|(go_at_call 115;refine HP.out.mono ?_;rintro e w' ⟨rfl,n,os,rfl⟩))
   go_end0
   have h6:=H5.out
   rw [show m.toArray.size=m.length by simp] at h6
   exact⟨rfl,_,n,os,by simpa using h6.1,by simpa using h6.2,rfl⟩
  refine Calls.mono hcon ?_
  rintro e w' ⟨rfl,d',n,os,hp,hs,rfl⟩
  obtain⟨p1,_,p3⟩:=hp
  have hl:d'.toList.length=m.length:=by simpa using p1
  have hperm:d'.toList.Perm m:=by
   have:=p3
   rw [Array.extract_eq_self_of_le (by omega),Array.extract_eq_self_of_le (by omega)] at this
   simpa using this
  obtain⟨hh,hf⟩:=put_heap (e:=75) d' n os hg
  refine⟨rfl,d'.toList,hperm,?_,?_,?_⟩
  ·refine List.pairwise_iff_getElem.2 fun i j hi hj hij=>?_
   have:=hs i j (by omega) hij (by simpa [hl] using hj)
   rw [lt_bef] at this
   simp only [Array.length_toList] at hi hj
   rw [getElem!_pos d' i hi,getElem!_pos d' j hj] at this
   simpa using this
  ·refine⟨pcs_len _,.inr ⟨g,cap,_,by rw [hl],hb,hh,by omega,hcm,by rw [put_size,hcs],?_⟩⟩
   have:=put_take (q:=d'.toList) (c:=cur) (by rw [hl];exact hsz)
   simpa using this
  ·exact hf.mono fun x hx=>by simp at hx;subst hx;simp [Value.ownBlock]
end Go.Proofs.YtdanghnadbkhfaaGreat
end
