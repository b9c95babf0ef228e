/- Own texts of this claim, part 35: no condition. -/
import Derived.IntWalk
import Derived.Test.YtdanghnadbkhfaaGreatZG33
import Derived.Test.YtdanghnadbkhfaaGreatZG24
import Derived.Test.YtdanghnadbkhfaaGreatZG8
import Derived.Test.YtdanghnadbkhfaaGreatZG16
import Derived.Test.YtdanghnadbkhfaaGreatZG9
import Derived.Test.YtdanghnadbkhfaaGreatZG23
import Derived.Test.YtdanghnadbkhfaaGreatZG10
set_option linter.unusedVariables false
set_option linter.unusedSimpArgs false
section
namespace Go.Proofs.YtdanghnadbkhfaaGreat
open Go Go.RowKit Rg Mp Hp Qs Ev Bn
def BvIn (w:World) (e:BV):Prop:=BigIn w false (zd (e.1:Int)) e.2.1 e.2.2
structure Four (w:World) (f:FV):Prop where
 a:BvIn w f.2.1
 b:BvIn w f.2.2.1
 c:BvIn w f.2.2.2.1
 d:BvIn w f.2.2.2.2
 la:Zok (f.2.1.1:Int)
 lb:Zok (f.2.2.1.1:Int)
 lc:Zok (f.2.2.2.1.1:Int)
 ld:Zok (f.2.2.2.2.1:Int)
theorem Four.fr {w w':World} {f:FV} (h:Four w f) (hf:Fr [] w w'):Four w' f:=⟨h.a.fr hf,h.b.fr hf,h.c.fr hf,h.d.fr hf,h.la,h.lb,h.lc,h.ld⟩
theorem zd_inj {a b:Nat}:zd (a:Int)=zd (b:Int)↔a=b:=by
 constructor
 ·intro h
  have h1:=zd_val (a:Int)
  have h2:=zd_val (b:Int)
  rw [h,h2] at h1
  simpa using h1.symm
 ·rintro rfl;rfl
theorem equal_n {w:World} {x y:BV} (hx:BvIn w x) (hy:BvIn w y) (hz:Zok (x.1:Int)) :
  Calls Tryz.prog 15 #[bvV x,bvV y] w fun e w'=>e=.returned (.bool (decide (x.1=y.1)))∧Fr [] w w':=by
 have:=equal_q hx hy (by have:=zd_len hz;omega)
 rwa [show decide (false=false∧zd (x.1:Int)=zd (y.1:Int))=decide (x.1=y.1) by rw [decide_eq_decide];simp [zd_inj]] at this
def sameB (f g:FV):Nat→Bool
 | 0=>true
 | 1=>decide (f.2.1.1=g.2.1.1)
 | 2=>decide (f.2.1.1=g.2.1.1) && decide (f.2.2.1.1=g.2.2.1.1)
 | 3=>decide (f.2.1.1=g.2.1.1) && decide (f.2.2.1.1=g.2.2.1.1) && decide (f.2.2.2.1.1=g.2.2.2.1.1)
 | _=>decide (f.2.1.1=g.2.1.1) && decide (f.2.2.1.1=g.2.2.1.1) && decide (f.2.2.2.1.1=g.2.2.2.1.1) && decide (f.2.2.2.2.1=g.2.2.2.2.1)
set_option maxHeartbeats 8000000 in
theorem same_q {w:World} {f g:FV} (hf:Four w f) (hg:Four w g) :
  Calls Tryz.prog 16 #[.agg (lcells f),.agg (lcells g)] w fun e w'=>e=.returned (.bool (sameB f g 4))∧Fr [] w w':=by
 have HF:=Lib.hid hf
 have HG:=Lib.hid hg
 clear hf hg
 obtain⟨r,hr⟩:∃ r,sameB f g 4=r:=⟨_,rfl⟩
 rw [hr]
 have HR:=Lib.hid hr
 clear hr
 obtain⟨ok,f0,f1,f2,f3⟩:=f
 obtain⟨ok',g0,g1,g2,g3⟩:=g
 simp only [lcells]
 go_enter Tryz.func16,Tryz.ntmps16
 go_wp2
 go_loopw [6] (fun x wr=>∃ z:Int,x=.int .i64 z∧At5 (fun k=>sameB (ok,f0,f1,f2,f3) (ok',g0,g1,g2,g3) k=true∧Fr [] w wr∧wr.heap[w.heap.size]?=some (.cells (lcells (ok,f0,f1,f2,f3)) 42 (0,0))∧wr.heap[w.heap.size+1]?=some (.cells (lcells (ok',g0,g1,g2,g3)) 42 (0,0))) z) (fun x _=>4 - (intOf x).toNat)
 case atStart=>exact⟨0,rfl,.inl ⟨rfl,rfl,by (repeat first|exact Fr.refl _ _|assumption|apply Fr.n|apply Fr.d|apply Fr.a|refine Fr.s ?_ (.inr (by simp;try omega)) _),by simp only [lcells];(repeat first|rw [if_pos (by omega)]|rw [if_neg (by omega)]|rw [hDR]|rw [hDN]|rw [hAz]|rw [hSz]|rw [hAC]|rw [hSC]|rw [oMS]|rw [uPC]|rw [lSZ]|rw [lSS]|rfl),by simp only [lcells];(repeat first|rw [if_pos (by omega)]|rw [if_neg (by omega)]|rw [hDR]|rw [hDN]|rw [hAz]|rw [hSz]|rw [hAC]|rw [hSC]|rw [oMS]|rw [uPC]|rw [lSZ]|rw [lSS]|rfl)⟩⟩
 case round =>
  obtain⟨z,rfl,hz⟩:=hrel
  rcases hz with ⟨rfl,hz⟩|⟨rfl,hz⟩|⟨rfl,hz⟩|⟨rfl,hz⟩|⟨rfl,hz⟩
  ·
   obtain⟨hb,hf,h1,h2⟩:=hz
   have Hf:=Lib.hid hf
   have Hb:=Lib.hid hb
   have HH:=Lib.hid (And.intro h1 h2)
   simp only [lcells] at h1 h2
   have x0:=hEC h1 0
   have x1:=hEC h1 1
   have xl:=lBk h1
   have y0:=hEC h2 0
   have y1:=hEC h2 1
   have yl:=lBk h2
   clear hb hf h1 h2
   have HE:=Lib.hid (fun w1 (hf:Fr [] w w1)=>equal_n (HF.out.fr hf).a (HG.out.fr hf).a HF.out.la)
   simp only [bvV] at HE
   cases hd:decide ((f0:BV).1=(g0:BV).1) with
   | true =>
    rw [hd] at HE
    have HD:=Lib.hid hd
    clear hd
    go_wp2
    (refine wRT (by kernel_rfl) (by kernel_rfl) ?_)
    go_wp2_with fail
    refine (HE.out _ (by have:=Hf.out;(repeat first|exact Fr.refl _ _|assumption|apply Fr.n|apply Fr.d|apply Fr.a|refine Fr.s ?_ (.inr (by simp;try omega)) _))).mono ?_
    rintro e w3 ⟨rfl,hf3⟩
    have hfw:Fr [] wr w3:=Fr.trans0 (by (repeat first|exact Fr.refl _ _|assumption|apply Fr.n|apply Fr.d|apply Fr.a|refine Fr.s ?_ (.inr (by simp;try omega)) _)) hf3
    have HH3:=Lib.hid (And.intro ((hfw.block _ xl (by simp)).trans HH.out.1) ((hfw.block _ yl (by simp)).trans HH.out.2))
    have Hf3:=Lib.hid (Hf.out.trans0 hfw)
    clear hfw hf3 x0 x1 xl y0 y1 yl
    go_wp2
    refine Strict.intro rfl ?_
    go_wp2
    go_roundw
    case rel=>exact⟨1,rfl,.inr (.inl ⟨rfl,by have:=Hb.out;have:=HD.out;simp only [sameB] at *;simp_all,Hf3.out,HH3.out.1,HH3.out.2⟩)⟩
    case measure=>simp [intOf]
   | false =>
    rw [hd] at HE
    have HD:=Lib.hid hd
    clear hd
    go_wp2
    (refine wRT (by kernel_rfl) (by kernel_rfl) ?_)
    go_wp2_with fail
    refine (HE.out _ (by have:=Hf.out;(repeat first|exact Fr.refl _ _|assumption|apply Fr.n|apply Fr.d|apply Fr.a|refine Fr.s ?_ (.inr (by simp;try omega)) _))).mono ?_
    rintro e w3 ⟨rfl,hf3⟩
    have Hf3:=Lib.hid (Fr.trans0 (by have:=Hf.out;(repeat first|exact Fr.refl _ _|assumption|apply Fr.n|apply Fr.d|apply Fr.a|refine Fr.s ?_ (.inr (by simp;try omega)) _)) hf3:Fr [] w w3)
    clear hf3 x0 x1 xl y0 y1 yl
    go_wp2
    refine Strict.intro rfl ?_
    go_wp2
    go_ret
    exact⟨ret_b (by have:=HD.out;rw [← HR.out];simp only [sameB];simp_all),by have:=Hf3.out;(repeat first|exact Fr.refl _ _|assumption|apply Fr.n|apply Fr.d|apply Fr.a|refine Fr.s ?_ (.inr (by simp;try omega)) _)⟩
  ·
   obtain⟨hb,hf,h1,h2⟩:=hz
   have Hf:=Lib.hid hf
   have Hb:=Lib.hid hb
   have HH:=Lib.hid (And.intro h1 h2)
   simp only [lcells] at h1 h2
   have x0:=hEC h1 2
   have x1:=hEC h1 3
   have xl:=lBk h1
   have y0:=hEC h2 2
   have y1:=hEC h2 3
   have yl:=lBk h2
   clear hb hf h1 h2
   have HE:=Lib.hid (fun w1 (hf:Fr [] w w1)=>equal_n (HF.out.fr hf).b (HG.out.fr hf).b HF.out.lb)
   simp only [bvV] at HE
   cases hd:decide ((f1:BV).1=(g1:BV).1) with
   | true =>
    rw [hd] at HE
    have HD:=Lib.hid hd
    clear hd
    go_wp2
    (refine wRT (by kernel_rfl) (by kernel_rfl) ?_)
    go_wp2_with fail
    refine (HE.out _ (by have:=Hf.out;(repeat first|exact Fr.refl _ _|assumption|apply Fr.n|apply Fr.d|apply Fr.a|refine Fr.s ?_ (.inr (by simp;try omega)) _))).mono ?_
    rintro e w3 ⟨rfl,hf3⟩
    have hfw:Fr [] wr w3:=Fr.trans0 (by (repeat first|exact Fr.refl _ _|assumption|apply Fr.n|apply Fr.d|apply Fr.a|refine Fr.s ?_ (.inr (by simp;try omega)) _)) hf3
    have HH3:=Lib.hid (And.intro ((hfw.block _ xl (by simp)).trans HH.out.1) ((hfw.block _ yl (by simp)).trans HH.out.2))
    have Hf3:=Lib.hid (Hf.out.trans0 hfw)
    clear hfw hf3 x0 x1 xl y0 y1 yl
    go_wp2
    refine Strict.intro rfl ?_
    go_wp2
    go_roundw
    case rel=>exact⟨2,rfl,.inr (.inr (.inl ⟨rfl,by have:=Hb.out;have:=HD.out;simp only [sameB] at *;simp_all,Hf3.out,HH3.out.1,HH3.out.2⟩))⟩
    case measure=>simp [intOf]
   | false =>
    rw [hd] at HE
    have HD:=Lib.hid hd
    clear hd
    go_wp2
    (refine wRT (by kernel_rfl) (by kernel_rfl) ?_)
    go_wp2_with fail
    refine (HE.out _ (by have:=Hf.out;(repeat first|exact Fr.refl _ _|assumption|apply Fr.n|apply Fr.d|apply Fr.a|refine Fr.s ?_ (.inr (by simp;try omega)) _))).mono ?_
    rintro e w3 ⟨rfl,hf3⟩
    have Hf3:=Lib.hid (Fr.trans0 (by have:=Hf.out;(repeat first|exact Fr.refl _ _|assumption|apply Fr.n|apply Fr.d|apply Fr.a|refine Fr.s ?_ (.inr (by simp;try omega)) _)) hf3:Fr [] w w3)
    clear hf3 x0 x1 xl y0 y1 yl
    go_wp2
    refine Strict.intro rfl ?_
    go_wp2
    go_ret
    exact⟨ret_b (by have:=HD.out;rw [← HR.out];simp only [sameB];simp_all),by have:=Hf3.out;(repeat first|exact Fr.refl _ _|assumption|apply Fr.n|apply Fr.d|apply Fr.a|refine Fr.s ?_ (.inr (by simp;try omega)) _)⟩
  ·
   obtain⟨hb,hf,h1,h2⟩:=hz
   have Hf:=Lib.hid hf
   have Hb:=Lib.hid hb
   have HH:=Lib.hid (And.intro h1 h2)
   simp only [lcells] at h1 h2
   have x0:=hEC h1 4
   have x1:=hEC h1 5
   have xl:=lBk h1
   have y0:=hEC h2 4
   have y1:=hEC h2 5
   have yl:=lBk h2
   clear hb hf h1 h2
   have HE:=Lib.hid (fun w1 (hf:Fr [] w w1)=>equal_n (HF.out.fr hf).c (HG.out.fr hf).c HF.out.lc)
   simp only [bvV] at HE
   cases hd:decide ((f2:BV).1=(g2:BV).1) with
   | true =>
    rw [hd] at HE
    have HD:=Lib.hid hd
    clear hd
    go_wp2
    (refine wRT (by kernel_rfl) (by kernel_rfl) ?_)
    go_wp2_with fail
    refine (HE.out _ (by have:=Hf.out;(repeat first|exact Fr.refl _ _|assumption|apply Fr.n|apply Fr.d|apply Fr.a|refine Fr.s ?_ (.inr (by simp;try omega)) _))).mono ?_
    rintro e w3 ⟨rfl,hf3⟩
    have hfw:Fr [] wr w3:=Fr.trans0 (by (repeat first|exact Fr.refl _ _|assumption|apply Fr.n|apply Fr.d|apply Fr.a|refine Fr.s ?_ (.inr (by simp;try omega)) _)) hf3
    have HH3:=Lib.hid (And.intro ((hfw.block _ xl (by simp)).trans HH.out.1) ((hfw.block _ yl (by simp)).trans HH.out.2))
    have Hf3:=Lib.hid (Hf.out.trans0 hfw)
    clear hfw hf3 x0 x1 xl y0 y1 yl
    go_wp2
    refine Strict.intro rfl ?_
    go_wp2
    go_roundw
    case rel=>exact⟨3,rfl,.inr (.inr (.inr (.inl ⟨rfl,by have:=Hb.out;have:=HD.out;simp only [sameB] at *;simp_all,Hf3.out,HH3.out.1,HH3.out.2⟩)))⟩
    case measure=>simp [intOf]
   | false =>
    rw [hd] at HE
    have HD:=Lib.hid hd
    clear hd
    go_wp2
    (refine wRT (by kernel_rfl) (by kernel_rfl) ?_)
    go_wp2_with fail
    refine (HE.out _ (by have:=Hf.out;(repeat first|exact Fr.refl _ _|assumption|apply Fr.n|apply Fr.d|apply Fr.a|refine Fr.s ?_ (.inr (by simp;try omega)) _))).mono ?_
    rintro e w3 ⟨rfl,hf3⟩
    have Hf3:=Lib.hid (Fr.trans0 (by have:=Hf.out;(repeat first|exact Fr.refl _ _|assumption|apply Fr.n|apply Fr.d|apply Fr.a|refine Fr.s ?_ (.inr (by simp;try omega)) _)) hf3:Fr [] w w3)
    clear hf3 x0 x1 xl y0 y1 yl
    go_wp2
    refine Strict.intro rfl ?_
    go_wp2
    go_ret
    exact⟨ret_b (by have:=HD.out;rw [← HR.out];simp only [sameB];simp_all),by have:=Hf3.out;(repeat first|exact Fr.refl _ _|assumption|apply Fr.n|apply Fr.d|apply Fr.a|refine Fr.s ?_ (.inr (by simp;try omega)) _)⟩
  ·
   obtain⟨hb,hf,h1,h2⟩:=hz
   have Hf:=Lib.hid hf
   have Hb:=Lib.hid hb
   have HH:=Lib.hid (And.intro h1 h2)
   simp only [lcells] at h1 h2
   have x0:=hEC h1 6
   have x1:=hEC h1 7
   have xl:=lBk h1
   have y0:=hEC h2 6
   have y1:=hEC h2 7
   have yl:=lBk h2
   clear hb hf h1 h2
   have HE:=Lib.hid (fun w1 (hf:Fr [] w w1)=>equal_n (HF.out.fr hf).d (HG.out.fr hf).d HF.out.ld)
   simp only [bvV] at HE
   cases hd:decide ((f3:BV).1=(g3:BV).1) with
   | true =>
    rw [hd] at HE
    have HD:=Lib.hid hd
    clear hd
    go_wp2
    (refine wRT (by kernel_rfl) (by kernel_rfl) ?_)
    go_wp2_with fail
    refine (HE.out _ (by have:=Hf.out;(repeat first|exact Fr.refl _ _|assumption|apply Fr.n|apply Fr.d|apply Fr.a|refine Fr.s ?_ (.inr (by simp;try omega)) _))).mono ?_
    rintro e w3 ⟨rfl,hf3⟩
    have hfw:Fr [] wr w3:=Fr.trans0 (by (repeat first|exact Fr.refl _ _|assumption|apply Fr.n|apply Fr.d|apply Fr.a|refine Fr.s ?_ (.inr (by simp;try omega)) _)) hf3
    have HH3:=Lib.hid (And.intro ((hfw.block _ xl (by simp)).trans HH.out.1) ((hfw.block _ yl (by simp)).trans HH.out.2))
    have Hf3:=Lib.hid (Hf.out.trans0 hfw)
    clear hfw hf3 x0 x1 xl y0 y1 yl
    go_wp2
    refine Strict.intro rfl ?_
    go_wp2
    go_roundw
    case rel=>exact⟨4,rfl,.inr (.inr (.inr (.inr ⟨rfl,by have:=Hb.out;have:=HD.out;simp only [sameB] at *;simp_all,Hf3.out,HH3.out.1,HH3.out.2⟩)))⟩
    case measure=>simp [intOf]
   | false =>
    rw [hd] at HE
    have HD:=Lib.hid hd
    clear hd
    go_wp2
    (refine wRT (by kernel_rfl) (by kernel_rfl) ?_)
    go_wp2_with fail
    refine (HE.out _ (by have:=Hf.out;(repeat first|exact Fr.refl _ _|assumption|apply Fr.n|apply Fr.d|apply Fr.a|refine Fr.s ?_ (.inr (by simp;try omega)) _))).mono ?_
    rintro e w3 ⟨rfl,hf3⟩
    have Hf3:=Lib.hid (Fr.trans0 (by have:=Hf.out;(repeat first|exact Fr.refl _ _|assumption|apply Fr.n|apply Fr.d|apply Fr.a|refine Fr.s ?_ (.inr (by simp;try omega)) _)) hf3:Fr [] w w3)
    clear hf3 x0 x1 xl y0 y1 yl
    go_wp2
    refine Strict.intro rfl ?_
    go_wp2
    go_ret
    exact⟨ret_b (by have:=HD.out;rw [← HR.out];simp only [sameB];simp_all),by have:=Hf3.out;(repeat first|exact Fr.refl _ _|assumption|apply Fr.n|apply Fr.d|apply Fr.a|refine Fr.s ?_ (.inr (by simp;try omega)) _)⟩
  ·obtain⟨hb,hf,_,_⟩:=hz
   have Hb:=Lib.hid (And.intro hb hf)
   clear hb hf
   go_wp2
   go_ret
   exact⟨ret_b (Hb.out.1.symm.trans HR.out),Hb.out.2⟩
end Go.Proofs.YtdanghnadbkhfaaGreat
end
section
namespace Go.Proofs.YtdanghnadbkhfaaGreat
open Go Go.RowKit Rg Hp Pt
theorem order_z (a b:Int) (w:World):Calls Tryz.prog 103 #[.int .i64 a,.int .i64 b] w fun e w'=>e=.returned (.int .i64 (cmpJ a b))∧w'=w:=by
 unfold cmpJ
 by_cases h:a<b
 ·rw [if_pos h]
  go_enter Tryz.func103,Tryz.ntmps103
  go_wp2
  go_ret
  exact⟨rfl,rfl⟩
 ·rw [if_neg h]
  by_cases h':b<a
  ·rw [if_pos h']
   go_enter Tryz.func103,Tryz.ntmps103
   go_wp2
   go_ret
   exact⟨rfl,rfl⟩
  ·rw [if_neg h']
   go_enter Tryz.func103,Tryz.ntmps103
   go_wp2
   go_ret
   exact⟨rfl,rfl⟩
theorem cmpJ_ne {a b:Int} (h:a≠b):cmpJ a b≠0:=by
 unfold cmpJ
 split
 ·omega
 ·split<;>omega
theorem cmpJ_zero {a b:Int}:cmpJ a b=0↔a=b:=by
 constructor
 ·intro h
  by_cases e:a=b
  ·exact e
  ·exact absurd h (cmpJ_ne e)
 ·rintro rfl;simp [cmpJ]
def CRel (l m:List PC) (B k:Nat):Prop:=k≤B∧l.take k=m.take k
def CmpPost (w:World) (l m:List PC) (e:Ending) (w':World):Prop:=∃ z,e=.returned (.int .i64 z)∧(z=0↔l=m)∧Fr [] w w'
theorem ne_at {l m:List PC} {i:Nat} {a b:PC} (ha:l[i]?=some a) (hb:m[i]?=some b) (h:a≠b):l≠m:=by
 rintro rfl
 exact h (Option.some.inj (ha.symm.trans hb))
set_option maxHeartbeats 8000000 in
set_option maxRecDepth 100000 in
theorem Compare_p {w:World} {l m:List PC} {a b:Option Addr} {ca cb:Nat} (hl:CellsAt w (.slice a l.length ca) l) (hm:CellsAt w (.slice b m.length cb) m) (h1:l.length≤60000) (h2:m.length≤60000) :
  Calls Tryz.prog 61 #[.slice a l.length ca,.slice b m.length cb] w (CmpPost w l m):=by
 have Hl:=Lib.hid hl
 have Hm:=Lib.hid hm
 clear hl hm
 obtain⟨A,hA⟩:∃ A,l.length=A:=⟨_,rfl⟩
 obtain⟨B,hB⟩:∃ B,m.length=B:=⟨_,rfl⟩
 rw [hA] at h1 Hl ⊢
 rw [hB] at h2 Hm ⊢
 have HL:=Lib.hid (And.intro hA hB)
 clear hA hB
 unfold CmpPost
 go_enter Tryz.func61,Tryz.ntmps61
 go_wp2
 go_loopw [5] (fun x wr=>∃ k:Nat,x=.int .i64 (k:Nat)∧k≤A∧CRel l m B k∧Fr [] w wr) (fun x _=>A - (intOf x).toNat)
 case atStart=>exact⟨0,rfl,by omega,⟨by omega,rfl⟩,Fr.refl _ _⟩
 case round =>
  obtain⟨k,rfl,hkA,⟨hkB,ht⟩,hf⟩:=hrel
  have Hf:=Lib.hid hf
  have Ht:=Lib.hid ht
  clear hf ht
  by_cases hla:k<A
  ·have hda:decide ((k:Int)<(A:Int))=true:=by simp;omega
   by_cases hlb:k<B
   ·have hdb:decide ((k:Int)<(B:Int))=true:=by simp;omega
    obtain⟨⟨x,y,st⟩,hp⟩:∃ p,l[k]?=some p:=⟨_,List.getElem?_eq_getElem (by rw [HL.out.1];exact hla)⟩
    obtain⟨⟨u,v,su⟩,hq⟩:∃ p,m[k]?=some p:=⟨_,List.getElem?_eq_getElem (by rw [HL.out.2];exact hlb)⟩
    obtain⟨g,off,rfl,hg,e0,e1,e2⟩:=(Hl.out.fr Hf.out).cell hp
    obtain⟨g',off',rfl,hg',e3,e4,e5⟩:=(Hm.out.fr Hf.out).cell hq
    simp only at e0 e1 e2 e3 e4 e5
    have Ha:=Lib.hid hp
    have Hb:=Lib.hid hq
    clear hp hq
    by_cases hy:y=v
    ·subst hy
     have hyb:(y != y)=false:=by simp
     by_cases hx:x=u
     ·subst hx
      have hxb:(x != x)=false:=by simp
      by_cases hs:st=su
      ·subst hs
       have hsb:(st != st)=false:=by simp
       go_wp2
       (refine wRT (by kernel_rfl) (by kernel_rfl) ?_)
       go_wp2
       refine Strict.intro rfl ?_
       go_wp2
       (refine wRT (by kernel_rfl) (by kernel_rfl) ?_)
       go_wp2
       refine Strict.intro rfl ?_
       go_wp2
       (refine wRT (by kernel_rfl) (by kernel_rfl) ?_)
       go_wp2
       refine Strict.intro rfl ?_
       have HLB:=Lib.hid hlb
       go_wp2
       go_roundw
       case rel =>
        refine⟨k+1,by go_num,by omega,⟨by have:=HLB.out;omega,?_⟩,by have:=Hf.out;(repeat first|exact Fr.refl _ _|assumption|apply Fr.n|apply Fr.d|apply Fr.a|refine Fr.s ?_ (.inr (by simp;try omega)) _)⟩
        rw [List.take_add_one,List.take_add_one,Ht.out,Ha.out,Hb.out]
       case measure=>simp [intOf];omega
      ·have HS1:=Lib.hid hs
       clear hs
       go_wp2
       (refine wRT (by kernel_rfl) (by kernel_rfl) ?_)
       go_wp2
       refine Strict.intro rfl ?_
       go_wp2
       (refine wRT (by kernel_rfl) (by kernel_rfl) ?_)
       go_wp2
       refine Strict.intro rfl ?_
       have hs:=HS1.out
       have HNE:=Lib.hid (And.intro (ne_at Ha.out Hb.out (by intro e;cases e;exact hs rfl)) (cmpJ_ne hs))
       have HO:=Lib.hid (order_z st su)
       generalize cmpJ st su=z at HNE HO
       have hnb:(st != su)=true:=by simpa using hs
       clear hs
       go_wp2
       (refine wRT (by kernel_rfl) (by kernel_rfl) ?_)
       go_wp2
       refine Strict.intro rfl ?_
       skip
       go_wp2
       (refine wRT (by kernel_rfl) (by kernel_rfl) ?_)
       go_wp2_with fail
       refine (HO.out _).mono ?_
       rintro e w3 ⟨rfl,rfl⟩
       go_wp2
       refine Strict.intro rfl ?_
       go_wp2
       go_ret
       exact⟨z,rfl,⟨fun h=>absurd h HNE.out.2,fun h=>absurd h HNE.out.1⟩,by have:=Hf.out;(repeat first|exact Fr.refl _ _|assumption|apply Fr.n|apply Fr.d|apply Fr.a|refine Fr.s ?_ (.inr (by simp;try omega)) _)⟩
     ·
      go_wp2
      (refine wRT (by kernel_rfl) (by kernel_rfl) ?_)
      go_wp2
      refine Strict.intro rfl ?_
      have HNE:=Lib.hid (And.intro (ne_at Ha.out Hb.out (by intro e;cases e;exact hx rfl)) (cmpJ_ne hx))
      have HO:=Lib.hid (order_z x u)
      generalize cmpJ x u=z at HNE HO
      have hnb:(x != u)=true:=by simpa using hx
      clear hx
      go_wp2
      (refine wRT (by kernel_rfl) (by kernel_rfl) ?_)
      go_wp2
      refine Strict.intro rfl ?_
      skip
      go_wp2
      (refine wRT (by kernel_rfl) (by kernel_rfl) ?_)
      go_wp2_with fail
      refine (HO.out _).mono ?_
      rintro e w3 ⟨rfl,rfl⟩
      go_wp2
      refine Strict.intro rfl ?_
      go_wp2
      go_ret
      exact⟨z,rfl,⟨fun h=>absurd h HNE.out.2,fun h=>absurd h HNE.out.1⟩,by have:=Hf.out;(repeat first|exact Fr.refl _ _|assumption|apply Fr.n|apply Fr.d|apply Fr.a|refine Fr.s ?_ (.inr (by simp;try omega)) _)⟩
    ·
     have HNE:=Lib.hid (And.intro (ne_at Ha.out Hb.out (by intro e;cases e;exact hy rfl)) (cmpJ_ne hy))
     have HO:=Lib.hid (order_z y v)
     generalize cmpJ y v=z at HNE HO
     have hnb:(y != v)=true:=by simpa using hy
     clear hy
     go_wp2
     (refine wRT (by kernel_rfl) (by kernel_rfl) ?_)
     go_wp2
     refine Strict.intro rfl ?_
     skip
     go_wp2
     (refine wRT (by kernel_rfl) (by kernel_rfl) ?_)
     go_wp2_with fail
     refine (HO.out _).mono ?_
     rintro e w3 ⟨rfl,rfl⟩
     go_wp2
     refine Strict.intro rfl ?_
     go_wp2
     go_ret
     exact⟨z,rfl,⟨fun h=>absurd h HNE.out.2,fun h=>absurd h HNE.out.1⟩,by have:=Hf.out;(repeat first|exact Fr.refl _ _|assumption|apply Fr.n|apply Fr.d|apply Fr.a|refine Fr.s ?_ (.inr (by simp;try omega)) _)⟩
   ·have hdb:decide ((k:Int)<(B:Int))=false:=by simp;omega
    have hne:l≠m:=by rintro rfl;have:=HL.out;omega
    have hAB:(A:Int)≠(B:Int):=by omega
    have HNE:=Lib.hid (And.intro hne (cmpJ_ne hAB))
    have HO:=Lib.hid (order_z (A:Int) (B:Int))
    generalize cmpJ (A:Int) (B:Int)=z at HNE HO
    clear hne hAB
    go_wp2_with fail
    refine (HO.out _).mono ?_
    rintro e w3 ⟨rfl,rfl⟩
    go_wp2
    go_ret
    exact⟨z,rfl,⟨fun h=>absurd h HNE.out.2,fun h=>absurd h HNE.out.1⟩,Hf.out⟩
  ·obtain rfl:k=A:=by omega
   have hda:decide ((k:Int)<(k:Int))=false:=by simp
   have HZ:=Lib.hid (show cmpJ (k:Int) (B:Int)=0↔l=m by
    rw [cmpJ_zero]
    constructor
    ·intro h
     have h:=Int.ofNat.inj h
     have h3:=Ht.out
     rw [List.take_of_length_le (by rw [HL.out.1];exact Nat.le_refl _),List.take_of_length_le (by rw [HL.out.2,← h];exact Nat.le_refl _)] at h3
     exact h3
    ·rintro rfl
     have:=HL.out;omega)
   have HO:=Lib.hid (order_z (k:Int) (B:Int))
   generalize cmpJ (k:Int) (B:Int)=z at HZ HO
   go_wp2_with fail
   refine (HO.out _).mono ?_
   rintro e w3 ⟨rfl,rfl⟩
   go_wp2
   go_ret
   exact⟨z,rfl,HZ.out,Hf.out⟩
theorem Same_p {w:World} {l m:List PC} {a b:Option Addr} {ca cb:Nat} (hl:CellsAt w (.slice a l.length ca) l) (hm:CellsAt w (.slice b m.length cb) m) (h1:l.length≤60000) (h2:m.length≤60000) :
  Calls Tryz.prog 19 #[.slice a l.length ca,.slice b m.length cb] w fun e w'=>e=.returned (.bool (decide (l=m)))∧Fr [] w w':=by
 have HC:=Lib.hid (Compare_p hl hm h1 h2)
 obtain⟨A,hA⟩:∃ A,l.length=A:=⟨_,rfl⟩
 obtain⟨B,hB⟩:∃ B,m.length=B:=⟨_,rfl⟩
 rw [hA,hB] at HC ⊢
 obtain⟨r,hr⟩:∃ r,decide (l=m)=r:=⟨_,rfl⟩
 have HR:=Lib.hid hr
 rw [hr]
 clear hl hm h1 h2 hA hB hr
 go_enter Tryz.func19,Tryz.ntmps19
 go_wp2_with fail
 refine HC.out.mono ?_
 rintro e w1 ⟨z,rfl,hz,hf⟩
 have Hz:=Lib.hid (show (z == 0)=r by rw [← HR.out,Bool.eq_iff_iff];simpa using hz)
 have Hf:=Lib.hid hf
 clear hz hf
 go_wp2
 go_ret
 exact⟨ret_bool' Hz.out,Hf.out⟩
end Go.Proofs.YtdanghnadbkhfaaGreat
end
section
namespace Go.Proofs.YtdanghnadbkhfaaGreat
open Go Go.RowKit Rg Mp Hp Qs Ev Bn Pt
theorem New_has {W w:World} {Ps:List Res} (h:Has W w Ps) (s:Int) (h1:2≤s) (h2:s≤8) :
  Calls Tryz.prog 34 #[.int .i64 s] w fun e w'=>∃ b,e=.returned (.tuple #[.pointer (some ⟨b,0,none⟩),.int .i64 0])∧Has W w' (sTR b s []::Ps):=by
 refine (New_ok s w h1 h2).mono ?_
 rintro e w' ⟨b,F,rfl,hS,hf,hF⟩
 exact⟨b,rfl,h.new hf hS hF⟩
theorem big_mem {W w:World} {Ps:List Res} {neg:Bool} {ds:List Nat} {a:Option Addr} {c:Nat} (h:Has W w Ps) (hm:bigR neg ds a c∈Ps):BigIn w neg ds a c:=by
 obtain⟨G,h1,_⟩:=has_mem h hm
 exact h1
theorem zd_one:zd 1=[1]:=by
 unfold zd
 rw [show (1:Int).natAbs=1 from rfl,dg_succ (by omega) (by omega),show 1 / 4294967296=0 from rfl,dg_zero]
theorem zd_zero:zd 0=[]:=by unfold zd;rw [show (0:Int).natAbs=0 from rfl,dg_zero]
theorem zok1n:Zok ((1:Nat):Int):=zok_int (by decide) (by decide)
theorem zok0n:Zok ((0:Nat):Int):=zok_int (by decide) (by decide)
theorem zd1n:zd ((1:Nat):Int)=[1]:=zd_one
theorem zd0n:zd ((0:Nat):Int)=[]:=zd_zero
set_option maxHeartbeats 16000000 in
set_option maxRecDepth 100000 in
theorem awake_q (w:World):Calls Tryz.prog 8 #[] w fun e w'=>e=.returned (.bool true)∧Fr [] w w':=by
 have h0:Has w w []:=⟨[],rfl,Fr.refl _ _,by simp⟩
 have H0:=Lib.hid h0
 clear h0
 go_enter Tryz.func8,Tryz.ntmps8
 go_wp2_with fail
 refine (New_has H0.out 2 (by omega) (by omega)).mono ?_
 rintro e w1 ⟨b,rfl,h1⟩
 have h2:=(hAL h1 #[.int .i64 1,.int .i64 0,.int .i64 1] 75).swap
 obtain⟨pb,hpb⟩:∃ pb,w1.heap.size=pb:=⟨_,rfl⟩
 rw [hpb] at h2
 have H2:=Lib.hid h2
 have HF1:=Lib.hid (From_q h2 (p:=awP) (a:=some ⟨pb,0,none⟩) (c:=1) (reads_blk h2.swap.blk rfl) (by decide) 0 0 1 (by omega) (by omega))
 rw [aw_from1] at HF1
 clear h1 h2
 go_wp2_with fail
 refine HF1.out.mono ?_
 rintro e w2 ⟨rfl,h2⟩
 clear hpb H2
 have HF2:=Lib.hid (From_q h2 (p:=awP) (a:=some ⟨pb,0,none⟩) (c:=1) (reads_blk h2.swap.blk rfl) (by decide) 0 0 2 (by omega) (by omega))
 rw [aw_from2] at HF2
 clear h2 HF1
 go_wp2_with fail
 refine HF2.out.mono ?_
 rintro e w3 ⟨rfl,h3⟩
 have H3:=Lib.hid h3
 clear h3 HF2
 go_wp2_with fail
 refine (RFrom_z (x:=1) (by omega) (by omega)).mono ?_
 rintro e w4 ⟨v1,rfl,hb1,hf1⟩
 obtain⟨a1,c1,rfl,h4⟩:=has_big H3.out hf1 hb1 (zok_int (by omega) (by omega))
 rw [show decide ((1:Int)<0)=false from rfl,zd_one] at h4 ⊢
 have H4:=Lib.hid h4
 clear h4 hb1 hf1 H3
 go_wp2_with fail
 refine (RFrom_z (x:=0) (by omega) (by omega)).mono ?_
 rintro e w5 ⟨v2,rfl,hb2,hf2⟩
 obtain⟨a2,c2,rfl,h5⟩:=has_big H4.out hf2 hb2 (zok_int (by omega) (by omega))
 rw [show decide ((0:Int)<0)=false from rfl,zd_zero] at h5 ⊢
 have H5:=Lib.hid h5
 clear h5 hb2 hf2 H4
 go_wp2_with fail
 have h6:=(hAL (hAL H5.out #[.bool false,.slice a1 1 c1] 27) #[.bool false,.slice a2 0 c2] 27).ord 6 [4,1,0,3,2,5]
 simp only [List.filterMap_cons,List.filterMap_nil,List.getElem?_cons_zero,List.getElem?_cons_succ,List.drop_succ_cons,List.drop_zero,List.cons_append,List.nil_append] at h6
 obtain⟨x8,hx8⟩:∃ x,w5.heap.size=x:=⟨_,rfl⟩
 rw [show (w5.alloc (.cells #[.bool false,.slice a1 1 c1] 27)).heap.size=w5.heap.size+1 by simp,hx8] at h6
 rw [hx8]
 obtain⟨x9,hx9⟩:∃ x,x8+1=x:=⟨_,rfl⟩
 rw [hx9] at h6 ⊢
 have HG:=Lib.hid (Get_q h6 4 (nx:=false) (dx:=[1]) (ny:=false) (dy:=[]) (big_mem (a:=a1) (c:=c1) h6 (by simp)) (big_mem (a:=a2) (c:=c2) h6 (by simp)))
 rw [aw_get] at HG
 clear H5 h6 hx8 hx9
 refine HG.out.mono ?_
 rintro e w7 ⟨rfl,h7,_⟩
 have HB:=Lib.hid (Bounds_q h7 4)
 clear HG h7
 go_wp2_with fail
 refine HB.out.mono ?_
 unfold BoundsPost
 rintro e w8 ⟨⟨ok,f0,f1,f2,f3⟩,L,rfl,h8,hok,hin⟩
 rw [aw_fr] at hok
 rw [aw_kn]
 simp only [FrOk,coF,Option.getD_some,Option.isSome_some] at hok
 obtain⟨rfl,e0,e1,e2,e3⟩:=hok
 have h9:=(hAL h8 (lcells (true,f0,f1,f2,f3)) 42).ord 3 [1,0,2]
 simp only [List.filterMap_cons,List.filterMap_nil,List.getElem?_cons_zero,List.getElem?_cons_succ,List.drop_succ_cons,List.drop_zero,List.cons_append,List.nil_append] at h9
 obtain⟨x12,hx12⟩:∃ x,w8.heap.size=x:=⟨_,rfl⟩
 rw [hx12] at h9
 have HFE:=Lib.hid (And.intro hin (And.intro e0 (And.intro e1 (And.intro e2 e3))))
 have HP:=Lib.hid (Population_q h9 4)
 rw [aw_kn,aw_pop] at HP
 clear HB h8 h9 hin e0 e1 e2 e3
 simp only [lcells] at HP ⊢
 go_wp2_with fail
 refine HP.out.mono ?_
 rintro e w9 ⟨pa,pc,rfl,h10⟩
 have h11:=(hAL h10 #[.bool false,.slice pa (zd ((1:Nat):Int)).length pc] 27).ord 3 [1,0,2]
 simp only [List.filterMap_cons,List.filterMap_nil,List.getElem?_cons_zero,List.getElem?_cons_succ,List.drop_succ_cons,List.drop_zero,List.cons_append,List.nil_append] at h11
 obtain⟨x15,hx15⟩:∃ x,w9.heap.size=x:=⟨_,rfl⟩
 rw [hx15] at h11
 have HE:=Lib.hid (Expand_q h11 2)
 rw [aw_exp] at HE
 clear HP h10 h11 hx12
 simp only [bvV]
 go_wp2_with fail
 refine HE.out.mono ?_
 rintro e w10 ⟨rfl,h12⟩
 have HC:=Lib.hid (Centre_q h12 awX)
 rw [aw_ctr] at HC
 clear HE h12 hx15
 go_wp2_with fail
 refine HC.out.mono ?_
 rintro e w11 ⟨rfl,h13⟩
 have HPT:=Lib.hid (Pattern_q h13 4 0 0 (by omega) (by omega))
 rw [aw_pat] at HPT
 clear HC h13
 go_wp2_with fail
 refine HPT.out.mono ?_
 rintro e w12 ⟨qv,rfl,h14⟩
 obtain⟨_,qa,qc,rfl,_⟩:=Reads.of_owns h14.swap.row
 have HS:=Lib.hid (Set_q h14 4 (nx:=false) (dx:=[1]) (ny:=false) (dy:=[]) (BigSrc.thing (a:=a1) (c:=c1) (by simp)) (BigSrc.thing (a:=a2) (c:=c2) (by simp)) 0)
 rw [aw_set] at HS
 have hb8:=h14.ord 11 [6]
 simp only [List.filterMap_cons,List.filterMap_nil,List.getElem?_cons_zero,List.getElem?_cons_succ,List.drop_succ_cons,List.drop_zero,List.cons_append,List.nil_append] at hb8
 have hb8:=hb8.blk
 have a0:=hEC hb8 0
 have a1':=hEC hb8 1
 have al:=lBk hb8
 have hb9:=h14.ord 11 [7]
 simp only [List.filterMap_cons,List.filterMap_nil,List.getElem?_cons_zero,List.getElem?_cons_succ,List.drop_succ_cons,List.drop_zero,List.cons_append,List.nil_append] at hb9
 have hb9:=hb9.blk
 have b0:=hEC hb9 0
 have b1:=hEC hb9 1
 have bl:=lBk hb9
 clear HPT h14 hb8 hb9
 go_wp2_with fail
 refine HS.out.mono ?_
 rintro e w13 ⟨rfl,h15⟩
 have HEM:=Lib.hid (Empty_has h15 2)
 rw [aw_empty] at HEM
 clear HS h15 a0 a1' al b0 b1 bl
 go_wp2_with fail
 refine HEM.out.mono ?_
 rintro e w14 ⟨rfl,h16⟩
 have hfg:Four w14 (true,(1,a1,c1),(0,a2,c2),(1,a1,c1),(0,a2,c2)):=by
  have h1:BvIn w14 (1,a1,c1):=by
   show BigIn w14 false (zd ((1:Nat):Int)) a1 c1
   rw [zd1n];exact big_mem h16 (by simp)
  have h2:BvIn w14 (0,a2,c2):=by
   show BigIn w14 false (zd ((0:Nat):Int)) a2 c2
   rw [zd0n];exact big_mem h16 (by simp)
  exact⟨h1,h2,h1,h2,zok1n,zok0n,zok1n,zok0n⟩
 obtain⟨⟨i0,i1,i2,i3⟩,e0,e1,e2,e3⟩:=HFE.out
 simp only at i0 i1 i2 i3 e0 e1 e2 e3
 have hff:Four w14 (true,f0,f1,f2,f3):=⟨pool_in h16 (by simp) i0,pool_in h16 (by simp) i1,pool_in h16 (by simp) i2,pool_in h16 (by simp) i3,zok_int (by simp only;omega) (by simp only;omega),zok_int (by simp only;omega) (by simp only;omega),zok_int (by simp only;omega) (by simp only;omega),zok_int (by simp only;omega) (by simp only;omega)⟩
 have hsb:sameB (true,f0,f1,f2,f3) (true,(1,a1,c1),(0,a2,c2),(1,a1,c1),(0,a2,c2)) 4=true:=by
  simp only [sameB,Bool.and_eq_true,decide_eq_true_eq];omega
 have HSM:=Lib.hid (fun w' (hf:Fr [] w14 w')=>same_q (hff.fr hf) (hfg.fr hf))
 rw [hsb] at HSM
 simp only [lcells,zd1n,zd0n,List.length_cons,List.length_nil,Nat.zero_add] at HSM
 have hpop:BigIn w14 false (zd ((1:Nat):Int)) pa pc:=big_mem h16 (by simp)
 have hone:BigIn w14 false [1] a1 c1:=big_mem h16 (by simp)
 have HCM:=Lib.hid (fun w' (hf:Fr [] w14 w')=>RCompare_z (in_z (hpop.fr hf)) (in_z (V:=1) (a:=a1) (c:=c1) ((show BigIn w14 false (zd ((1:Nat):Int)) a1 c1 by rw [zd1n];exact hone).fr hf)) (zok_int (by decide) (by decide)) (zok_int (by decide) (by decide)))
 simp only [zd1n,List.length_cons,List.length_nil,Nat.zero_add] at HCM
 have hrow:=Reads.of_owns h16.swap.row
 have hpat:=h16.ord 11 [10]
 simp only [List.filterMap_cons,List.filterMap_nil,List.getElem?_cons_zero,List.getElem?_cons_succ,List.drop_succ_cons,List.drop_zero,List.cons_append,List.nil_append] at hpat
 have HSP:=Lib.hid (fun w' (hf:Fr [] w14 w')=>Same_p (l:=awP) (m:=awP) (a:=qa) (ca:=qc) (b:=some ⟨pb,0,none⟩) (cb:=1) (Reads.fr hrow hf) (Reads.fr (reads_blk hpat.blk rfl) hf) (by decide) (by decide))
 have HFR:=Lib.hid h16.fr
 clear hrow hpat
 have hb8:=h16.ord 11 [6]
 simp only [List.filterMap_cons,List.filterMap_nil,List.getElem?_cons_zero,List.getElem?_cons_succ,List.drop_succ_cons,List.drop_zero,List.cons_append,List.nil_append] at hb8
 have hb8:=hb8.blk
 have a0:=hEC hb8 0
 have a1':=hEC hb8 1
 have al:=lBk hb8
 have hb9:=h16.ord 11 [7]
 simp only [List.filterMap_cons,List.filterMap_nil,List.getElem?_cons_zero,List.getElem?_cons_succ,List.drop_succ_cons,List.drop_zero,List.cons_append,List.nil_append] at hb9
 have hb9:=hb9.blk
 have b0:=hEC hb9 0
 have b1:=hEC hb9 1
 have bl:=lBk hb9
 have hb2:=h16.ord 11 [4]
 simp only [List.filterMap_cons,List.filterMap_nil,List.getElem?_cons_zero,List.getElem?_cons_succ,List.drop_succ_cons,List.drop_zero,List.cons_append,List.nil_append] at hb2
 have hb2:=hb2.blk
 have r0:=hEC hb2 0
 have r1:=hEC hb2 1
 have r2:=hEC hb2 2
 have r3:=hEC hb2 3
 have r4:=hEC hb2 4
 have r5:=hEC hb2 5
 have r6:=hEC hb2 6
 have r7:=hEC hb2 7
 have rl:=lBk hb2
 have hb5:=h16.ord 11 [2]
 simp only [List.filterMap_cons,List.filterMap_nil,List.getElem?_cons_zero,List.getElem?_cons_succ,List.drop_succ_cons,List.drop_zero,List.cons_append,List.nil_append] at hb5
 have hb5:=hb5.blk
 rw [zd1n] at hb5
 have q0:=hEC hb5 0
 have q1:=hEC hb5 1
 have ql:=lBk hb5
 clear h16 HEM hff hfg hpop hone hsb e0 e1 e2 e3 i0 i1 i2 i3
 go_wp2_with fail
 refine (HSM.out _ (Fr.refl _ _)).mono ?_
 rintro e w15 ⟨rfl,hf15⟩
 have q0':=(hf15.cell (p:=⟨x15,0,none⟩) ql (by simp)).trans q0
 have q1':=(hf15.cell (p:=⟨x15,1,none⟩) ql (by simp)).trans q1
 have a0':=(hf15.cell (p:=⟨x8,0,none⟩) al (by simp)).trans a0
 have a1'':=(hf15.cell (p:=⟨x8,1,none⟩) al (by simp)).trans a1'
 have Hf15:=Lib.hid hf15
 have hlx:x8<w15.heap.size:=by
  have:=hf15.size;omega
 have hlq:x15<w15.heap.size:=by
  have:=hf15.size;omega
 clear r0 r1 r2 r3 r4 r5 r6 r7 rl a0 a1' al b0 b1 bl q0 q1 ql hf15
 go_wp2_with fail
 refine (HCM.out _ (by have:=Hf15.out;(repeat first|exact Fr.refl _ _|assumption|apply Fr.n|apply Fr.d|apply Fr.a|refine Fr.s ?_ (.inr (by simp;try omega)) _))).mono ?_
 rintro e w16 ⟨rfl,hf16⟩
 have Hf16:=Lib.hid (Hf15.out.trans0 hf16)
 clear hf16 q0' q1' a0' a1''
 simp only [show cmpI ((1:Nat):Int) ((1:Nat):Int)=0 from rfl]
 go_wp2_with fail
 refine (HSP.out _ Hf16.out).mono ?_
 rintro e w17 ⟨rfl,hf17⟩
 have Hf17:=Lib.hid (Hf16.out.trans0 hf17)
 clear hf17
 simp only [show decide (awP=awP)=true from by decide]
 go_wp2
 go_ret
 exact⟨rfl,HFR.out.trans0 Hf17.out⟩
end Go.Proofs.YtdanghnadbkhfaaGreat
end
section
namespace Go.Proofs.YtdanghnadbkhfaaGreat
open Go Go.RowKit Rg Mp Hp Qs Ev Bn Pt
theorem fromP_len (l:List PC):(fromP l).1.length≤5000:=by
 unfold fromP
 split
 ·simp
 ·split
  ·simp
  ·split
   ·simp
   ·simp only;omega
theorem patQ_len (s:Int) (ns:List K4) (id x y:Int):(patQ s ns id x y).1.length≤5000:=by
 unfold patQ
 split
 ·simp
 ·split
  ·simp
  ·exact fromP_len _
end Go.Proofs.YtdanghnadbkhfaaGreat
end
section
namespace Go.Proofs.YtdanghnadbkhfaaGreat
open Go Go.RowKit Rg Mp Hp Qs
set_option maxHeartbeats 1000000 in
theorem Clone_nil (n c:Nat) (w:World) :
  Calls Tryz.prog 71 #[.slice none n c] w fun e w'=>e=.returned (.slice none 0 0)∧w=w':=by
 have h1:=fun w:World=>Lib.run_eql_slice_nil (P:=Tryz.prog) w 22 105 none n c 0 0 Tryz.underlying22
 go_enter Tryz.func71,Tryz.ntmps71
 go_wp2
 go_ret
 exact⟨rfl,rfl⟩
def ClonePost (w:World) (n:Nat) (xs:List Value) (e:Ending) (w':World):Prop:=∃ v,e=.returned v∧w'.ownsRow w.heap.size 105 4 v n xs∧Fr [] w w'
set_option maxHeartbeats 1000000 in
theorem Clone_some (g off n c:Nat) (xs:List Value) (w:World) (hx:xs.length=n*4) (hc:∀ j u,xs[j]?=some u→w.cell? ⟨g,off+j,none⟩=some u) (h1:∀ u∈xs,u.oneCell'=true) (hn:n≤4398046511096) (hg:g<w.heap.size) :
  Calls Tryz.prog 71 #[.slice (some ⟨g,off,none⟩) n c] w (ClonePost w n xs):=by
 have hnil:=fun w:World=>Lib.run_eql_slice_nil (P:=Tryz.prog) w 22 105 (some ⟨g,off,none⟩) n c 0 0 Tryz.underlying22
 obtain⟨i0,hi0,hi1,hi2,hi3⟩:=info_parts info_quad
 have Hx:=Lib.hid hx
 have Hc:=Lib.hid hc
 have H1:=Lib.hid h1
 clear hx hc h1
 go_enter Tryz.func71,Tryz.ntmps71
 go_wp2_with (at_builtin;refine wpList_append_own_at _ rfl _ _ 22 rfl w.heap.size 105 i0 _ 4 32 Tryz.underlying22 hi0 hi1 hi2 hi3 rfl (by decide) _ 0 [] rfl ?e1 ⟨g,off,none⟩ n c xs rfl Hx.out ?e2 H1.out ?e3 ?e4 ?e5 ?_)
 case e1=>exact⟨rfl,.inr ⟨w.heap.size,0,#[],rfl,Nat.le_refl _,by rw [hAC,if_pos rfl],Nat.le_refl _,Nat.zero_le _,rfl,rfl⟩⟩
 case e2 =>
  intro j u hj
  have:=Hc.out j u hj
  have ha:(⟨g,off,none⟩:Addr).add j=⟨g,off+j,none⟩:=by
   unfold Addr.add
   split
   ·rename_i h0;rw [h0];rfl
   ·rfl
  rw [ha,World.cell?_alloc_past _ _ _ hg]
  exact this
 case e3=>unfold maxLen;omega
 case e4=>omega
 case e5=>rw [hAz];omega
 intro v' w1 hown hgrow _ hloc
 try simp only [Nat.zero_add,List.nil_append] at hown
 go_wp2
 go_ret
 exact⟨v',rfl,hown,((Fr.refl _ _).alloc _).grown hgrow (by intro x hx;simp [Value.ownBlock] at hx;omega)⟩
set_option maxHeartbeats 1000000 in
theorem Data_calls {w:World} {b:Nat} {s:Int} {ns:List K4} {F:List Nat} (hS:StoreAt w b s ns F) :
  Calls Tryz.prog 23 #[.pointer (some ⟨b,0,none⟩)] w fun e w'=>∃ v,e=.returned (.agg #[.int .i64 s,v])∧w'.ownsRow w.heap.size 105 4 v ns.length (flat ns)∧Fr [] w w':=by
 obtain⟨hgood,nv,lv,mb,hI,rfl⟩:=hS
 have hC:∀ w1,Fr [] w w1→Calls Tryz.prog 71 #[nv] w1 (ClonePost w1 ns.length (flat ns)):=fun w1 hf=>by
  obtain⟨na,nc,rfl,_,hnone⟩:=oFM hI.nodes
  have hI1:=hI.keep fun x hx=>hf.block x (hI.lt x hx) (by simp)
  rcases hI.nodes.2 with ⟨h,h0⟩|⟨g,cap,cur,h,_⟩
  ·simp only [Value.slice.injEq] at h
   obtain⟨rfl,_,rfl⟩:=h
   refine (Clone_nil _ _ w1).mono ?_
   rintro e w' ⟨rfl,rfl⟩
   have:ns=[]:=List.eq_nil_of_length_eq_zero h0
   subst this
   exact⟨_,rfl,World.ownsRow_nil _ _ _ _,Fr.refl _ _⟩
  ·simp only [Value.slice.injEq] at h
   obtain⟨rfl,_,rfl⟩:=h
   exact Clone_some g 0 ns.length _ _ w1 (flat_length ns) (fun j u hj=>by rw [Nat.zero_add];exact owns_cell hI1.nodes rfl hj) (flat_one ns) (by have:=hgood.2.2.1;omega) (oLT hI1.nodes rfl)
 have h0:=hEC hI.blk 0
 have h1:=hEC hI.blk 1
 have hb:=lBk hI.blk
 have HI:=Lib.hid hI
 clear hI
 obtain⟨na,nc,rfl,_,_⟩:=oFM HI.out.nodes
 go_enter Tryz.func23,Tryz.ntmps23
 go_wp2
 refine wRS [([0,1,2,3,4,5,6,7,8],[3]),([9,10],[])] (by kernel_rfl) (by kernel_rfl) ?_
 simp only [wpSegs,pick,Array.getD_eq_getD_getElem?,List.getElem?_toArray,List.getElem?_cons_succ,List.getElem?_cons_zero,Option.getD_some]
 go_wp2_with fail
 refine (hC _ ?_).mono ?_
 ·repeat (first|exact Fr.refl _ _|apply Fr.drewN|apply Fr.drew|apply Fr.alloc)
 rintro e w1 ⟨v,rfl,hown,hf⟩
 have hfw:Fr [] w w1:=(((Fr.refl _ _).alloc _).drew).trans0 hf
 have c0:w1.cell? ⟨b,0,none⟩=some (.int .i64 s):=(hfw.cell (p:=⟨b,0,none⟩) hb (by simp)).trans h0
 have hl:w1.heap[w.heap.size]?=some (.cells #[.int .i64 0,.slice none 0 0] 24 (0,0)):=(hf.block _ (by rw [hDR,hAz];omega) (by simp)).trans (by rw [hDR,hAC,if_pos rfl])
 have l0:=hEC hl 0
 have l1:=hEC hl 1
 have g0:=hEF hl 0
 have g1:=hEF hl 1
 obtain⟨va,vc,rfl,hva,hvn⟩:=oFM hown
 have hne:(Value.slice va ns.length vc).ownBlock≠some w.heap.size:=fun e=>by
  have:=owns_ge hown e;rw [hDR,hAz] at this;omega
 have Hown:=Lib.hid hown
 have Hne:=Lib.hid hne
 have Hf:=Lib.hid hfw
 have Hl:=Lib.hid hl
 clear hown hva hvn hf hfw hl hne
 go_wp2
 refine Mid.intro ⟨⟨again_cell (T:=3) rfl rfl rfl Tryz.underlying3 rfl c0 rfl,trivial⟩,?_⟩
 go_wp2
 refine Mid.intro ⟨trivial,Strict.intro rfl ?_⟩
 go_wp2
 exact bodyPost_ret (v:=.agg #[.int .i64 s,.slice va ns.length vc]) (by simp [results,Tryz.results23,go_sem,l0,l1]) rfl
  ⟨_,rfl,oOB (base:=w.heap.size) (owns_base Hown.out (by rw [hDR,hAz];omega)) fun x hx=>heap_setCell2 _ _ _ _ _ _ (fun e=>Hne.out (by rw [hx,e])),by repeat (first|exact Hf.out|apply Fr.drewN|apply Fr.drew|apply Fr.alloc|refine Fr.setCell ?_ (Or.inr (by simp)) _)⟩
end Go.Proofs.YtdanghnadbkhfaaGreat
end
section
namespace Go.Proofs.YtdanghnadbkhfaaGreat
open Go Go.RowKit Rg Mp Hp Qs Ev
section
variable {W w:World} {b:Nat} {s:Int} {ns:List K4} {Ps:List Res}
theorem Data_has (h:Has W w (sTR b s ns::Ps)) :
  Calls Tryz.prog 23 #[.pointer (some ⟨b,0,none⟩)] w fun e w'=>∃ a c,e=.returned (.agg #[.int .i64 s,.slice a ns.length c])∧w'.ownsRow w.heap.size 105 4 (.slice a ns.length c) ns.length (flat ns)∧Has W w' (sTR b s ns::Ps)∧Fr [] w w':=by
 obtain⟨F,hS⟩:=h.head
 refine (Data_calls hS).mono ?_
 rintro e w' ⟨v,rfl,ho,hf⟩
 obtain⟨a,c,rfl,_⟩:=oFM ho
 exact⟨a,c,rfl,ho,h.step hf,hf⟩
end
end Go.Proofs.YtdanghnadbkhfaaGreat
end
section
namespace Go.Proofs.YtdanghnadbkhfaaGreat
open Go Go.RowKit Rg Mp Hp Qs
theorem kids_eq (x l:K4):(x.a == l.a && (x.b == l.b && (x.c == l.c && x.d == l.d)))=decide (x=l):=by
 rw [Bool.eq_iff_iff];cases x;cases l;simp
set_option maxHeartbeats 2000000 in
theorem Same_far {w:World} {s1 s2:Int} {n1 n2:Nat} {a1 a2:Option Addr} {c1 c2:Nat} (h:s1≠s2∨s1=s2∧n1≠n2) :
  Calls Tryz.prog 22 #[.agg #[.int .i64 s1,.slice a1 n1 c1],.agg #[.int .i64 s2,.slice a2 n2 c2]] w fun e w'=>e=.returned (.bool false)∧∃ o1 o2,w'=(w.alloc o1).alloc o2:=by
 rcases h with h|⟨rfl,h⟩
 ·have hb:(s1 != s2)=true:=by simpa using h
  go_enter Tryz.func22,Tryz.ntmps22
  go_wp2
  go_ret
  exact⟨rfl,_,_,rfl⟩
 ·have hb:((n1:Int) != (n2:Int))=true:=by simp;omega
  have hc:(s1 != s1)=false:=by simp
  go_enter Tryz.func22,Tryz.ntmps22
  go_wp2
  go_ret
  exact⟨rfl,_,_,rfl⟩
set_option maxHeartbeats 2000000 in
theorem Same_near {w:World} {s:Int} {n1 n2:List K4} {v1 v2:Value} (hl:n1.length≤1048576) (he:n2.length=n1.length) (h1:Reads w v1 n1.length 4 (flat n1)) (h2:Reads w v2 n2.length 4 (flat n2)) :
  Calls Tryz.prog 22 #[.agg #[.int .i64 s,v1],.agg #[.int .i64 s,v2]] w fun e w'=>e=.returned (.bool (decide (n1=n2)))∧∃ o1 o2 n,w'=((w.alloc o1).alloc o2).drewN n:=by
 obtain⟨_,a1,c1,rfl,ha1⟩:=h1
 obtain⟨_,a2,c2,rfl,ha2⟩:=h2
 have Ha1:=Lib.hid ha1
 have Ha2:=Lib.hid ha2
 rw [he]
 have He:=Lib.hid he
 clear ha1 ha2 he
 have hc:(s != s)=false:=by simp
 have hd:((n1.length:Int) != (n1.length:Int))=false:=by simp
 go_enter Tryz.func22,Tryz.ntmps22
 go_wp2
 go_loopw [5] (fun x wr=>∃ (k m:Nat),x=.int .i64 k∧k≤n1.length∧(∀ j,j<k→n1[j]?=n2[j]?)∧wr=(((w.alloc (.cells #[.int .i64 s,.slice a1 n1.length c1] 24)).alloc (.cells #[.int .i64 s,.slice a2 n1.length c2] 24))).drewN m) (fun x _=>n1.length - (intOf x).toNat)
 case atStart=>exact⟨0,0,rfl,by omega,by omega,rfl⟩
 case round =>
  obtain⟨k,m,rfl,hk,hn,rfl⟩:=hrel
  have Hn:=Lib.hid hn
  clear hn
  by_cases hlt:k<n1.length
  ·have hlt2:k<n2.length:=by have:=He.out;omega
   obtain⟨g1,off1,rfl,hg1,hc1⟩:=Ha1.out (by omega)
   obtain⟨g2,off2,rfl,hg2,hc2⟩:=Ha2.out (by omega)
   obtain⟨f0,f1,f2,f3⟩:=flat_get (List.getElem?_eq_getElem hlt)
   obtain⟨i0,i1,i2,i3⟩:=flat_get (List.getElem?_eq_getElem hlt2)
   rw [Nat.mul_comm] at f0 f1 f2 f3 i0 i1 i2 i3
   obtain⟨x,hx⟩:∃ x,x=n1[k]:=⟨_,rfl⟩
   obtain⟨y,hy⟩:∃ y,y=n2[k]:=⟨_,rfl⟩
   rw [← hx] at f0 f1 f2 f3
   rw [← hy] at i0 i1 i2 i3
   have e0:=hc1 _ _ f0
   have e1:=hc1 _ _ f1
   have e2:=hc1 _ _ f2
   have e3:=hc1 _ _ f3
   have d0:=hc2 _ _ i0
   have d1:=hc2 _ _ i1
   have d2:=hc2 _ _ i2
   have d3:=hc2 _ _ i3
   simp only [← Nat.add_assoc] at e1 e2 e3 d1 d2 d3
   have Hx:=Lib.hid hx
   have Hy:=Lib.hid hy
   have Hlt2:=Lib.hid hlt2
   clear hx hy hc1 hc2 f0 f1 f2 f3 i0 i1 i2 i3
   by_cases hxy:x=y
   ·have hq:(x.a == y.a && (x.b == y.b && (x.c == y.c && x.d == y.d)))=true:=by rw [kids_eq];simpa using hxy
    have Hxy:=Lib.hid hxy
    clear hxy
    go_wp2
    (refine wRT (by kernel_rfl) (by kernel_rfl) ?_)
    go_wp2
    refine Strict.intro rfl ?_
    go_wp2
    go_roundw
    case rel =>
     refine⟨k+1,m+1,by go_num,by omega,fun j hj=>?_,rfl⟩
     rcases Nat.lt_or_ge j k with h|h
     ·exact Hn.out j h
     ·obtain rfl:j=k:=by omega
      rw [List.getElem?_eq_getElem hlt,List.getElem?_eq_getElem Hlt2.out,← Hx.out,← Hy.out,Hxy.out]
    case measure=>simp [intOf];omega
   ·have hq:(x.a == y.a && (x.b == y.b && (x.c == y.c && x.d == y.d)))=false:=by rw [kids_eq];simpa using hxy
    have Hxy:=Lib.hid hxy
    clear hxy
    go_wp2
    (refine wRT (by kernel_rfl) (by kernel_rfl) ?_)
    go_wp2
    refine Strict.intro rfl ?_
    go_wp2
    go_ret
    refine⟨?_,_,_,m+1,rfl⟩
    have:decide (n1=n2)=false:=by
     rw [decide_eq_false_iff_not]
     intro e
     apply Hxy.out
     rw [Hx.out,Hy.out]
     have:=congrArg (fun l:List K4=>l[k]?) e
     simp only [List.getElem?_eq_getElem hlt,List.getElem?_eq_getElem Hlt2.out] at this
     exact Option.some.inj this
    rw [this]
    rfl
  ·go_wp2
   go_ret
   refine⟨?_,_,_,m,rfl⟩
   have:decide (n1=n2)=true:=by
    rw [decide_eq_true_iff]
    apply List.ext_getElem?
    intro j
    rcases Nat.lt_or_ge j k with h|h
    ·exact Hn.out j h
    ·rw [List.getElem?_eq_none (by omega),List.getElem?_eq_none (by have:=He.out;omega)]
   rw [this]
   rfl
theorem Same_ref {w:World} {s1 s2:Int} {n1 n2:List K4} {v1 v2:Value} (hl:n1.length≤1048576) (h1:Reads w v1 n1.length 4 (flat n1)) (h2:Reads w v2 n2.length 4 (flat n2)) :
  Calls Tryz.prog 22 #[.agg #[.int .i64 s1,v1],.agg #[.int .i64 s2,v2]] w fun e w'=>e=.returned (.bool (sameQ s1 s2 n1 n2))∧∃ o1 o2 n,w'=((w.alloc o1).alloc o2).drewN n:=by
 by_cases hs:s1=s2
 ·subst hs
  by_cases hn:n1.length=n2.length
  ·have:sameQ s1 s1 n1 n2=decide (n1=n2):=by simp [sameQ]
   rw [this]
   exact Same_near hl hn.symm h1 h2
  ·have:sameQ s1 s1 n1 n2=false:=by
    have:¬ n1=n2:=fun e=>hn (by rw [e])
    simp [sameQ,this]
   rw [this]
   obtain⟨_,a1,c1,rfl,_⟩:=h1
   obtain⟨_,a2,c2,rfl,_⟩:=h2
   refine (Same_far (.inr ⟨rfl,hn⟩)).mono ?_
   rintro e w' ⟨rfl,o1,o2,rfl⟩
   exact⟨rfl,o1,o2,0,rfl⟩
 ·have:sameQ s1 s2 n1 n2=false:=by simp [sameQ,hs]
  rw [this]
  obtain⟨_,a1,c1,rfl,_⟩:=h1
  obtain⟨_,a2,c2,rfl,_⟩:=h2
  refine (Same_far (.inl hs)).mono ?_
  rintro e w' ⟨rfl,o1,o2,rfl⟩
  exact⟨rfl,o1,o2,0,rfl⟩
end Go.Proofs.YtdanghnadbkhfaaGreat
end
