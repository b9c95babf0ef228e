/- Own texts of this claim, part 21: no condition. -/
import Derived.IntWalk
import Derived.Lib.SliceRun
import Derived.Maps.AppendAt
import Derived.Test.YtdanghnadbkhfaaGreatZR19
import Derived.Test.YtdanghnadbkhfaaGreatZR16
import Derived.Test.YtdanghnadbkhfaaGreatZR6
set_option linter.unusedVariables false
set_option linter.unusedSimpArgs false
section
namespace Go.Proofs.YtdanghnadbkhfaaGreat
open Go Go.RowKit Rg Mp Hp Qs Ev Bn
def BvIn (w:World) (e:BV):Prop:=BigIn w false (zd (e.1:Int)) e.2.1 e.2.2
structure Four (w:World) (f:FV):Prop where
 a:BvIn w f.2.1
 b:BvIn w f.2.2.1
 c:BvIn w f.2.2.2.1
 d:BvIn w f.2.2.2.2
 la:Zok (f.2.1.1:Int)
 lb:Zok (f.2.2.1.1:Int)
 lc:Zok (f.2.2.2.1.1:Int)
 ld:Zok (f.2.2.2.2.1:Int)
theorem Four.fr {w w':World} {f:FV} (h:Four w f) (hf:Fr [] w w'):Four w' f:=⟨h.a.fr hf,h.b.fr hf,h.c.fr hf,h.d.fr hf,h.la,h.lb,h.lc,h.ld⟩
theorem zd_inj {a b:Nat}:zd (a:Int)=zd (b:Int)↔a=b:=by
 constructor
 ·intro h
  have h1:=zd_val (a:Int)
  have h2:=zd_val (b:Int)
  rw [h,h2] at h1
  simpa using h1.symm
 ·rintro rfl;rfl
theorem equal_n {w:World} {x y:BV} (hx:BvIn w x) (hy:BvIn w y) (hz:Zok (x.1:Int)) :
  Calls Tryz.prog 15 #[bvV x,bvV y] w fun e w'=>e=.returned (.bool (decide (x.1=y.1)))∧Fr [] w w':=by
 have:=equal_q hx hy (by have:=zd_len hz;omega)
 rwa [show decide (false=false∧zd (x.1:Int)=zd (y.1:Int))=decide (x.1=y.1) by rw [decide_eq_decide];simp [zd_inj]] at this
def sameB (f g:FV):Nat→Bool
 | 0=>true
 | 1=>decide (f.2.1.1=g.2.1.1)
 | 2=>decide (f.2.1.1=g.2.1.1) && decide (f.2.2.1.1=g.2.2.1.1)
 | 3=>decide (f.2.1.1=g.2.1.1) && decide (f.2.2.1.1=g.2.2.1.1) && decide (f.2.2.2.1.1=g.2.2.2.1.1)
 | _=>decide (f.2.1.1=g.2.1.1) && decide (f.2.2.1.1=g.2.2.1.1) && decide (f.2.2.2.1.1=g.2.2.2.1.1) && decide (f.2.2.2.2.1=g.2.2.2.2.1)
set_option maxHeartbeats 8000000 in
theorem same_q {w:World} {f g:FV} (hf:Four w f) (hg:Four w g) :
  Calls Tryz.prog 16 #[.agg (lcells f),.agg (lcells g)] w fun e w'=>e=.returned (.bool (sameB f g 4))∧Fr [] w w':=by
 have HF:=Lib.hid hf
 have HG:=Lib.hid hg
 clear hf hg
 obtain⟨r,hr⟩:∃ r,sameB f g 4=r:=⟨_,rfl⟩
 rw [hr]
 have HR:=Lib.hid hr
 clear hr
 obtain⟨ok,f0,f1,f2,f3⟩:=f
 obtain⟨ok',g0,g1,g2,g3⟩:=g
 simp only [lcells]
 go_enter Tryz.func16,Tryz.ntmps16
 go_wp2
 go_loopw [6] (fun x wr=>∃ z:Int,x=.int .i64 z∧At5 (fun k=>sameB (ok,f0,f1,f2,f3) (ok',g0,g1,g2,g3) k=true∧Fr [] w wr∧wr.heap[w.heap.size]?=some (.cells (lcells (ok,f0,f1,f2,f3)) 42 (0,0))∧wr.heap[w.heap.size+1]?=some (.cells (lcells (ok',g0,g1,g2,g3)) 42 (0,0))) z) (fun x _=>4 - (intOf x).toNat)
 case atStart=>exact⟨0,rfl,.inl ⟨rfl,rfl,by (repeat first|exact Fr.refl _ _|assumption|apply Fr.n|apply Fr.d|apply Fr.a|refine Fr.s ?_ (.inr (by simp;try omega)) _),by simp only [lcells];(repeat first|rw [if_pos (by omega)]|rw [if_neg (by omega)]|rw [hDR]|rw [hDN]|rw [hAz]|rw [hSz]|rw [hAC]|rw [hSC]|rw [oMS]|rw [uPC]|rw [lSZ]|rw [lSS]|rfl),by simp only [lcells];(repeat first|rw [if_pos (by omega)]|rw [if_neg (by omega)]|rw [hDR]|rw [hDN]|rw [hAz]|rw [hSz]|rw [hAC]|rw [hSC]|rw [oMS]|rw [uPC]|rw [lSZ]|rw [lSS]|rfl)⟩⟩
 case round =>
  obtain⟨z,rfl,hz⟩:=hrel
  rcases hz with ⟨rfl,hz⟩|⟨rfl,hz⟩|⟨rfl,hz⟩|⟨rfl,hz⟩|⟨rfl,hz⟩
  ·
   obtain⟨hb,hf,h1,h2⟩:=hz
   have Hf:=Lib.hid hf
   have Hb:=Lib.hid hb
   have HH:=Lib.hid (And.intro h1 h2)
   simp only [lcells] at h1 h2
   have x0:=hEC h1 0
   have x1:=hEC h1 1
   have xl:=lBk h1
   have y0:=hEC h2 0
   have y1:=hEC h2 1
   have yl:=lBk h2
   clear hb hf h1 h2
   have HE:=Lib.hid (fun w1 (hf:Fr [] w w1)=>equal_n (HF.out.fr hf).a (HG.out.fr hf).a HF.out.la)
   simp only [bvV] at HE
   cases hd:decide ((f0:BV).1=(g0:BV).1) with
   | true =>
    rw [hd] at HE
    have HD:=Lib.hid hd
    clear hd
    go_wp2
    (refine wRT (by kernel_rfl) (by kernel_rfl) ?_)
    go_wp2_with fail
    refine (HE.out _ (by have:=Hf.out;(repeat first|exact Fr.refl _ _|assumption|apply Fr.n|apply Fr.d|apply Fr.a|refine Fr.s ?_ (.inr (by simp;try omega)) _))).mono ?_
    rintro e w3 ⟨rfl,hf3⟩
    have hfw:Fr [] wr w3:=Fr.trans0 (by (repeat first|exact Fr.refl _ _|assumption|apply Fr.n|apply Fr.d|apply Fr.a|refine Fr.s ?_ (.inr (by simp;try omega)) _)) hf3
    have HH3:=Lib.hid (And.intro ((hfw.block _ xl (by simp)).trans HH.out.1) ((hfw.block _ yl (by simp)).trans HH.out.2))
    have Hf3:=Lib.hid (Hf.out.trans0 hfw)
    clear hfw hf3 x0 x1 xl y0 y1 yl
    go_wp2
    refine Strict.intro rfl ?_
    go_wp2
    go_roundw
    case rel=>exact⟨1,rfl,.inr (.inl ⟨rfl,by have:=Hb.out;have:=HD.out;simp only [sameB] at *;simp_all,Hf3.out,HH3.out.1,HH3.out.2⟩)⟩
    case measure=>simp [intOf]
   | false =>
    rw [hd] at HE
    have HD:=Lib.hid hd
    clear hd
    go_wp2
    (refine wRT (by kernel_rfl) (by kernel_rfl) ?_)
    go_wp2_with fail
    refine (HE.out _ (by have:=Hf.out;(repeat first|exact Fr.refl _ _|assumption|apply Fr.n|apply Fr.d|apply Fr.a|refine Fr.s ?_ (.inr (by simp;try omega)) _))).mono ?_
    rintro e w3 ⟨rfl,hf3⟩
    have Hf3:=Lib.hid (Fr.trans0 (by have:=Hf.out;(repeat first|exact Fr.refl _ _|assumption|apply Fr.n|apply Fr.d|apply Fr.a|refine Fr.s ?_ (.inr (by simp;try omega)) _)) hf3:Fr [] w w3)
    clear hf3 x0 x1 xl y0 y1 yl
    go_wp2
    refine Strict.intro rfl ?_
    go_wp2
    go_ret
    exact⟨ret_b (by have:=HD.out;rw [← HR.out];simp only [sameB];simp_all),by have:=Hf3.out;(repeat first|exact Fr.refl _ _|assumption|apply Fr.n|apply Fr.d|apply Fr.a|refine Fr.s ?_ (.inr (by simp;try omega)) _)⟩
  ·
   obtain⟨hb,hf,h1,h2⟩:=hz
   have Hf:=Lib.hid hf
   have Hb:=Lib.hid hb
   have HH:=Lib.hid (And.intro h1 h2)
   simp only [lcells] at h1 h2
   have x0:=hEC h1 2
   have x1:=hEC h1 3
   have xl:=lBk h1
   have y0:=hEC h2 2
   have y1:=hEC h2 3
   have yl:=lBk h2
   clear hb hf h1 h2
   have HE:=Lib.hid (fun w1 (hf:Fr [] w w1)=>equal_n (HF.out.fr hf).b (HG.out.fr hf).b HF.out.lb)
   simp only [bvV] at HE
   cases hd:decide ((f1:BV).1=(g1:BV).1) with
   | true =>
    rw [hd] at HE
    have HD:=Lib.hid hd
    clear hd
    go_wp2
    (refine wRT (by kernel_rfl) (by kernel_rfl) ?_)
    go_wp2_with fail
    refine (HE.out _ (by have:=Hf.out;(repeat first|exact Fr.refl _ _|assumption|apply Fr.n|apply Fr.d|apply Fr.a|refine Fr.s ?_ (.inr (by simp;try omega)) _))).mono ?_
    rintro e w3 ⟨rfl,hf3⟩
    have hfw:Fr [] wr w3:=Fr.trans0 (by (repeat first|exact Fr.refl _ _|assumption|apply Fr.n|apply Fr.d|apply Fr.a|refine Fr.s ?_ (.inr (by simp;try omega)) _)) hf3
    have HH3:=Lib.hid (And.intro ((hfw.block _ xl (by simp)).trans HH.out.1) ((hfw.block _ yl (by simp)).trans HH.out.2))
    have Hf3:=Lib.hid (Hf.out.trans0 hfw)
    clear hfw hf3 x0 x1 xl y0 y1 yl
    go_wp2
    refine Strict.intro rfl ?_
    go_wp2
    go_roundw
    case rel=>exact⟨2,rfl,.inr (.inr (.inl ⟨rfl,by have:=Hb.out;have:=HD.out;simp only [sameB] at *;simp_all,Hf3.out,HH3.out.1,HH3.out.2⟩))⟩
    case measure=>simp [intOf]
   | false =>
    rw [hd] at HE
    have HD:=Lib.hid hd
    clear hd
    go_wp2
    (refine wRT (by kernel_rfl) (by kernel_rfl) ?_)
    go_wp2_with fail
    refine (HE.out _ (by have:=Hf.out;(repeat first|exact Fr.refl _ _|assumption|apply Fr.n|apply Fr.d|apply Fr.a|refine Fr.s ?_ (.inr (by simp;try omega)) _))).mono ?_
    rintro e w3 ⟨rfl,hf3⟩
    have Hf3:=Lib.hid (Fr.trans0 (by have:=Hf.out;(repeat first|exact Fr.refl _ _|assumption|apply Fr.n|apply Fr.d|apply Fr.a|refine Fr.s ?_ (.inr (by simp;try omega)) _)) hf3:Fr [] w w3)
    clear hf3 x0 x1 xl y0 y1 yl
    go_wp2
    refine Strict.intro rfl ?_
    go_wp2
    go_ret
    exact⟨ret_b (by have:=HD.out;rw [← HR.out];simp only [sameB];simp_all),by have:=Hf3.out;(repeat first|exact Fr.refl _ _|assumption|apply Fr.n|apply Fr.d|apply Fr.a|refine Fr.s ?_ (.inr (by simp;try omega)) _)⟩
  ·
   obtain⟨hb,hf,h1,h2⟩:=hz
   have Hf:=Lib.hid hf
   have Hb:=Lib.hid hb
   have HH:=Lib.hid (And.intro h1 h2)
   simp only [lcells] at h1 h2
   have x0:=hEC h1 4
   have x1:=hEC h1 5
   have xl:=lBk h1
   have y0:=hEC h2 4
   have y1:=hEC h2 5
   have yl:=lBk h2
   clear hb hf h1 h2
   have HE:=Lib.hid (fun w1 (hf:Fr [] w w1)=>equal_n (HF.out.fr hf).c (HG.out.fr hf).c HF.out.lc)
   simp only [bvV] at HE
   cases hd:decide ((f2:BV).1=(g2:BV).1) with
   | true =>
    rw [hd] at HE
    have HD:=Lib.hid hd
    clear hd
    go_wp2
    (refine wRT (by kernel_rfl) (by kernel_rfl) ?_)
    go_wp2_with fail
    refine (HE.out _ (by have:=Hf.out;(repeat first|exact Fr.refl _ _|assumption|apply Fr.n|apply Fr.d|apply Fr.a|refine Fr.s ?_ (.inr (by simp;try omega)) _))).mono ?_
    rintro e w3 ⟨rfl,hf3⟩
    have hfw:Fr [] wr w3:=Fr.trans0 (by (repeat first|exact Fr.refl _ _|assumption|apply Fr.n|apply Fr.d|apply Fr.a|refine Fr.s ?_ (.inr (by simp;try omega)) _)) hf3
    have HH3:=Lib.hid (And.intro ((hfw.block _ xl (by simp)).trans HH.out.1) ((hfw.block _ yl (by simp)).trans HH.out.2))
    have Hf3:=Lib.hid (Hf.out.trans0 hfw)
    clear hfw hf3 x0 x1 xl y0 y1 yl
    go_wp2
    refine Strict.intro rfl ?_
    go_wp2
    go_roundw
    case rel=>exact⟨3,rfl,.inr (.inr (.inr (.inl ⟨rfl,by have:=Hb.out;have:=HD.out;simp only [sameB] at *;simp_all,Hf3.out,HH3.out.1,HH3.out.2⟩)))⟩
    case measure=>simp [intOf]
   | false =>
    rw [hd] at HE
    have HD:=Lib.hid hd
    clear hd
    go_wp2
    (refine wRT (by kernel_rfl) (by kernel_rfl) ?_)
    go_wp2_with fail
    refine (HE.out _ (by have:=Hf.out;(repeat first|exact Fr.refl _ _|assumption|apply Fr.n|apply Fr.d|apply Fr.a|refine Fr.s ?_ (.inr (by simp;try omega)) _))).mono ?_
    rintro e w3 ⟨rfl,hf3⟩
    have Hf3:=Lib.hid (Fr.trans0 (by have:=Hf.out;(repeat first|exact Fr.refl _ _|assumption|apply Fr.n|apply Fr.d|apply Fr.a|refine Fr.s ?_ (.inr (by simp;try omega)) _)) hf3:Fr [] w w3)
    clear hf3 x0 x1 xl y0 y1 yl
    go_wp2
    refine Strict.intro rfl ?_
    go_wp2
    go_ret
    exact⟨ret_b (by have:=HD.out;rw [← HR.out];simp only [sameB];simp_all),by have:=Hf3.out;(repeat first|exact Fr.refl _ _|assumption|apply Fr.n|apply Fr.d|apply Fr.a|refine Fr.s ?_ (.inr (by simp;try omega)) _)⟩
  ·
   obtain⟨hb,hf,h1,h2⟩:=hz
   have Hf:=Lib.hid hf
   have Hb:=Lib.hid hb
   have HH:=Lib.hid (And.intro h1 h2)
   simp only [lcells] at h1 h2
   have x0:=hEC h1 6
   have x1:=hEC h1 7
   have xl:=lBk h1
   have y0:=hEC h2 6
   have y1:=hEC h2 7
   have yl:=lBk h2
   clear hb hf h1 h2
   have HE:=Lib.hid (fun w1 (hf:Fr [] w w1)=>equal_n (HF.out.fr hf).d (HG.out.fr hf).d HF.out.ld)
   simp only [bvV] at HE
   cases hd:decide ((f3:BV).1=(g3:BV).1) with
   | true =>
    rw [hd] at HE
    have HD:=Lib.hid hd
    clear hd
    go_wp2
    (refine wRT (by kernel_rfl) (by kernel_rfl) ?_)
    go_wp2_with fail
    refine (HE.out _ (by have:=Hf.out;(repeat first|exact Fr.refl _ _|assumption|apply Fr.n|apply Fr.d|apply Fr.a|refine Fr.s ?_ (.inr (by simp;try omega)) _))).mono ?_
    rintro e w3 ⟨rfl,hf3⟩
    have hfw:Fr [] wr w3:=Fr.trans0 (by (repeat first|exact Fr.refl _ _|assumption|apply Fr.n|apply Fr.d|apply Fr.a|refine Fr.s ?_ (.inr (by simp;try omega)) _)) hf3
    have HH3:=Lib.hid (And.intro ((hfw.block _ xl (by simp)).trans HH.out.1) ((hfw.block _ yl (by simp)).trans HH.out.2))
    have Hf3:=Lib.hid (Hf.out.trans0 hfw)
    clear hfw hf3 x0 x1 xl y0 y1 yl
    go_wp2
    refine Strict.intro rfl ?_
    go_wp2
    go_roundw
    case rel=>exact⟨4,rfl,.inr (.inr (.inr (.inr ⟨rfl,by have:=Hb.out;have:=HD.out;simp only [sameB] at *;simp_all,Hf3.out,HH3.out.1,HH3.out.2⟩)))⟩
    case measure=>simp [intOf]
   | false =>
    rw [hd] at HE
    have HD:=Lib.hid hd
    clear hd
    go_wp2
    (refine wRT (by kernel_rfl) (by kernel_rfl) ?_)
    go_wp2_with fail
    refine (HE.out _ (by have:=Hf.out;(repeat first|exact Fr.refl _ _|assumption|apply Fr.n|apply Fr.d|apply Fr.a|refine Fr.s ?_ (.inr (by simp;try omega)) _))).mono ?_
    rintro e w3 ⟨rfl,hf3⟩
    have Hf3:=Lib.hid (Fr.trans0 (by have:=Hf.out;(repeat first|exact Fr.refl _ _|assumption|apply Fr.n|apply Fr.d|apply Fr.a|refine Fr.s ?_ (.inr (by simp;try omega)) _)) hf3:Fr [] w w3)
    clear hf3 x0 x1 xl y0 y1 yl
    go_wp2
    refine Strict.intro rfl ?_
    go_wp2
    go_ret
    exact⟨ret_b (by have:=HD.out;rw [← HR.out];simp only [sameB];simp_all),by have:=Hf3.out;(repeat first|exact Fr.refl _ _|assumption|apply Fr.n|apply Fr.d|apply Fr.a|refine Fr.s ?_ (.inr (by simp;try omega)) _)⟩
  ·obtain⟨hb,hf,_,_⟩:=hz
   have Hb:=Lib.hid (And.intro hb hf)
   clear hb hf
   go_wp2
   go_ret
   exact⟨ret_b (Hb.out.1.symm.trans HR.out),Hb.out.2⟩
end Go.Proofs.YtdanghnadbkhfaaGreat
end
section
namespace Go.Proofs.YtdanghnadbkhfaaGreat
open Go Go.RowKit Rg Hp Pt
theorem order_z (a b:Int) (w:World):Calls Tryz.prog 103 #[.int .i64 a,.int .i64 b] w fun e w'=>e=.returned (.int .i64 (cmpJ a b))∧w'=w:=by
 unfold cmpJ
 by_cases h:a<b
 ·rw [if_pos h]
  go_enter Tryz.func103,Tryz.ntmps103
  go_wp2
  go_ret
  exact⟨rfl,rfl⟩
 ·rw [if_neg h]
  by_cases h':b<a
  ·rw [if_pos h']
   go_enter Tryz.func103,Tryz.ntmps103
   go_wp2
   go_ret
   exact⟨rfl,rfl⟩
  ·rw [if_neg h']
   go_enter Tryz.func103,Tryz.ntmps103
   go_wp2
   go_ret
   exact⟨rfl,rfl⟩
theorem cmpJ_ne {a b:Int} (h:a≠b):cmpJ a b≠0:=by
 unfold cmpJ
 split
 ·omega
 ·split<;>omega
theorem cmpJ_zero {a b:Int}:cmpJ a b=0↔a=b:=by
 constructor
 ·intro h
  by_cases e:a=b
  ·exact e
  ·exact absurd h (cmpJ_ne e)
 ·rintro rfl;simp [cmpJ]
def CRel (l m:List PC) (B k:Nat):Prop:=k≤B∧l.take k=m.take k
def CmpPost (w:World) (l m:List PC) (e:Ending) (w':World):Prop:=∃ z,e=.returned (.int .i64 z)∧(z=0↔l=m)∧Fr [] w w'
theorem ne_at {l m:List PC} {i:Nat} {a b:PC} (ha:l[i]?=some a) (hb:m[i]?=some b) (h:a≠b):l≠m:=by
 rintro rfl
 exact h (Option.some.inj (ha.symm.trans hb))
set_option maxHeartbeats 8000000 in
set_option maxRecDepth 100000 in
theorem Compare_p {w:World} {l m:List PC} {a b:Option Addr} {ca cb:Nat} (hl:CellsAt w (.slice a l.length ca) l) (hm:CellsAt w (.slice b m.length cb) m) (h1:l.length≤60000) (h2:m.length≤60000) :
  Calls Tryz.prog 61 #[.slice a l.length ca,.slice b m.length cb] w (CmpPost w l m):=by
 have Hl:=Lib.hid hl
 have Hm:=Lib.hid hm
 clear hl hm
 obtain⟨A,hA⟩:∃ A,l.length=A:=⟨_,rfl⟩
 obtain⟨B,hB⟩:∃ B,m.length=B:=⟨_,rfl⟩
 rw [hA] at h1 Hl ⊢
 rw [hB] at h2 Hm ⊢
 have HL:=Lib.hid (And.intro hA hB)
 clear hA hB
 unfold CmpPost
 go_enter Tryz.func61,Tryz.ntmps61
 go_wp2
 go_loopw [5] (fun x wr=>∃ k:Nat,x=.int .i64 (k:Nat)∧k≤A∧CRel l m B k∧Fr [] w wr) (fun x _=>A - (intOf x).toNat)
 case atStart=>exact⟨0,rfl,by omega,⟨by omega,rfl⟩,Fr.refl _ _⟩
 case round =>
  obtain⟨k,rfl,hkA,⟨hkB,ht⟩,hf⟩:=hrel
  have Hf:=Lib.hid hf
  have Ht:=Lib.hid ht
  clear hf ht
  by_cases hla:k<A
  ·have hda:decide ((k:Int)<(A:Int))=true:=by simp;omega
   by_cases hlb:k<B
   ·have hdb:decide ((k:Int)<(B:Int))=true:=by simp;omega
    obtain⟨⟨x,y,st⟩,hp⟩:∃ p,l[k]?=some p:=⟨_,List.getElem?_eq_getElem (by rw [HL.out.1];exact hla)⟩
    obtain⟨⟨u,v,su⟩,hq⟩:∃ p,m[k]?=some p:=⟨_,List.getElem?_eq_getElem (by rw [HL.out.2];exact hlb)⟩
    obtain⟨g,off,rfl,hg,e0,e1,e2⟩:=(Hl.out.fr Hf.out).cell hp
    obtain⟨g',off',rfl,hg',e3,e4,e5⟩:=(Hm.out.fr Hf.out).cell hq
    simp only at e0 e1 e2 e3 e4 e5
    have Ha:=Lib.hid hp
    have Hb:=Lib.hid hq
    clear hp hq
    by_cases hy:y=v
    ·subst hy
     have hyb:(y != y)=false:=by simp
     by_cases hx:x=u
     ·subst hx
      have hxb:(x != x)=false:=by simp
      by_cases hs:st=su
      ·subst hs
       have hsb:(st != st)=false:=by simp
       go_wp2
       (refine wRT (by kernel_rfl) (by kernel_rfl) ?_)
       go_wp2
       refine Strict.intro rfl ?_
       go_wp2
       (refine wRT (by kernel_rfl) (by kernel_rfl) ?_)
       go_wp2
       refine Strict.intro rfl ?_
       go_wp2
       (refine wRT (by kernel_rfl) (by kernel_rfl) ?_)
       go_wp2
       refine Strict.intro rfl ?_
       have HLB:=Lib.hid hlb
       go_wp2
       go_roundw
       case rel =>
        refine⟨k+1,by go_num,by omega,⟨by have:=HLB.out;omega,?_⟩,by have:=Hf.out;(repeat first|exact Fr.refl _ _|assumption|apply Fr.n|apply Fr.d|apply Fr.a|refine Fr.s ?_ (.inr (by simp;try omega)) _)⟩
        rw [List.take_add_one,List.take_add_one,Ht.out,Ha.out,Hb.out]
       case measure=>simp [intOf];omega
      ·have HS1:=Lib.hid hs
       clear hs
       go_wp2
       (refine wRT (by kernel_rfl) (by kernel_rfl) ?_)
       go_wp2
       refine Strict.intro rfl ?_
       go_wp2
       (refine wRT (by kernel_rfl) (by kernel_rfl) ?_)
       go_wp2
       refine Strict.intro rfl ?_
       have hs:=HS1.out
       have HNE:=Lib.hid (And.intro (ne_at Ha.out Hb.out (by intro e;cases e;exact hs rfl)) (cmpJ_ne hs))
       have HO:=Lib.hid (order_z st su)
       generalize cmpJ st su=z at HNE HO
       have hnb:(st != su)=true:=by simpa using hs
       clear hs
       go_wp2
       (refine wRT (by kernel_rfl) (by kernel_rfl) ?_)
       go_wp2
       refine Strict.intro rfl ?_
       skip
       go_wp2
       (refine wRT (by kernel_rfl) (by kernel_rfl) ?_)
       go_wp2_with fail
       refine (HO.out _).mono ?_
       rintro e w3 ⟨rfl,rfl⟩
       go_wp2
       refine Strict.intro rfl ?_
       go_wp2
       go_ret
       exact⟨z,rfl,⟨fun h=>absurd h HNE.out.2,fun h=>absurd h HNE.out.1⟩,by have:=Hf.out;(repeat first|exact Fr.refl _ _|assumption|apply Fr.n|apply Fr.d|apply Fr.a|refine Fr.s ?_ (.inr (by simp;try omega)) _)⟩
     ·
      go_wp2
      (refine wRT (by kernel_rfl) (by kernel_rfl) ?_)
      go_wp2
      refine Strict.intro rfl ?_
      have HNE:=Lib.hid (And.intro (ne_at Ha.out Hb.out (by intro e;cases e;exact hx rfl)) (cmpJ_ne hx))
      have HO:=Lib.hid (order_z x u)
      generalize cmpJ x u=z at HNE HO
      have hnb:(x != u)=true:=by simpa using hx
      clear hx
      go_wp2
      (refine wRT (by kernel_rfl) (by kernel_rfl) ?_)
      go_wp2
      refine Strict.intro rfl ?_
      skip
      go_wp2
      (refine wRT (by kernel_rfl) (by kernel_rfl) ?_)
      go_wp2_with fail
      refine (HO.out _).mono ?_
      rintro e w3 ⟨rfl,rfl⟩
      go_wp2
      refine Strict.intro rfl ?_
      go_wp2
      go_ret
      exact⟨z,rfl,⟨fun h=>absurd h HNE.out.2,fun h=>absurd h HNE.out.1⟩,by have:=Hf.out;(repeat first|exact Fr.refl _ _|assumption|apply Fr.n|apply Fr.d|apply Fr.a|refine Fr.s ?_ (.inr (by simp;try omega)) _)⟩
    ·
     have HNE:=Lib.hid (And.intro (ne_at Ha.out Hb.out (by intro e;cases e;exact hy rfl)) (cmpJ_ne hy))
     have HO:=Lib.hid (order_z y v)
     generalize cmpJ y v=z at HNE HO
     have hnb:(y != v)=true:=by simpa using hy
     clear hy
     go_wp2
     (refine wRT (by kernel_rfl) (by kernel_rfl) ?_)
     go_wp2
     refine Strict.intro rfl ?_
     skip
     go_wp2
     (refine wRT (by kernel_rfl) (by kernel_rfl) ?_)
     go_wp2_with fail
     refine (HO.out _).mono ?_
     rintro e w3 ⟨rfl,rfl⟩
     go_wp2
     refine Strict.intro rfl ?_
     go_wp2
     go_ret
     exact⟨z,rfl,⟨fun h=>absurd h HNE.out.2,fun h=>absurd h HNE.out.1⟩,by have:=Hf.out;(repeat first|exact Fr.refl _ _|assumption|apply Fr.n|apply Fr.d|apply Fr.a|refine Fr.s ?_ (.inr (by simp;try omega)) _)⟩
   ·have hdb:decide ((k:Int)<(B:Int))=false:=by simp;omega
    have hne:l≠m:=by rintro rfl;have:=HL.out;omega
    have hAB:(A:Int)≠(B:Int):=by omega
    have HNE:=Lib.hid (And.intro hne (cmpJ_ne hAB))
    have HO:=Lib.hid (order_z (A:Int) (B:Int))
    generalize cmpJ (A:Int) (B:Int)=z at HNE HO
    clear hne hAB
    go_wp2_with fail
    refine (HO.out _).mono ?_
    rintro e w3 ⟨rfl,rfl⟩
    go_wp2
    go_ret
    exact⟨z,rfl,⟨fun h=>absurd h HNE.out.2,fun h=>absurd h HNE.out.1⟩,Hf.out⟩
  ·obtain rfl:k=A:=by omega
   have hda:decide ((k:Int)<(k:Int))=false:=by simp
   have HZ:=Lib.hid (show cmpJ (k:Int) (B:Int)=0↔l=m by
    rw [cmpJ_zero]
    constructor
    ·intro h
     have h:=Int.ofNat.inj h
     have h3:=Ht.out
     rw [List.take_of_length_le (by rw [HL.out.1];exact Nat.le_refl _),List.take_of_length_le (by rw [HL.out.2,← h];exact Nat.le_refl _)] at h3
     exact h3
    ·rintro rfl
     have:=HL.out;omega)
   have HO:=Lib.hid (order_z (k:Int) (B:Int))
   generalize cmpJ (k:Int) (B:Int)=z at HZ HO
   go_wp2_with fail
   refine (HO.out _).mono ?_
   rintro e w3 ⟨rfl,rfl⟩
   go_wp2
   go_ret
   exact⟨z,rfl,HZ.out,Hf.out⟩
theorem Same_p {w:World} {l m:List PC} {a b:Option Addr} {ca cb:Nat} (hl:CellsAt w (.slice a l.length ca) l) (hm:CellsAt w (.slice b m.length cb) m) (h1:l.length≤60000) (h2:m.length≤60000) :
  Calls Tryz.prog 19 #[.slice a l.length ca,.slice b m.length cb] w fun e w'=>e=.returned (.bool (decide (l=m)))∧Fr [] w w':=by
 have HC:=Lib.hid (Compare_p hl hm h1 h2)
 obtain⟨A,hA⟩:∃ A,l.length=A:=⟨_,rfl⟩
 obtain⟨B,hB⟩:∃ B,m.length=B:=⟨_,rfl⟩
 rw [hA,hB] at HC ⊢
 obtain⟨r,hr⟩:∃ r,decide (l=m)=r:=⟨_,rfl⟩
 have HR:=Lib.hid hr
 rw [hr]
 clear hl hm h1 h2 hA hB hr
 go_enter Tryz.func19,Tryz.ntmps19
 go_wp2_with fail
 refine HC.out.mono ?_
 rintro e w1 ⟨z,rfl,hz,hf⟩
 have Hz:=Lib.hid (show (z == 0)=r by rw [← HR.out,Bool.eq_iff_iff];simpa using hz)
 have Hf:=Lib.hid hf
 clear hz hf
 go_wp2
 go_ret
 exact⟨ret_bool' Hz.out,Hf.out⟩
end Go.Proofs.YtdanghnadbkhfaaGreat
end
section
namespace Go.Proofs.YtdanghnadbkhfaaGreat
open Go Go.RowKit Rg Hp Bn
theorem info_i64:(Tryz.prog.info? 3).map (fun i=>(i.zero,i.size,i.bytes))=some (some (.int .i64 0),1,8):=by kernel_rfl
theorem append_i64 {ops:Array Oper} {rest:List Oper} {o:Oper} {a:Act} {W:World} {Q:Exit→Act→World→Prop} (hgd:o.guard=none) {s x:Operand} (ho:o.op=.call { callee:=.builtin .append,args:=#[s,x],argTypes:=#[134,134] })
  {base:Nat} {v:Value} {n:Nat} {xs:List Value} (hs:a.eval s=v) (hown:W.ownsRow base 3 1 v n xs) {nb c:Nat} {y:Int} (hx:a.eval x=.slice (some ⟨nb,0,none⟩) 1 c)
  (hnb:W.heap[nb]?=some (.cells #[.int .i64 y] 3 (0,0))) (hn:n≤4000000000000) (hbase:base≤W.heap.size)
  (h:∀ g cap w',w'.ownsRow base 3 1 (.slice (some ⟨g,0,none⟩) (n+1) cap) (n+1) (xs++[.int .i64 y])→(∀ b,b<W.heap.size→v.ownBlock≠some b→w'.heap[b]?=W.heap[b]?)→Fr v.ownBlock.toList W w'→(v.ownBlock=some g∨g=W.heap.size)→g<w'.heap.size →
   wpList Tryz.prog ops Q rest (a.put o.dst (.slice (some ⟨g,0,none⟩) (n+1) cap)) w'):wpList Tryz.prog ops Q (o::rest) a W :=
 append_new hgd ho Tryz.underlying134 info_i64 rfl (by decide) hs hown hx (news:=[.int .i64 y]) hnb rfl (by intro u hu;simp at hu;subst hu;rfl) (by unfold maxLen;omega) (by omega) hbase h
set_option maxHeartbeats 2000000 in
theorem RRight_calls {w:World} {neg:Bool} {ds:List Nat} {v:Value} (hv:Reads w v ds.length 1 (u32s ds)) (hl:ds.length≤9223372036854775807) :
  Calls Tryz.prog 81 #[.agg #[.bool neg,v]] w fun e w'=>e=.returned (.bool (RightB neg ds))∧Fr [] w w':=by
 obtain⟨_,a,c,rfl,hav⟩:=hv
 have Hav:=Lib.hid hav
 clear hav
 by_cases h0:ds.length=0
 ·have hd:decide ((ds.length:Int)=0)=true:=by simp [h0]
  have hR:RightB neg ds=!neg:=by unfold RightB;rw [if_pos h0]
  have HR:=Lib.hid hR
  obtain rfl:=List.eq_nil_of_length_eq_zero h0
  clear h0 hR hd
  go_enter Tryz.func81,Tryz.ntmps81
  go_wp2
  go_ret
  exact⟨by rw [HR.out];rfl,by (repeat first|exact Fr.refl _ _|assumption|apply Fr.n|apply Fr.d|apply Fr.a|refine Fr.s ?_ (.inr (by simp;try omega)) _)⟩
 ·obtain⟨g,off,rfl,hg,hc⟩:=Hav.out (by omega)
  have hcz:=hc (ds.length - 1) _ (u32s_get (by omega))
  have hd:((ds.length:Int) == 0)=false:=by rw [beq_eq_false_iff_ne];omega
  have hp1:(1:Int)≤ds.length:=by omega
  have hp2:(ds.length:Int) - 1<ds.length:=by omega
  by_cases h64:ds.length≤64
  ·have hd2:decide ((ds.length:Int)≤64)=true:=by simp;omega
   have hR:RightB neg ds=(((ds.getD (ds.length - 1) 0:Nat):Int) != 0):=by
    unfold RightB;rw [if_neg h0,Bool.eq_iff_iff];simp;omega
   have HR:=Lib.hid hR
   have H0:=Lib.hid h0
   generalize ds.getD (ds.length - 1) 0=y at *
   clear h0 hR hc
   go_enter Tryz.func81,Tryz.ntmps81
   go_wp2
   go_ret
   exact⟨by rw [HR.out];rfl,by (repeat first|exact Fr.refl _ _|assumption|apply Fr.n|apply Fr.d|apply Fr.a|refine Fr.s ?_ (.inr (by simp;try omega)) _)⟩
  ·have hd2:decide ((ds.length:Int)≤64)=false:=by simp;omega
   have hR:RightB neg ds=false:=by
    unfold RightB;rw [if_neg h0,Bool.eq_iff_iff];simp;omega
   have HR:=Lib.hid hR
   have H0:=Lib.hid h0
   clear h0 hcz hR hc
   go_enter Tryz.func81,Tryz.ntmps81
   go_wp2
   go_ret
   exact⟨by rw [HR.out];rfl,by (repeat first|exact Fr.refl _ _|assumption|apply Fr.n|apply Fr.d|apply Fr.a|refine Fr.s ?_ (.inr (by simp;try omega)) _)⟩
theorem rdigit_calls {w:World} {ds:List Nat} {v:Value} (hv:Reads w v ds.length 1 (i64s ds)) (hl:ds.length≤1000000) (i:Nat) :
  Calls Tryz.prog 121 #[v,.int .i64 i] w fun e w'=>e=.returned (.int .i64 (ds.getD i 0:Nat))∧w=w':=by
 obtain⟨_,a,c,rfl,hav⟩:=hv
 by_cases h:i<ds.length
 ·obtain⟨g,off,rfl,hg,hc⟩:=hav (by omega)
  have hcz:=hc i _ (i64s_get h)
  clear hc hav
  generalize ds.getD i 0=y at *
  go_enter Tryz.func121,Tryz.ntmps121
  go_wp2
  go_ret
  exact⟨rfl,rfl⟩
 ·have h0:ds.getD i 0=0:=by rw [List.getD_eq_getElem?_getD,List.getElem?_eq_none (by omega)];rfl
  rw [h0]
  clear h0 hav
  go_enter Tryz.func121,Tryz.ntmps121
  go_wp2
  go_ret
  exact⟨rfl,rfl⟩
set_option maxHeartbeats 2000000 in
theorem trim_calls0 {w:World} {ds:List Nat} {a:Option Addr} {c:Nat} (hv:Reads w (.slice a ds.length c) ds.length 1 (i64s ds)) (hD:Dig 256 ds) (hl:ds.length≤1000000) (hc:ds.length≤c) :
  Calls Tryz.prog 106 #[.slice a ds.length c] w fun e w'=>e=.returned (.slice a (trimL 256 ds).length (trimL 256 ds).length)∧w=w':=by
 obtain⟨_,a',c',he,hav⟩:=hv
 cases he
 have Hav:=Lib.hid hav
 have HD:=Lib.hid hD
 clear hav hD
 obtain⟨n,hn⟩:∃ n,ds.length=n:=⟨_,rfl⟩
 rw [hn] at hl hc ⊢
 rw [hn] at Hav
 have Hn:=Lib.hid hn
 clear hn
 go_enter Tryz.func106,Tryz.ntmps106
 go_wp2
 go_loop [3] (fun x=>∃ k:Nat,k≤n∧x=.int .i64 k∧trimL 256 (ds.take k)=trimL 256 ds) (fun x=>(intOf x).toNat)
 case atStart=>exact⟨n,Nat.le_refl _,rfl,by rw [← Hn.out,List.take_length]⟩
 case round =>
  obtain⟨k,hk,rfl,hT⟩:=hrel
  have HT:=Lib.hid hT
  clear hT
  cases k with
  | zero =>
   have e:(trimL 256 ds).length=0:=by rw [← HT.out,List.take_zero,trimL_nil];rfl
   go_wp2
   go_ret
   exact⟨rfl,rfl⟩
  | succ k =>
   obtain⟨g,off,rfl,hg,hcc⟩:=Hav.out (by omega)
   have hkn:k<ds.length:=by have:=Hn.out;omega
   have hcz:=hcc k _ (i64s_get hkn)
   have htk:ds.take (k+1)=ds.take k++[ds.getD k 0]:=by
    rw [List.take_add_one,List.getElem?_eq_getElem (by omega),List.getD_eq_getElem?_getD,List.getElem?_eq_getElem (by omega)];rfl
   have Htk:=Lib.hid htk
   clear hcc htk hkn
   obtain⟨y,hy⟩:∃ y,y=ds.getD k 0:=⟨_,rfl⟩
   rw [← hy] at hcz Htk
   have Hy:=Lib.hid hy
   clear hy
   by_cases hz:y=0
   ·subst hz
    go_wp2
    go_round
    case rel=>exact⟨k,by omega,by go_num,by have:=HT.out;rwa [Htk.out,trimL_zero] at this⟩
    case measure=>simp [intOf]
   ·have hb:((y:Int) == 0)=false:=by rw [beq_eq_false_iff_ne];omega
    have Hz:=Lib.hid hz
    clear hz
    have e:(trimL 256 ds).length=k+1:=by
     have hT:=HT.out
     have hD:=HD.out.take (k+1)
     rw [Htk.out] at hT hD
     rw [trimL_canon (by omega) hD (canon_snoc Hz.out)] at hT
     rw [← hT,List.length_append,List.length_take,Nat.min_eq_left (by have:=Hn.out;omega)]
     rfl
    have E:=Lib.hid e
    clear e
    go_wp2
    go_ret
    exact⟨by rw [E.out];rfl,rfl⟩
end Go.Proofs.YtdanghnadbkhfaaGreat
end
section
namespace Go.Proofs.YtdanghnadbkhfaaGreat
open Go Go.RowKit Rg Hp Bn
theorem trim_calls {w:World} {ds:List Nat} {a:Option Addr} {c:Nat} (hv:Reads w (.slice a ds.length c) ds.length 1 (i64s ds)) (hD:Dig 256 ds) (hl:ds.length≤1000000) (hc:ds.length≤c) {A:Nat→Prop} (hlo:∀ g,(Value.slice a ds.length c).ownBlock=some g→A g) :
  Calls Tryz.prog 106 #[.slice a ds.length c] w (ListPost w A (dg 256 (val 256 ds))):=by
 refine (trim_calls0 hv hD hl hc).mono ?_
 rintro e w1 ⟨rfl,rfl⟩
 exact⟨a,_,⟨Nat.le_refl _,fun g hg=>hlo g (own_len a _ _ _ c▸hg)⟩,rfl,(reads_trim' hv hD _).1,Fr.refl _ _⟩
set_option maxHeartbeats 4000000 in
set_option maxRecDepth 100000 in
theorem bytes_calls {w:World} {neg:Bool} {ds:List Nat} {v:Value} (hv:Reads w v ds.length 1 (u32s ds)) (hD:Dig 4294967296 ds) (hl:ds.length≤100000) :
  Calls Tryz.prog 82 #[.agg #[.bool neg,v]] w (ListPost w (w.heap.size<·) (dg 256 (val 4294967296 ds))):=by
 obtain⟨_,a,c,rfl,hav⟩:=hv
 have Hav:=Lib.hid hav
 have HD:=Lib.hid hD
 clear hav hD
 obtain⟨n,hn⟩:∃ n,ds.length=n:=⟨_,rfl⟩
 rw [hn] at hl ⊢
 rw [hn] at Hav
 have Hn:=Lib.hid hn
 clear hn
 go_enter Tryz.func82,Tryz.ntmps82
 go_wp2_with fail
 go_loopw [3,4] (fun x3 x4 wl=>∃ (i:Nat) (L:List Nat),x4=.int .i64 i∧i≤n∧Dig 256 L∧L.length=4*i∧val 256 L=val 4294967296 (ds.take i)∧wl.ownsRow (w.heap.size+1) 3 1 x3 L.length (i64s L)∧Fr [] w wl ∧
  wl.heap[w.heap.size]?=some (.cells #[.bool neg,.slice a n c] 27 (0,0))) (fun _ x4 _=>n - (intOf x4).toNat)
 case atStart=>exact⟨0,[],rfl,by omega,Dig.nil,rfl,rfl,World.ownsRow_nil _ _ _ _,by (repeat first|exact Fr.refl _ _|assumption|apply Fr.n|apply Fr.d|apply Fr.a|refine Fr.s ?_ (.inr (by simp;try omega)) _),by (repeat first|rw [if_pos (by omega)]|rw [if_neg (by omega)]|rw [hDR]|rw [hDN]|rw [hAz]|rw [hSz]|rw [hAC]|rw [hSC]|rw [oMS]|rw [uPC]|rw [lSZ]|rw [lSS]|rfl)⟩
 case round =>
  obtain⟨i,L,rfl,hi,hD,hL,hv,ho,hf,hb⟩:=hrel
  obtain⟨oa,oc,rfl,hoa,hon⟩:=oFM ho
  have b0:=hEC hb 0
  have b1:=hEC hb 1
  have bl:=lBk hb
  have HDL:=Lib.hid hD
  have HL:=Lib.hid hL
  have Hv:=Lib.hid hv
  have Ho:=Lib.hid ho
  have Hf:=Lib.hid hf
  have Hb:=Lib.hid hb
  clear hoa hon hD hL hv ho hb
  by_cases hin:i<n
  ·obtain⟨g,off,rfl,hg,hc⟩:=Hav.out (by have:=Hn.out;omega)
   have e1:=(hf.cell (p:=⟨g,off+i,none⟩) hg (by simp)).trans (hc i _ (u32s_get (by have:=Hn.out;omega)))
   have hx:ds.getD i 0<4294967296:=HD.out.getD (by omega) i
   have Hvt:=Lib.hid (val_take_succ 4294967296 ds i)
   clear hc hf
   generalize ds.getD i 0=x at *
   go_wp2_with fail
   clear e1 b0 b1 bl
   go_loopw [3,5,6] (fun x3 x5 x6 wl=>∃ (k d2:Nat) (L2:List Nat),x5=.int .u32 d2∧x6=.int .i64 k∧k≤4∧d2<256 ^ (4 - k)∧Dig 256 L2∧L2.length=4*i+k∧val 256 L2+256 ^ (4*i+k)*d2=val 4294967296 (ds.take i)+4294967296 ^ i*x ∧
    wl.ownsRow (w.heap.size+1) 3 1 x3 L2.length (i64s L2)∧Fr [] w wl∧wl.heap[w.heap.size]?=some (.cells #[.bool neg,.slice (some ⟨g,off,none⟩) n c] 27 (0,0))) (fun _ _ x6 _=>4 - (intOf x6).toNat)
   case atStart=>exact⟨0,x,L,rfl,rfl,by omega,hx,HDL.out,HL.out,by rw [Hv.out,Nat.add_zero,pow256],Ho.out,Hf.out,Hb.out⟩
   case round =>
    obtain⟨k,d2,L2,rfl,rfl,hk,hd2,hD2,hL2,hv2,ho2,hf2,hb2⟩:=hrel
    obtain⟨oa2,oc2,rfl,hoa2,hon2⟩:=oFM ho2
    have HD2:=Lib.hid hD2
    have HL2:=Lib.hid hL2
    have Hv2:=Lib.hid hv2
    have Ho2:=Lib.hid ho2
    have Hf2:=Lib.hid hf2
    have Hb2:=Lib.hid hb2
    have Hd2:=Lib.hid hd2
    have hd2b:d2<4294967296:=Nat.lt_of_lt_of_le hd2 (Nat.pow_le_pow_right (show 0<256 by omega) (show 4 - k≤4 by omega))
    clear hoa2 hon2 hD2 hL2 hv2 ho2 hf2 hb2 hd2
    by_cases hk4:k<4
    ·obtain⟨r,hr⟩:∃ r,r=d2 % 256:=⟨_,rfl⟩
     have Er:((d2:Int) % 256)=(r:Nat):=by omega
     have hr256:r<256:=by omega
     have Hr:=Lib.hid hr
     clear hr
     go_wp2_with (at_builtin;refine append_i64 (n:=L2.length) (base:=w.heap.size+1) (xs:=i64s L2) (y:=(r:Int)) rfl rfl rfl ?e1 rfl ?e2 ?e3 ?e4 ?_)
     case e1=>exact oOB Ho2.out fun y hy=>hAE _ _ _ (oLT Ho2.out hy)
     case e2=>(repeat first|rw [if_pos (by omega)]|rw [if_neg (by omega)]|rw [hDR]|rw [hDN]|rw [hAz]|rw [hSz]|rw [hAC]|rw [hSC]|rw [oMS]|rw [uPC]|rw [lSZ]|rw [lSS]|rfl)
     case e3=>have:=HL2.out;omega
     case e4=>have:=Hf2.out.size;have:=lBk Hb2.out;(first|omega|(simp only [hDR,hDN,hAz];omega)|(simp;omega))
     intro g2 cap w9 hown1 hW1 hF1 hloc1 hg1
     rw [i64s_snoc] at hown1
     have Hb9:=Lib.hid ((hW1 w.heap.size (by have:=lBk Hb2.out;(first|omega|(simp only [hDR,hDN,hAz];omega)|(simp;omega))) (fun e=>by have h:=owns_ge Ho2.out e;omega)).trans ((hAE _ _ _ (lBk Hb2.out)).trans Hb2.out))
     have Hown1:=Lib.hid hown1
     have Hf9:=Lib.hid (fr_append Hf2.out (owns_base Ho2.out (Nat.le_succ _)) hF1)
     clear hown1 hW1 hF1 hloc1
     go_wp2
     go_roundw
     case rel =>
      refine⟨k+1,d2 / 256,L2++[r],by go_num,by go_num,by omega,?_,HD2.out.append (fun z hz=>by rw [List.mem_singleton] at hz;omega),by rw [List.length_append];have:=HL2.out;simp;omega,?_,by rw [List.length_append];exact Hown1.out,Hf9.out,Hb9.out⟩
      ·have h:=Hd2.out
       rw [show 4 - k=(4 - (k+1))+1 by omega,Nat.pow_succ] at h
       rw [Nat.div_lt_iff_lt_mul (by omega)]
       exact h
      ·rw [val_snoc,HL2.out,Hr.out,show 4*i+(k+1)=4*i+k+1 by omega,Nat.pow_succ]
       exact bytes_step Hv2.out
     case measure=>simp [intOf];omega
    ·obtain rfl:k=4:=by omega
     have hd0:d2=0:=by have:=Hd2.out;omega
     have hv9:val 256 L2=val 4294967296 (ds.take (i+1)):=by have h:=Hv2.out;rw [hd0,Nat.mul_zero,Nat.add_zero] at h;rw [Hvt.out];exact h
     have Hv9:=Lib.hid hv9
     clear hv9 hd0 hd2b
     go_wp2
     go_roundw
     case rel=>exact⟨i+1,L2,by go_num,by omega,HD2.out,by have:=HL2.out;omega,Hv9.out,Ho2.out,Hf2.out,Hb2.out⟩
     case measure=>simp [intOf];omega
  ·obtain rfl:i=n:=by omega
   have hv:=Hv.out
   rw [List.take_of_length_le (by have:=Hn.out;omega)] at hv
   have ht:=trim_calls (Reads.of_owns Ho.out) HDL.out (by have:=HL.out;omega) (owns_cap Ho.out) (A:=fun g=>w.heap.size<g) (fun g hg=>owns_ge Ho.out hg)
   rw [hv] at ht
   have Ht:=Lib.hid ht
   clear ht hv hf
   go_wp2_with fail
   refine Ht.out.mono ?_
   rintro e w4 ⟨ra,rc,hlo,rfl,hr,hf⟩
   have Hf5:=Lib.hid (Hf.out.trans0 hf)
   have Hr:=Lib.hid hr
   have Hlo:=Lib.hid hlo
   clear hf hr hlo b0 b1 bl
   go_wp2
   go_ret
   exact⟨ra,rc,Hlo.out,rfl,Hr.out,Hf5.out⟩
end Go.Proofs.YtdanghnadbkhfaaGreat
end
section
namespace Go.Proofs.YtdanghnadbkhfaaGreat
open Go Go.RowKit Rg Hp Bn
set_option maxHeartbeats 8000000 in
set_option maxRecDepth 100000 in
theorem big_calls {w:World} {neg:Bool} {ds:List Nat} {a:Option Addr} {c:Nat} (hv:Reads w (.slice a ds.length c) ds.length 1 (i64s ds)) (hD:Dig 256 ds) (hl:ds.length≤100000) (hc:ds.length≤c) :
  Calls Tryz.prog 80 #[.bool neg,.slice a ds.length c] w (BigPost w (w.heap.size≤·) (mkN neg (val 256 ds))):=by
 have htr:=fun w1 (hf:Fr [] w w1)=>trim_calls (hv.fr hf) hD (by omega) hc (A:=fun _=>True) (fun _ _=>trivial)
 obtain⟨V,hV⟩:∃ V,V=val 256 ds:=⟨_,rfl⟩
 have hTl:(dg 256 V).length≤ds.length:=by rw [hV];exact (reads_trim' hv hD 0).2
 rw [← hV] at htr ⊢
 obtain⟨T,hT⟩:∃ T,dg 256 V=T:=⟨_,rfl⟩
 have hTD:Dig 256 T:=by rw [← hT];exact dg_dig (by omega) V
 have hTC:Canon T:=by rw [← hT];exact dg_canon (by omega) V
 have hTV:val 256 T=V:=by rw [← hT];exact val_dg (by omega) V
 have h256:T.length≤256↔V<4294967296 ^ 64:=by rw [← hT,dg_length_le (by omega),show 256 ^ 256=4294967296 ^ 64 from pow256 64]
 have h0:T=[]↔V=0:=by rw [← hT];exact dg_eq_nil (by omega)
 rw [hT] at htr hTl
 obtain⟨r,hS⟩:∃ r,r=mkN neg V:=⟨_,rfl⟩
 rw [← hS]
 unfold mkN at hS
 have Htr:=Lib.hid htr
 have HTD:=Lib.hid hTD
 have HTC:=Lib.hid hTC
 have HTV:=Lib.hid hTV
 have H0:=Lib.hid h0
 clear htr hTD hTC hTV h0 hv hD hV hT
 by_cases hbig:T.length≤256
 rotate_left
 ·have hd:decide ((256:Int)<T.length)=true:=by rw [decide_eq_true_eq];omega
  rw [if_neg (fun h=>by have:=H0.out.2 h;rw [this] at hbig;simp at hbig),if_neg (fun h=>hbig (h256.2 h))] at hS
  subst hS
  clear hbig h256
  go_enter Tryz.func80,Tryz.ntmps80
  go_wp2_with fail
  refine (Htr.out _ (by (repeat first|exact Fr.refl _ _|assumption|apply Fr.n|apply Fr.d|apply Fr.a|refine Fr.s ?_ (.inr (by simp;try omega)) _))).mono ?_
  rintro e w1 ⟨ta,tc,hlo,rfl,hr,hf⟩
  have hc_:=(hf.block (w.heap.size) (by first|(simp;done)|(simp;omega)) (by simp)).trans (show _=some (.cells #[.bool false,.slice none 0 0] 27 (0,0)) by (repeat first|rw [if_pos (by omega)]|rw [if_neg (by omega)]|rw [hDR]|rw [hDN]|rw [hAz]|rw [hSz]|rw [hAC]|rw [hSC]|rw [oMS]|rw [uPC]|rw [lSZ]|rw [lSS]|rfl))
  have c0:=hEC hc_ 0
  have c0z:=hEF hc_ 0
  have c1:=hEC hc_ 1
  have c1z:=hEF hc_ 1
  have cl:=lBk hc_
  have Hc:=Lib.hid hc_
  clear hc_
  have Hf:=Lib.hid (Fr.trans0 (by (repeat first|exact Fr.refl _ _|assumption|apply Fr.n|apply Fr.d|apply Fr.a|refine Fr.s ?_ (.inr (by simp;try omega)) _):Fr [] w _) hf)
  clear hf hlo hr
  go_wp2
  (try simp only [Exit.inBlock,Exit.then])
  refine bodyPost_ret (bRS rfl (b:=w.heap.size) (x:=.bool false) (y:=.slice none 0 0) rfl ?_ rfl) rfl ⟨_,_,⟨Nat.le_refl _,fun g hg=>(by cases hg)⟩,rfl,reads_nil _,?_⟩
  ·have h:=Hc.out
   (repeat first|rw [if_pos (by omega)]|rw [if_neg (by omega)]|rw [hDR]|rw [hDN]|rw [hAz]|rw [hSz]|rw [hAC]|rw [hSC]|rw [oMS]|rw [uPC]|rw [lSZ]|rw [lSS]|rfl)
   rw [h]
   (repeat first|rw [if_pos (by omega)]|rw [if_neg (by omega)]|rw [hDR]|rw [hDN]|rw [hAz]|rw [hSz]|rw [hAC]|rw [hSC]|rw [oMS]|rw [uPC]|rw [lSZ]|rw [lSS]|rfl)
  ·exact (Hf.out.setCell (.inr (by simp)) _).setCell (.inr (by simp)) _
 ·have hd:decide ((256:Int)<T.length)=false:=by rw [decide_eq_false_iff_not];omega
  have hS2:r=(neg && decide (0<T.length),dg 4294967296 V,0):=by
   rw [hS]
   by_cases hV0:V=0
   ·rw [if_pos hV0,hV0,dg_zero,H0.out.2 hV0];simp
   ·rw [if_neg hV0,if_pos (h256.1 hbig)]
    have:0<T.length:=List.length_pos_iff.2 (fun h=>hV0 (H0.out.1 h))
    simp [this]
  have HS:=Lib.hid hS2
  obtain⟨n,hn⟩:∃ n,T.length=n:=⟨_,rfl⟩
  rw [hn] at hbig hTl hd
  have Hn:=Lib.hid hn
  clear hS hS2 h256 hn
  go_enter Tryz.func80,Tryz.ntmps80
  go_wp2_with fail
  refine (Htr.out _ (by (repeat first|exact Fr.refl _ _|assumption|apply Fr.n|apply Fr.d|apply Fr.a|refine Fr.s ?_ (.inr (by simp;try omega)) _))).mono ?_
  rintro e w1 ⟨ta,tc,hlo,rfl,hr,hf⟩
  rw [Hn.out] at hr ⊢
  have hc_:=(hf.block (w.heap.size) (by first|(simp;done)|(simp;omega)) (by simp)).trans (show _=some (.cells #[.bool false,.slice none 0 0] 27 (0,0)) by (repeat first|rw [if_pos (by omega)]|rw [if_neg (by omega)]|rw [hDR]|rw [hDN]|rw [hAz]|rw [hSz]|rw [hAC]|rw [hSC]|rw [oMS]|rw [uPC]|rw [lSZ]|rw [lSS]|rfl))
  have c0:=hEC hc_ 0
  have c0z:=hEF hc_ 0
  have c1:=hEC hc_ 1
  have c1z:=hEF hc_ 1
  have cl:=lBk hc_
  have Hc:=Lib.hid hc_
  clear hc_
  have Hf:=Lib.hid (Fr.trans0 (by (repeat first|exact Fr.refl _ _|assumption|apply Fr.n|apply Fr.d|apply Fr.a|refine Fr.s ?_ (.inr (by simp;try omega)) _):Fr [] w _) hf)
  have Hr:=Lib.hid hr
  have hrr:=hr
  obtain⟨_,_,_,he,hra⟩:=hrr
  cases he
  have Hra:=Lib.hid hra
  clear hf hlo hr hra c0 c1 c0z c1z
  go_wp2_with fail
  go_loopw [7] (fun x7 wl=>∃ (j:Nat) (l:List Nat) (oa:Option Addr) (oc:Nat),x7=.int .i64 (4*(j:Int))∧4*j<n+4∧l.length=j∧Dig 4294967296 l∧val 4294967296 l=val 256 (T.take (4*j))∧wl.ownsRow (w1.heap.size+1) 106 1 (.slice oa j oc) j (u32s l)∧Fr [] w1 wl ∧
   wl.heap[w1.heap.size]?=some (.cells #[.bool false,.slice oa j oc] 27 (0,0))) (fun x7 _=>n+4 - (intOf x7).toNat)
  case atStart=>exact⟨0,[],none,0,rfl,by omega,rfl,Dig.nil,rfl,World.ownsRow_nil _ _ _ _,by (repeat first|exact Fr.refl _ _|assumption|apply Fr.n|apply Fr.d|apply Fr.a|refine Fr.s ?_ (.inr (by simp;try omega)) _),by (repeat first|rw [if_pos (by omega)]|rw [if_neg (by omega)]|rw [hDR]|rw [hDN]|rw [hAz]|rw [hSz]|rw [hAC]|rw [hSC]|rw [oMS]|rw [uPC]|rw [lSZ]|rw [lSS]|rfl)⟩
  case round =>
   obtain⟨j,l,oa,oc,rfl,hj,hlj,hDl,hvl,ho,hf,hb⟩:=hrel
   have b0:=hEC hb 0
   have b1:=hEC hb 1
   have b0z:=hEF hb 0
   have b1z:=hEF hb 1
   have bl:=lBk hb
   have HDl:=Lib.hid hDl
   have Hlj:=Lib.hid hlj
   have Hvl:=Lib.hid hvl
   have Ho:=Lib.hid ho
   have Hf2:=Lib.hid hf
   have Hb:=Lib.hid hb
   have hf1:=hf.size
   clear hlj hDl hvl ho hf hb
   by_cases hjn:4*j<n
   ·have hjd:decide ((4:Int)*j<n)=true:=by rw [decide_eq_true_eq];omega
    obtain⟨g,off,rfl,hg,hc2⟩:=Hra.out (by omega)
    go_wp2_with fail
    go_loopw [8,9] (fun x8 x9 wl=>∃ (k d:Nat) (z:Int),x8=.int .u32 d∧x9=.int .i64 z∧z=(k:Int) - 1∧k≤4∧d<256 ^ (4 - k)∧d=val 256 ((T.drop (4*j+k)).take (4 - k))∧wl=wr) (fun _ x9 _=>(intOf x9+1).toNat)
    case atStart=>exact⟨4,0,3,rfl,rfl,rfl,by omega,by omega,by simp [val],rfl⟩
    case round =>
     obtain⟨k,d,z,rfl,rfl,hz,hk,hd2,hdv,rfl⟩:=hrel
     have Hd2:=Lib.hid hd2
     have Hdv:=Lib.hid hdv
     clear hd2 hdv
     cases k with
     | zero =>
      obtain rfl:z=-1:=by omega
      have hdv:=Hdv.out
      rw [Nat.add_zero,Nat.sub_zero] at hdv
      have hd9:d<4294967296:=Hd2.out
      have hv9:val 4294967296 (l++[d])=val 256 (T.take (4*(j+1))):=by
       rw [val_snoc,Hvl.out,Hlj.out,show 4*(j+1)=4*j+4 by omega,val_take4 T (4*j) (by have:=Hn.out;omega),pow256,← hdv]
      have Hv9:=Lib.hid hv9
      have hD9:Dig 4294967296 (l++[d]):=HDl.out.append (fun z hz=>by rw [List.mem_singleton] at hz;omega)
      have HD9:=Lib.hid hD9
      clear hz hdv hv9 hD9
      go_wp2_with (at_builtin;refine append_u32 (n:=j) (base:=w1.heap.size+1) (xs:=u32s l) (y:=(d:Int)) rfl rfl rfl ?e1 rfl ?e2 ?e3 ?e4 ?_)
      case e1=>exact oOB Ho.out fun y hy=>hAE _ _ _ (oLT Ho.out hy)
      case e2=>(first|(rw [hAC,if_pos rfl];done)|exact (Array.getElem?_eq_some_iff.1 ((hAC _ _ _).trans (if_pos rfl))).2|(simp only [hDR,hDN];rw [hAC,if_pos rfl];done))
      case e3=>omega
      case e4=>have:=lBk Hb.out;(first|omega|(simp only [hDR,hDN,hAz];omega)|(simp;omega))
      intro g2 cap w9 hown1 hW1 hF1 hloc1 hg1
      rw [u32s_snoc] at hown1
      have hb9:=(hW1 w1.heap.size (by have:=lBk Hb.out;(first|omega|(simp only [hDR,hDN,hAz];omega)|(simp;omega))) (fun e=>by have h:=owns_ge Ho.out e;omega)).trans ((hAE _ _ _ (lBk Hb.out)).trans Hb.out)
      have Hown1:=Lib.hid hown1
      have Hf9:=Lib.hid (fr_append Hf2.out (owns_base Ho.out (Nat.le_succ _)) hF1)
      have q0:=hEC hb9 0
      have q1:=hEC hb9 1
      have q0z:=hEF hb9 0
      have q1z:=hEF hb9 1
      have ql:=lBk hb9
      have Hb9:=Lib.hid hb9
      have Hg2:Hid (w1.heap.size+1≤g2):=Lib.hid (owns_ge hown1 rfl)
      clear hown1 hW1 hF1 hloc1 hb9 b0 b1 b0z b1z bl
      go_wp2
      go_roundw
      case rel =>
       refine⟨j+1,l++[d],some ⟨g2,0,none⟩,cap,by go_num,by omega,by rw [List.length_append,Hlj.out];rfl,HD9.out,Hv9.out,oOB Hown1.out (fun x hx=>?_),Hf9.out.setCell (.inr (by simp)) _,?_⟩
       ·have h2:g2=x:=by simpa [Value.ownBlock] using hx
        have:=Hg2.out
        exact sCE _ _ _ (by simp;omega)
       ·have h:=Hb9.out
        (repeat first|rw [if_pos (by omega)]|rw [if_neg (by omega)]|rw [hDR]|rw [hDN]|rw [hAz]|rw [hSz]|rw [hAC]|rw [hSC]|rw [oMS]|rw [uPC]|rw [lSZ]|rw [lSS]|rfl)
        rw [h]
        (repeat first|rw [if_pos (by omega)]|rw [if_neg (by omega)]|rw [hDR]|rw [hDN]|rw [hAz]|rw [hSz]|rw [hAC]|rw [hSC]|rw [oMS]|rw [uPC]|rw [lSZ]|rw [lSS]|rfl)
      case measure=>simp [intOf];omega
     | succ k =>
      obtain rfl:z=(k:Int):=by omega
      clear hz
      have hd3:d<16777216:=Nat.lt_of_lt_of_le Hd2.out (Nat.pow_le_pow_right (show 0<256 by omega) (show 4 - (k+1)≤3 by omega))
      have hq:=val_quad T (4*j) k (by omega)
      rw [← Hdv.out] at hq
      have Hq:=Lib.hid hq
      have hx:T.getD (4*j+k) 0<256:=HTD.out.getD (by omega) _
      have hp2:T.getD (4*j+k) 0+256*d<256 ^ (4 - k):=by
       have h:=Hd2.out
       rw [show 4 - k=(4 - (k+1))+1 by omega,Nat.pow_succ]
       omega
      have Hp2:=Lib.hid hp2
      clear hq hp2
      by_cases hin:4*j+k<n
      ·have hdi:decide ((4:Int)*j+k<n)=true:=by rw [decide_eq_true_eq];omega
       have e1:=(Hf2.out.cell (p:=⟨g,off+(4*j+k),none⟩) hg (by simp)).trans (hc2 (4*j+k) _ (i64s_get (by have:=Hn.out;omega)))
       generalize T.getD (4*j+k) 0=x at *
       go_wp2
       go_roundw
       case rel=>exact⟨k,x+256*d,(k:Int) - 1,by go_num,by go_num,rfl,by omega,Hp2.out,Hq.out.symm,trivial⟩
       case measure=>simp [intOf]
      ·have hdi:decide ((4:Int)*j+k<n)=false:=by rw [decide_eq_false_iff_not];omega
       have hx0:T.getD (4*j+k) 0=0:=by rw [List.getD_eq_getElem?_getD,List.getElem?_eq_none (by have:=Hn.out;omega)];rfl
       have hp2:=Hp2.out
       have hq:=Hq.out
       rw [hx0,Nat.zero_add] at hp2 hq
       have Hp2:=Lib.hid hp2
       have Hq:=Lib.hid hq
       clear hp2 hq hx hx0
       go_wp2
       go_roundw
       case rel=>exact⟨k,256*d,(k:Int) - 1,by go_num,by go_num,rfl,by omega,Hp2.out,Hq.out.symm,trivial⟩
       case measure=>simp [intOf]
   ·have hjd:decide ((4:Int)*j<n)=false:=by rw [decide_eq_false_iff_not];omega
    have hl:l=dg 4294967296 V:=by
     have hv:=Hvl.out
     rw [List.take_of_length_le (by have:=Hn.out;omega),HTV.out] at hv
     have hcan:Canon l:=by
      rcases Nat.eq_zero_or_pos j with h|h
      ·have h2:=Hlj.out
       rw [h] at h2
       rw [List.eq_nil_of_length_eq_zero h2];simp [Canon]
      ·refine canon_of_ge HDl.out ?_
       have hne:T≠[]:=fun e=>by have h2:=Hn.out;rw [e] at h2;simp at h2;omega
       have h2:=canon_le (B:=256) (by omega) HTD.out HTC.out hne
       rw [hv,Hlj.out]
       rw [HTV.out,Hn.out] at h2
       refine Nat.le_trans ?_ h2
       rw [← pow256]
       exact Nat.pow_le_pow_right (by omega) (by omega)
     rw [← hv,dg_val (by omega) HDl.out hcan]
    have hS:=HS.out
    rw [← hl,Hn.out] at hS
    have HS2:=Lib.hid hS
    obtain⟨ngn,hngn⟩:∃ ngn,(neg && decide (0<n))=ngn:=⟨_,rfl⟩
    rw [hngn] at HS2
    have hdn:decide ((0:Int)<n)=decide (0<n):=by rw [decide_eq_decide];omega
    have Hc1:=Lib.hid ((Hf2.out.block _ (lBk Hc.out) (by simp)).trans Hc.out)
    have c0:=hEC Hc1.out 0
    have c1:=hEC Hc1.out 1
    have c0z:=hEF Hc1.out 0
    have c1z:=hEF Hc1.out 1
    have cl2:=lBk Hc1.out
    have hcb:w.heap.size<w1.heap.size:=cl
    have Hf9:=Lib.hid (Hf.out.trans0 Hf2.out)
    clear hl hS cl hj
    cases neg
    ·have Hng:Hid (ngn=false):=Lib.hid (by rw [← hngn];rfl)
     clear hngn hdn hjd
     go_wp2
     (try simp only [Exit.inBlock,Exit.then])
     rw [HS2.out,Hng.out]
     have hlj:=Hlj.out
     refine bodyPost_ret (bRS rfl (b:=w.heap.size) (x:=.bool false) (y:=.slice oa j oc) rfl ?_ rfl) rfl ⟨oa,oc,⟨by show l.length≤oc;rw [hlj];exact owns_cap Ho.out,fun g hg=>?_⟩,by rw [← hlj];rfl,?_,?_⟩
     ·have h:=Hc1.out
      (repeat first|rw [if_pos (by omega)]|rw [if_neg (by omega)]|rw [hDR]|rw [hDN]|rw [hAz]|rw [hSz]|rw [hAC]|rw [hSC]|rw [oMS]|rw [uPC]|rw [lSZ]|rw [lSS]|rfl)
      rw [h]
      (repeat first|rw [if_pos (by omega)]|rw [if_neg (by omega)]|rw [hDR]|rw [hDN]|rw [hAz]|rw [hSz]|rw [hAC]|rw [hSC]|rw [oMS]|rw [uPC]|rw [lSZ]|rw [lSS]|rfl)
     ·have h:=owns_ge Ho.out (own_len oa _ _ _ oc▸hg)
      omega
     ·show Reads _ (.slice oa l.length oc) l.length 1 (u32s l)
      rw [hlj]
      refine (Reads.of_owns Ho.out).keep fun x hx hl=>?_
      have h:=owns_ge Ho.out hx
      rw [sCE _ _ _ (by simp;omega),sCE _ _ _ (by simp;omega),sCE _ _ _ (by simp;omega)]
     ·exact ((Hf9.out.setCell (.inr (by simp;try omega)) _).setCell (.inr (by simp;try omega)) _).setCell (.inr (by simp;try omega)) _
    ·have hdn2:decide (0<n)=ngn:=by rw [← hngn];rfl
     clear hngn
     go_wp2
     (try simp only [Exit.inBlock,Exit.then])
     rw [HS2.out]
     have hlj:=Hlj.out
     refine bodyPost_ret (bRS rfl (b:=w.heap.size) (x:=.bool ngn) (y:=.slice oa j oc) rfl ?_ rfl) rfl ⟨oa,oc,⟨by show l.length≤oc;rw [hlj];exact owns_cap Ho.out,fun g hg=>?_⟩,by rw [← hlj];rfl,?_,?_⟩
     ·have h:=Hc1.out
      (repeat first|rw [if_pos (by omega)]|rw [if_neg (by omega)]|rw [hDR]|rw [hDN]|rw [hAz]|rw [hSz]|rw [hAC]|rw [hSC]|rw [oMS]|rw [uPC]|rw [lSZ]|rw [lSS]|rfl)
      rw [h]
      (repeat first|rw [if_pos (by omega)]|rw [if_neg (by omega)]|rw [hDR]|rw [hDN]|rw [hAz]|rw [hSz]|rw [hAC]|rw [hSC]|rw [oMS]|rw [uPC]|rw [lSZ]|rw [lSS]|rfl)
     ·have h:=owns_ge Ho.out (own_len oa _ _ _ oc▸hg)
      omega
     ·show Reads _ (.slice oa l.length oc) l.length 1 (u32s l)
      rw [hlj]
      refine (Reads.of_owns Ho.out).keep fun x hx hl=>?_
      have h:=owns_ge Ho.out hx
      rw [sCE _ _ _ (by simp;omega),sCE _ _ _ (by simp;omega),sCE _ _ _ (by simp;omega)]
     ·exact ((Hf9.out.setCell (.inr (by simp;try omega)) _).setCell (.inr (by simp;try omega)) _).setCell (.inr (by simp;try omega)) _
end Go.Proofs.YtdanghnadbkhfaaGreat
end
