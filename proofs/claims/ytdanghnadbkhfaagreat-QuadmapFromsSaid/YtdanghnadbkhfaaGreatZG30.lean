/- Own texts of this claim, part 31: no condition. -/
import Derived.IntWalk
import Derived.Test.YtdanghnadbkhfaaGreatZG26
import Derived.Test.YtdanghnadbkhfaaGreatZG28
import Derived.Test.YtdanghnadbkhfaaGreatZG17
import Derived.Test.YtdanghnadbkhfaaGreatZG22
set_option linter.unusedVariables false
set_option linter.unusedSimpArgs false
section
namespace Go.Proofs.YtdanghnadbkhfaaGreat
open Go Go.RowKit Rg Mp Hp Qs Ev Bn Pt
def qX (H X q:Nat):Nat:=X+if q % 2=1 then H else 0
def qY (H Y q:Nat):Nat:=Y+if 2≤q then H else 0
def cellsQ (n:Nat) (t:Tr) (X Y:Nat):Nat→List Spot
 | 0=>[]
 | q+1=>cellsQ n t X Y q++cellsT n (Tr.q t q) (qX (2 ^ n) X q) (qY (2 ^ n) Y q)
theorem cellsQ_four {n:Nat} {t:Tr} {X Y:Nat} (h:Full (n+1) t):cellsT (n+1) t X Y=cellsQ n t X Y 4:=by
 cases t with
 | leaf v=>exact h.elim
 | node a b c d=>simp [cellsQ,cellsT,Tr.q,qX,qY]
theorem shC_append (x0 y0:Int) (L M:List Spot):shC x0 y0 (L++M)=shC x0 y0 L++shC x0 y0 M:=by simp [shC]
theorem shC_len (x0 y0:Int) (L:List Spot):(shC x0 y0 L).length=L.length:=by simp [shC]
theorem pos_near {n X Y q:Nat} {x y:Int} {far:Bool} (hn:n+1≤64) (hq:q<4) (h:Pos (n+1) X Y x y far) {x' y':Int} (hx:x'=IntKind.u64.wrap (x+if q % 2=1 then ((2 ^ n:Nat):Int) else 0)) (hy:y'=IntKind.u64.wrap (y+if 2≤q then ((2 ^ n:Nat):Int) else 0)):Pos n (qX (2 ^ n) X q) (qY (2 ^ n) Y q) x' y' far:=by
 obtain⟨⟨⟨h1,h2⟩,h3,h4⟩,h5,h6⟩:=h
 have hw:∀ z:Int,0≤IntKind.u64.wrap z∧IntKind.u64.wrap z<18446744073709551616:=by
  intro z;simp only [IntKind.wrap,IntKind.bits,IntKind.signed];simp;omega
 refine⟨⟨by rw [hx];exact hw _,by rw [hy];exact hw _⟩,fun e=>?_,fun e=>?_⟩
 ·have:=h5 e
  unfold qX qY;omega
 ·obtain⟨rfl,rfl,h7,h8⟩:=h6 e
  obtain⟨h9,h10⟩:=h7 hn
  rw [Nat.pow_succ] at h9 h10
  generalize 2 ^ n=H at *
  refine⟨?_,?_,fun _=>?_,fun _=>by omega⟩
  ·rw [hx];unfold qX
   split
   ·rw [u64w (by omega) (by omega)];omega
   ·rw [u64w (by omega) (by omega)];omega
  ·rw [hy];unfold qY
   split
   ·rw [u64w (by omega) (by omega)];omega
   ·rw [u64w (by omega) (by omega)];omega
  ·unfold qX qY
   constructor<;>split<;>omega
theorem pow64 {n:Nat} (h:64≤n):18446744073709551616≤2 ^ n:=by
 have:=Nat.pow_le_pow_right (n:=2) (by omega) h
 omega
theorem pos_far {n X Y q:Nat} {x y:Int} {far:Bool} (hn:64<n+1) (hq:q<4) (hq0:0<q) (h:Pos (n+1) X Y x y far):Pos n (qX (2 ^ n) X q) (qY (2 ^ n) Y q) x y true:=by
 obtain⟨h1,h5,h6⟩:=h
 refine⟨h1,fun _=>?_,fun e=>by simp at e⟩
 have hp:=pow64 (n:=n) (by omega)
 generalize 2 ^ n=H at *
 unfold qX qY
 have:q=1∨q=2∨q=3:=by omega
 rcases this with rfl|rfl|rfl
 ·left;simp;omega
 ·right;simp;omega
 ·left;simp;omega
theorem pos_zero {n X Y:Nat} {x y:Int} {far:Bool} (hn:64<n+1) (h:Pos (n+1) X Y x y far):Pos n (qX (2 ^ n) X 0) (qY (2 ^ n) Y 0) x y far:=by
 obtain⟨h1,h5,h6⟩:=h
 have e1:qX (2 ^ n) X 0=X:=rfl
 have e2:qY (2 ^ n) Y 0=Y:=rfl
 rw [e1,e2]
 refine⟨h1,h5,fun e=>?_⟩
 obtain⟨h7,h8,h9,h10⟩:=h6 e
 obtain⟨rfl,rfl⟩:=h10 (by omega)
 refine⟨h7,h8,fun h=>?_,fun _=>⟨rfl,rfl⟩⟩
 obtain rfl:n=64:=by omega
 omega
theorem full_q {n:Nat} {t:Tr} (h:Full (n+1) t) {q:Nat} (hq:q<4):Full n (Tr.q t q):=by
 cases t with
 | leaf v=>exact h.elim
 | node a b c d =>
  obtain⟨ha,hb,hc,hd⟩:=h
  have:q=0∨q=1∨q=2∨q=3:=by omega
  rcases this with rfl|rfl|rfl|rfl<;>simp only [Tr.q]<;>assumption
theorem cellsQ_len {n:Nat} {t:Tr} {X Y:Nat} (h:Full (n+1) t):∀ q,q≤4→(cellsQ n t X Y q).length=sumq t q
 | 0,_=>rfl
 | q+1,hq=>by
  rw [cellsQ,List.length_append,cellsQ_len h q (by omega),cellsT_len (full_q h (by omega))];rfl
theorem sumq_mono {t:Tr} {q r:Nat} (h:q≤r):sumq t q≤sumq t r:=by
 induction r with
 | zero=>obtain rfl:q=0:=by omega
      exact Nat.le_refl _
 | succ r ih =>
  by_cases hq:q=r+1
  ·subst hq;exact Nat.le_refl _
  ·have:=ih (by omega)
   show _≤sumq t r+_
   omega
theorem pop_sumq {n:Nat} {t:Tr} (h:Full (n+1) t):popT t=sumq t 4:=by
 cases t with
 | leaf v=>exact h.elim
 | node a b c d=>simp [sumq,popT,Tr.q]
theorem rd_room {n:Nat} {t:Tr} {X Y q:Nat} {x0 y0:Int} {l l':List PC} {ok:Bool} (hf:Full (n+1) t) (hq:q<4) (hl:l.length+popT t≤5000) (h:RdRel true l (shC x0 y0 (cellsQ n t X Y q)) ok l'):l'.length+popT (Tr.q t q)≤5000:=by
 have h1:=h.2.2
 rw [shC_len,cellsQ_len hf q (by omega)] at h1
 have h2:=sumq_mono (t:=t) (show q+1≤4 by omega)
 rw [← pop_sumq hf] at h2
 have h3:sumq t (q+1)=sumq t q+popT (Tr.q t q):=rfl
 omega
theorem rd_next {n:Nat} {t:Tr} {X Y q:Nat} {x0 y0:Int} {l l1 l2:List PC} {o1 o2:Bool} (h:RdRel true l (shC x0 y0 (cellsQ n t X Y q)) o1 l1) (k:RdRel o1 l1 (shC x0 y0 (cellsT n (Tr.q t q) (qX (2 ^ n) X q) (qY (2 ^ n) Y q))) o2 l2):RdRel true l (shC x0 y0 (cellsQ n t X Y (q+1))) o2 l2:=by
 rw [cellsQ,shC_append];exact h.trans k
set_option maxHeartbeats 16000000 in
theorem read_node {W:World} {b db rb:Nat} {s:Int} {ns:List K4} {x0 y0:Int} {n:Nat} (hn:n+1≤256) (ih:ReadAt W b db rb s ns x0 y0 n):ReadAt W b db rb s ns x0 y0 (n+1):=by
 intro w Ps mm v ok l id t X Y x y far h hi hpos hlen
 obtain⟨V,hV⟩:∃ V,popT t=V:=⟨_,rfl⟩
 have HC:=Lib.hid (fun w1 Qs (h1:Has W w1 (rdL b db rb s ns mm x0 y0 v ok l Qs))=>hV▸count_q (rdO_cnt b rb x0 y0 v ok) (n+1) hn w1 _ mm id t h1 hi)
 obtain⟨kk,hkk⟩:∃ kk,nodeOf s ns id=kk:=⟨_,rfl⟩
 have HK:=Lib.hid (fun w1 Qs (h1:Has W w1 (sTR b s ns::Qs))=>hkk▸Kids_has h1 hi)
 have HL:=Lib.hid (fun w1 Qs (h1:Has W w1 (sTR b s ns::Qs))=>LevelIs_has h1 hi)
 have HQ:=Lib.hid (hkk▸(hi.node (has_good h.third)).2.2)
 have HIH:=Lib.hid ih
 have hfl:=run_field_mag
 have H:=Lib.hid h
 have hfull:=hi.2.2.1
 by_cases hV0:V=0
 ·have hc:cellsT (n+1) t X Y=[]:=cellsT_none hfull (by rw [hV,hV0])
  rw [hc]
  clear h hi hpos hc hfull hkk HK HL HQ HIH ih
  have hz:zd (V:Int)=[]:=zd_nil.2 hV0
  have hb:(((zd (V:Int)).length:Int) == 0)=true:=by rw [hz];rfl
  clear hV0 hV
  go_enter Tryz.func55,Tryz.ntmps55
  go_wp2_with fail
  refine (HC.out _ _ H.out).mono ?_
  rintro e w1 ⟨a1,c1,mm1,rfl,h1,hm1⟩
  simp only [bvV]
  have hd:=h1.swap.blk
  simp only [rdO] at hd
  have d0:=hEC hd 0
  have d5:=hEC hd 5
  have dl:=lBk hd
  have H1:=Lib.hid h1
  clear h1 hd hm1
  go_wp2
  go_end0
  exact⟨rfl,v,ok,l,mm1,H1.out,RdRel.refl ok l⟩
 cases ok with
 | false =>
  clear h hi hpos hfull hkk HK HL HQ HIH ih
  have hz:¬ zd (V:Int)=[]:=fun e=>hV0 (zd_nil.1 e)
  have hb:(((zd (V:Int)).length:Int) == 0)=false:=by
   have:=List.length_pos_iff.2 hz
   simp;exact hz
  clear hV0 hV
  go_enter Tryz.func55,Tryz.ntmps55
  go_wp2_with fail
  refine (HC.out _ _ H.out).mono ?_
  rintro e w1 ⟨a1,c1,mm1,rfl,h1,hm1⟩
  simp only [bvV]
  have hd:=h1.swap.blk
  simp only [rdO] at hd
  have d0:=hEC hd 0
  have d5:=hEC hd 5
  have dl:=lBk hd
  have H1:=Lib.hid h1
  clear h1 hd hm1
  go_wp2
  go_end0
  exact⟨rfl,v,false,l,mm1,H1.out,RdRel.off⟩
 | true =>
 rw [cellsQ_four hfull]
 have HPOS:=Lib.hid hpos
 have HLEN:=Lib.hid hlen
 have HFULL:=Lib.hid hfull
 have HH:=Lib.hid hn
 clear h hi hfull hpos hlen hkk ih
 have hz:¬ zd (V:Int)=[]:=fun e=>hV0 (zd_nil.1 e)
 have hb:(((zd (V:Int)).length:Int) == 0)=false:=by
  have:=List.length_pos_iff.2 hz
  simp;exact hz
 clear hV0 hV
 go_enter Tryz.func55,Tryz.ntmps55
 go_wp2_with fail
 refine (HC.out _ _ H.out).mono ?_
 rintro e w1 ⟨a1,c1,mm1,rfl,h1,hm1⟩
 simp only [bvV]
 have hd:=h1.swap.blk
 simp only [rdO] at hd
 have d0:=hEC hd 0
 have d5:=hEC hd 5
 have dl:=lBk hd
 have H1:=Lib.hid h1
 clear h1 hd hm1
 go_wp2_with fail
 refine (HK.out _ _ H1.out.third).mono ?_
 rintro e w2 ⟨rfl,h2,_⟩
 have hd:=h2.third.blk
 simp only [rdO] at hd
 clear d0 d5 dl
 have d0:=hEC hd 0
 have d2:=hEC hd 2
 have d3:=hEC hd 3
 have d4:=hEC hd 4
 have d4z:=hEF hd 4
 have d5:=hEC hd 5
 have d5z:=hEF hd 5
 have dl:=lBk hd
 clear hd
 go_wp2_with fail
 refine (HL.out _ _ (h2.step (by (repeat first|exact Fr.refl _ _|assumption|apply Fr.n|apply Fr.d|apply Fr.a|refine Fr.s ?_ (.inr (by simp;try omega)) _)))).mono ?_
 rintro e w3 ⟨rfl,h3,hf3⟩
 have hj_:=(hf3.block (w2.heap.size) (by first|(simp;done)|(simp;omega)) (by simp)).trans (show _=some (.cells #[.int .i64 kk.a,.int .i64 kk.b,.int .i64 kk.c,.int .i64 kk.d] 81 (0,0)) by (repeat first|rw [if_pos (by omega)]|rw [if_neg (by omega)]|rw [hDR]|rw [hDN]|rw [hAz]|rw [hSz]|rw [hAC]|rw [hSC]|rw [oMS]|rw [uPC]|rw [lSZ]|rw [lSS]|rfl))
 have j0:=hEC hj_ 0
 have j1:=hEC hj_ 1
 have j2:=hEC hj_ 2
 have j3:=hEC hj_ 3
 have jl:=lBk hj_
 have Hj:=Lib.hid hj_
 clear hj_
 have H3:=Lib.hid h3
 have hdl3:db<w3.heap.size:=lBk h3.third.blk
 clear h2 h3 hf3 d0 d2 d3 d4 d4z d5 d5z dl
 go_wp2
 go_loopw [101] (fun x wr=>∃ z:Int,x=.int .i64 z∧At5 (fun q=>∃ v' ok' l' mm',Has W wr (rdL b db rb s ns mm' x0 y0 v' ok' l' Ps)∧RdRel true l (shC x0 y0 (cellsQ n t X Y q)) ok' l') z) (fun x _=>4 - (intOf x).toNat)
 case atStart=>exact⟨0,rfl,.inl ⟨rfl,v,true,l,mm1,H3.out.ord 4 [1,2,0,3],RdRel.refl true l⟩⟩
 case round =>
  clear j0 j1 j2 j3 jl Hj H3 hdl3
  obtain⟨z,rfl,hz⟩:=hrel
  by_cases hle:n+1≤64
  ·have hd64:decide ((n:Int)+1≤64)=true:=by simp;omega
   obtain⟨Hn,hHn⟩:∃ Hn:Int,((2 ^ n:Nat):Int)=Hn:=⟨_,rfl⟩
   have hp64:2 ^ n≤2 ^ 63:=Nat.pow_le_pow_right (by omega) (by omega)
   have hpz:=Nat.pow_pos (n:=n) (show 0<2 by omega)
   have hw3:IntKind.u64.wrap Hn=Hn:=u64w (by omega) (by omega)
   have hw2:IntKind.u64.wrap (2 ^ n)=Hn:=by
    rw [show (2:Int) ^ n=((2 ^ n:Nat):Int) by simp,hHn];exact hw3
   have HHV:=Lib.hid hHn.symm
   clear hHn hp64 hpz
   rcases hz with ⟨rfl,hz⟩|⟨rfl,hz⟩|⟨rfl,hz⟩|⟨rfl,hz⟩|⟨rfl,hz⟩
   ·
    obtain⟨v1,ok1,l1,mm2,h,hrel1⟩:=hz
    have HREL:=Lib.hid hrel1
    have HR:=Lib.hid (rd_room HFULL.out (q:=0) (by omega) HLEN.out hrel1)
    have H4:=Lib.hid h
    have hdl:=lBk h.swap.blk
    clear h hrel1
    go_wp2_with fail
    have hp:=pos_near (q:=0) hle (by omega) HPOS.out (x':=IntKind.u64.wrap x) (y':=IntKind.u64.wrap y) (by simp [HHV.out]) (by simp [HHV.out])
    refine (HIH.out _ _ _ _ _ _ _ _ _ _ _ _ _ H4.out (HQ.out 0 (by omega)) hp HR.out).mono ?_
    rintro e w5 ⟨rfl,v5,ok5,l5,mm5,h5,hr5⟩
    have H5:=Lib.hid (And.intro h5 (rd_next HREL.out hr5))
    clear h5 hr5 hp
    go_wp2
    go_roundw
    case rel=>exact⟨1,rfl,.inr (.inl ⟨rfl,v5,ok5,l5,mm5,H5.out.1,H5.out.2⟩)⟩
    case measure=>simp [intOf]
   ·
    obtain⟨v1,ok1,l1,mm2,h,hrel1⟩:=hz
    have HREL:=Lib.hid hrel1
    have HR:=Lib.hid (rd_room HFULL.out (q:=1) (by omega) HLEN.out hrel1)
    have H4:=Lib.hid h
    have hdl:=lBk h.swap.blk
    clear h hrel1
    go_wp2_with fail
    have hp:=pos_near (q:=1) hle (by omega) HPOS.out (x':=IntKind.u64.wrap (x+Hn)) (y':=IntKind.u64.wrap y) (by simp [HHV.out]) (by simp [HHV.out])
    refine (HIH.out _ _ _ _ _ _ _ _ _ _ _ _ _ H4.out (HQ.out 1 (by omega)) hp HR.out).mono ?_
    rintro e w5 ⟨rfl,v5,ok5,l5,mm5,h5,hr5⟩
    have H5:=Lib.hid (And.intro h5 (rd_next HREL.out hr5))
    clear h5 hr5 hp
    go_wp2
    go_roundw
    case rel=>exact⟨2,rfl,.inr (.inr (.inl ⟨rfl,v5,ok5,l5,mm5,H5.out.1,H5.out.2⟩))⟩
    case measure=>simp [intOf]
   ·
    obtain⟨v1,ok1,l1,mm2,h,hrel1⟩:=hz
    have HREL:=Lib.hid hrel1
    have HR:=Lib.hid (rd_room HFULL.out (q:=2) (by omega) HLEN.out hrel1)
    have H4:=Lib.hid h
    have hdl:=lBk h.swap.blk
    clear h hrel1
    go_wp2_with fail
    have hp:=pos_near (q:=2) hle (by omega) HPOS.out (x':=IntKind.u64.wrap x) (y':=IntKind.u64.wrap (y+Hn)) (by simp [HHV.out]) (by simp [HHV.out])
    refine (HIH.out _ _ _ _ _ _ _ _ _ _ _ _ _ H4.out (HQ.out 2 (by omega)) hp HR.out).mono ?_
    rintro e w5 ⟨rfl,v5,ok5,l5,mm5,h5,hr5⟩
    have H5:=Lib.hid (And.intro h5 (rd_next HREL.out hr5))
    clear h5 hr5 hp
    go_wp2
    go_roundw
    case rel=>exact⟨3,rfl,.inr (.inr (.inr (.inl ⟨rfl,v5,ok5,l5,mm5,H5.out.1,H5.out.2⟩)))⟩
    case measure=>simp [intOf]
   ·
    obtain⟨v1,ok1,l1,mm2,h,hrel1⟩:=hz
    have HREL:=Lib.hid hrel1
    have HR:=Lib.hid (rd_room HFULL.out (q:=3) (by omega) HLEN.out hrel1)
    have H4:=Lib.hid h
    have hdl:=lBk h.swap.blk
    clear h hrel1
    go_wp2_with fail
    have hp:=pos_near (q:=3) hle (by omega) HPOS.out (x':=IntKind.u64.wrap (x+Hn)) (y':=IntKind.u64.wrap (y+Hn)) (by simp [HHV.out]) (by simp [HHV.out])
    refine (HIH.out _ _ _ _ _ _ _ _ _ _ _ _ _ H4.out (HQ.out 3 (by omega)) hp HR.out).mono ?_
    rintro e w5 ⟨rfl,v5,ok5,l5,mm5,h5,hr5⟩
    have H5:=Lib.hid (And.intro h5 (rd_next HREL.out hr5))
    clear h5 hr5 hp
    go_wp2
    go_roundw
    case rel=>exact⟨4,rfl,.inr (.inr (.inr (.inr ⟨rfl,v5,ok5,l5,mm5,H5.out.1,H5.out.2⟩)))⟩
    case measure=>simp [intOf]
   ·obtain⟨v1,ok1,l1,mm2,h,hrel1⟩:=hz
    have H4:=Lib.hid (And.intro h hrel1)
    clear h hrel1
    go_wp2
    go_end0
    exact⟨rfl,v1,ok1,l1,mm2,H4.out.1,H4.out.2⟩
  ·have hd64:decide ((n:Int)+1≤64)=false:=by simp;omega
   rcases hz with ⟨rfl,hz⟩|⟨rfl,hz⟩|⟨rfl,hz⟩|⟨rfl,hz⟩|⟨rfl,hz⟩
   ·
    obtain⟨v1,ok1,l1,mm2,h,hrel1⟩:=hz
    have HREL:=Lib.hid hrel1
    have HR:=Lib.hid (rd_room HFULL.out (q:=0) (by omega) HLEN.out hrel1)
    have H4:=Lib.hid h
    have hdl:=lBk h.swap.blk
    clear h hrel1
    go_wp2_with fail
    have hp:=pos_zero (by omega) HPOS.out
    refine (HIH.out _ _ _ _ _ _ _ _ _ _ _ _ _ H4.out (HQ.out 0 (by omega)) hp HR.out).mono ?_
    rintro e w5 ⟨rfl,v5,ok5,l5,mm5,h5,hr5⟩
    have H5:=Lib.hid (And.intro h5 (rd_next HREL.out hr5))
    clear h5 hr5 hp
    go_wp2
    go_roundw
    case rel=>exact⟨1,rfl,.inr (.inl ⟨rfl,v5,ok5,l5,mm5,H5.out.1,H5.out.2⟩)⟩
    case measure=>simp [intOf]
   ·
    obtain⟨v1,ok1,l1,mm2,h,hrel1⟩:=hz
    have HREL:=Lib.hid hrel1
    have HR:=Lib.hid (rd_room HFULL.out (q:=1) (by omega) HLEN.out hrel1)
    have H4:=Lib.hid h
    have hdl:=lBk h.swap.blk
    clear h hrel1
    go_wp2_with fail
    have hp:=pos_far (q:=1) (by omega) (by omega) (by omega) HPOS.out
    refine (HIH.out _ _ _ _ _ _ _ _ _ _ _ _ _ H4.out (HQ.out 1 (by omega)) hp HR.out).mono ?_
    rintro e w5 ⟨rfl,v5,ok5,l5,mm5,h5,hr5⟩
    have H5:=Lib.hid (And.intro h5 (rd_next HREL.out hr5))
    clear h5 hr5 hp
    go_wp2
    go_roundw
    case rel=>exact⟨2,rfl,.inr (.inr (.inl ⟨rfl,v5,ok5,l5,mm5,H5.out.1,H5.out.2⟩))⟩
    case measure=>simp [intOf]
   ·
    obtain⟨v1,ok1,l1,mm2,h,hrel1⟩:=hz
    have HREL:=Lib.hid hrel1
    have HR:=Lib.hid (rd_room HFULL.out (q:=2) (by omega) HLEN.out hrel1)
    have H4:=Lib.hid h
    have hdl:=lBk h.swap.blk
    clear h hrel1
    go_wp2_with fail
    have hp:=pos_far (q:=2) (by omega) (by omega) (by omega) HPOS.out
    refine (HIH.out _ _ _ _ _ _ _ _ _ _ _ _ _ H4.out (HQ.out 2 (by omega)) hp HR.out).mono ?_
    rintro e w5 ⟨rfl,v5,ok5,l5,mm5,h5,hr5⟩
    have H5:=Lib.hid (And.intro h5 (rd_next HREL.out hr5))
    clear h5 hr5 hp
    go_wp2
    go_roundw
    case rel=>exact⟨3,rfl,.inr (.inr (.inr (.inl ⟨rfl,v5,ok5,l5,mm5,H5.out.1,H5.out.2⟩)))⟩
    case measure=>simp [intOf]
   ·
    obtain⟨v1,ok1,l1,mm2,h,hrel1⟩:=hz
    have HREL:=Lib.hid hrel1
    have HR:=Lib.hid (rd_room HFULL.out (q:=3) (by omega) HLEN.out hrel1)
    have H4:=Lib.hid h
    have hdl:=lBk h.swap.blk
    clear h hrel1
    go_wp2_with fail
    have hp:=pos_far (q:=3) (by omega) (by omega) (by omega) HPOS.out
    refine (HIH.out _ _ _ _ _ _ _ _ _ _ _ _ _ H4.out (HQ.out 3 (by omega)) hp HR.out).mono ?_
    rintro e w5 ⟨rfl,v5,ok5,l5,mm5,h5,hr5⟩
    have H5:=Lib.hid (And.intro h5 (rd_next HREL.out hr5))
    clear h5 hr5 hp
    go_wp2
    go_roundw
    case rel=>exact⟨4,rfl,.inr (.inr (.inr (.inr ⟨rfl,v5,ok5,l5,mm5,H5.out.1,H5.out.2⟩)))⟩
    case measure=>simp [intOf]
   ·obtain⟨v1,ok1,l1,mm2,h,hrel1⟩:=hz
    have H4:=Lib.hid (And.intro h hrel1)
    clear h hrel1
    go_wp2
    go_end0
    exact⟨rfl,v1,ok1,l1,mm2,H4.out.1,H4.out.2⟩
theorem read_q {W:World} {b db rb:Nat} {s:Int} {ns:List K4} {x0 y0:Int} (hx0:-9223372036854775808≤x0∧x0<9223372036854775808) (hy0:-9223372036854775808≤y0∧y0<9223372036854775808):∀ n:Nat,n≤256→ReadAt W b db rb s ns x0 y0 n
 | 0,_=>read_leaf hx0 hy0
 | n+1,hn=>read_node hn (read_q hx0 hy0 n (by omega))
end Go.Proofs.YtdanghnadbkhfaaGreat
end
section
namespace Go.Proofs.YtdanghnadbkhfaaGreat
open Go Go.RowKit Rg Mp Hp Qs Ev Bn Pt
def patQ (s:Int) (ns:List K4) (id x y:Int):List PC×Int :=
 if lvl s (levs s ns) id<0 then ([],13) else if 5000<popT (tr s ns id) then ([],6) else fromP (shC x y (cellsT (tr s ns id).ht (tr s ns id) 0 0))
theorem cells_state {s:Int}:∀ {n:Nat} {t:Tr} {X Y:Nat},Full n t→t.ok s→∀ c∈cellsT n t X Y,1≤c.st∧c.st<s
 | 0,.leaf v,X,Y,_,⟨h1,h2⟩,c,hc=>by
  unfold cellsT at hc
  split at hc
  ·cases hc
  ·simp only [List.mem_singleton] at hc
   subst hc
   simp only;omega
 | 0,.node _ _ _ _,_,_,h,_,_,_=>h.elim
 | n+1,.leaf _,_,_,h,_,_,_=>h.elim
 | n+1,.node a b c d,X,Y,⟨ha,hb,hc,hd⟩,⟨oa,ob,oc,od⟩,x,hx=>by
  unfold cellsT at hx
  simp only [List.mem_append] at hx
  rcases hx with hx|hx|hx|hx
  ·exact cells_state ha oa x hx
  ·exact cells_state hb ob x hx
  ·exact cells_state hc oc x hx
  ·exact cells_state hd od x hx
theorem badP_place:∀ {l:List PC},(∀ c∈l,1≤c.st∧c.st<8)→(∃ c∈l,placeB c.x c.y=false)→badP l=5
 | [],_,⟨c,hc,_⟩=>by cases hc
 | d::l,h,⟨c,hc,hp⟩=>by
  have h1:=h d (by simp)
  unfold badP
  split
  ·rfl
  ·rw [if_neg (by omega)]
   rename_i hd
   refine badP_place (fun c hc=>h c (by simp [hc])) ?_
   rw [List.mem_cons] at hc
   rcases hc with rfl|hc
   ·exact absurd hp hd
   ·exact⟨c,hc,hp⟩
theorem fromP_place {l:List PC} (h:∀ c∈l,1≤c.st∧c.st<8) (hb:∃ c∈l,placeB c.x c.y=false):fromP l=([],5):=by
 have:=badP_place h hb
 rw [fromP_bad (by omega),this]
theorem shC_state {s:Int} {n:Nat} {t:Tr} {X Y:Nat} {x y:Int} (hs:s≤8) (h1:Full n t) (h2:t.ok s):∀ c∈shC x y (cellsT n t X Y),1≤c.st∧c.st<8:=by
 intro c hc
 simp only [shC,List.mem_map] at hc
 obtain⟨d,hd,rfl⟩:=hc
 have:=cells_state h1 h2 d hd
 simp only;omega
theorem cmpI_gt (x y:Int):decide (cmpI x y > 0)=decide (y<x):=by
 unfold cmpI
 rw [decide_eq_decide]
 split
 ·omega
 ·split<;>omega
theorem has_reader {W w:World} {b:Nat} {s:Int} {ns:List K4} {Ps:List Res} (h:Has W w (sTR b s ns::Ps)) (x y:Int):Has W ((w.alloc (.map #[] 0)).alloc (rdO b w.heap.size x y (.slice none 0 0) true)) (rdL b (w.heap.size+1) w.heap.size s ns [] x y (.slice none 0 0) true [] Ps):=by
 have h0:Has W w (Hp.row 75 3 (.slice none 0 0) 0 []::sTR b s ns::Ps):=h.newRow (Fr.refl [] w) (owns_none _ _ _ _)
 have h2:=(hAL (has_popmap (s:=s) (ns:=ns) h0) #[.pointer (some ⟨b,0,none⟩),.map (some w.heap.size),.int .i64 x,.int .i64 y,.slice none 0 0,.bool true] 108).ord 4 [1,0,3,2]
 rw [show (w.alloc (.map #[] 0)).heap.size=w.heap.size+1 by simp] at h2
 exact h2
set_option maxHeartbeats 8000000 in
set_option maxRecDepth 20000 in
theorem Pattern_q {W w:World} {b:Nat} {s:Int} {ns:List K4} {Ps:List Res} (h:Has W w (sTR b s ns::Ps)) (id x y:Int) (hx0:-9223372036854775808≤x∧x<9223372036854775808) (hy0:-9223372036854775808≤y∧y<9223372036854775808) :
  Calls Tryz.prog 17 #[.pointer (some ⟨b,0,none⟩),.int .i64 id,.int .i64 x,.int .i64 y] w fun e w' =>
   ∃ v,e=.returned (.tuple #[v,.int .i64 (patQ s ns id x y).2])∧Has W w' (sTR b s ns::Hp.row 75 3 v (patQ s ns id x y).1.length (pcs (patQ s ns id x y).1)::Ps):=by
 have hg:=has_good h
 have HN:=Lib.hid (fun w1 Qs (h1:Has W w1 (sTR b s ns::Qs))=>known_q h1 id)
 have H:=Lib.hid h
 have HNIL:=Lib.hid (fun w1 Qs (h1:Has W w1 (sTR b s ns::Qs))=>(h1.newRow (T:=75) (size:=3) (Fr.refl [] w1) (owns_none _ _ _ _)).swap)
 unfold knownQ at HN
 unfold patQ
 by_cases h0:lvl s (levs s ns) id<0
 ·simp only [if_pos h0] at HN ⊢
  clear h hg hx0 hy0
  go_enter Tryz.func17,Tryz.ntmps17
  go_wp2_with fail
  refine (HN.out _ _ H.out).mono ?_
  rintro e w1 ⟨rfl,hs,hf⟩
  have H1:=Lib.hid hs
  clear hs hf
  go_wp2
  go_ret2
  exact⟨_,rfl,HNIL.out _ _ H1.out⟩
 simp only [if_neg h0] at HN ⊢
 obtain⟨n,hn,hn256,hi⟩:=level_nat hg (id:=id) (by omega)
 obtain⟨V,hV⟩:∃ V,popT (tr s ns id)=V:=⟨_,rfl⟩
 have HC:=Lib.hid (fun cb rb w1 Qs (h1:Has W w1 (rdL b cb rb s ns [] x y (.slice none 0 0) true [] Qs))=>hV▸count_q (rdO_cnt b rb x y (.slice none 0 0) true) n hn256 w1 _ [] id _ h1 hi)
 have HZV:=Lib.hid (hV▸pop_zok hn256 hi.2.2.1)
 have hcg:=cmpI_gt (V:Int) 5000
 obtain⟨z,hz⟩:∃ z,cmpI (V:Int) 5000=z:=⟨_,rfl⟩
 have HCZ:=Lib.hid hz
 rw [hz] at hcg
 rw [full_ht n hi.2.2.1,hV]
 by_cases h5:5000<V
 ·rw [if_pos h5]
  replace hcg:=hcg.trans (decide_eq_true (by omega))
  clear h hg h0 hn hn256 hi hV hz h5 hx0 hy0
  have hmm:=@run_makeMap Tryz.prog
  go_enter Tryz.func17,Tryz.ntmps17
  go_wp2_with fail
  refine (HN.out _ _ H.out).mono ?_
  rintro e w1 ⟨rfl,hs,hf⟩
  have H1:=Lib.hid hs
  clear hs hf
  go_wp2_with fail
  have h2:=has_reader H1.out x y
  refine (HC.out _ _ _ _ h2).mono ?_
  rintro e w2 ⟨a2,c2,mm2,rfl,h3,hm3⟩
  have HB:=Lib.hid (in_z (cnt_in h3 hm3))
  have H3:=Lib.hid h3
  have hdl:=lBk h3.swap.blk
  clear h2 h3 hm3 H1 hmm
  simp only [bvV]
  go_wp2_with fail
  refine (From_z (x:=5000) (by omega) (by omega)).mono ?_
  rintro e w3 ⟨v3,rfl,hb3,hf3⟩
  have H4:=Lib.hid (H3.out.step hf3)
  have HB3:=Lib.hid (HB.out.fr0 hf3)
  have Hb3:=Lib.hid (hb3.mono (fun _ _=>trivial):BigZ _ (fun _=>True) _ _)
  clear hf3 hb3 hdl H3
  go_wp2_with fail
  refine (Compare_z HB3.out Hb3.out HZV.out (zok_int (by omega) (by omega))).mono ?_
  rintro e w4 ⟨rfl,hf4⟩
  have h5:=H4.out.step hf4
  have hdl:w1.heap.size+1<w4.heap.size:=lBk h5.swap.blk
  have H5:=Lib.hid h5
  clear h5 hf4
  rw [HCZ.out]
  go_wp2
  go_ret2
  exact⟨_,rfl,HNIL.out _ _ (H5.out.ord 4 [2])⟩
 rw [if_neg h5]
 replace hcg:=hcg.trans (decide_eq_false (by omega))
 obtain⟨C,hC⟩:∃ C,shC x y (cellsT n (tr s ns id) 0 0)=C:=⟨_,rfl⟩
 have hCl:C.length=V:=by rw [← hC,shC_len,cellsT_len hi.2.2.1,hV]
 rw [hC]
 have HST:=Lib.hid (hC▸shC_state hg.2.1 hi.2.2.1 hi.2.2.2)
 have HRD:=Lib.hid (fun db rb w1 Qs mm (h1:Has W w1 (rdL b db rb s ns mm x y (.slice none 0 0) true [] Qs))=>hC▸read_q (W:=W) hx0 hy0 n hn256 w1 Qs mm _ true [] id _ 0 0 0 0 false h1 hi ⟨⟨by omega,by omega⟩,by simp,fun _=>⟨rfl,rfl,fun hn=>by have:=Nat.pow_le_pow_right (n:=2) (by omega) hn;omega,fun _=>⟨rfl,rfl⟩⟩⟩ (by rw [hV];simp;omega))
 have HCL:=Lib.hid (show C.length≤5000 by omega)
 clear h hg h0 hn hn256 hi hV hz h5 hx0 hy0 hC hCl
 have hmm:=@run_makeMap Tryz.prog
 go_enter Tryz.func17,Tryz.ntmps17
 go_wp2_with fail
 refine (HN.out _ _ H.out).mono ?_
 rintro e w1 ⟨rfl,hs,hf⟩
 have H1:=Lib.hid hs
 clear hs hf
 go_wp2_with fail
 have h2:=has_reader H1.out x y
 refine (HC.out _ _ _ _ h2).mono ?_
 rintro e w2 ⟨a2,c2,mm2,rfl,h3,hm3⟩
 have HB:=Lib.hid (in_z (cnt_in h3 hm3))
 have H3:=Lib.hid h3
 have hdl:=lBk h3.swap.blk
 clear h2 h3 hm3 H1 hmm
 simp only [bvV]
 go_wp2_with fail
 refine (From_z (x:=5000) (by omega) (by omega)).mono ?_
 rintro e w3 ⟨v3,rfl,hb3,hf3⟩
 have H4:=Lib.hid (H3.out.step hf3)
 have HB3:=Lib.hid (HB.out.fr0 hf3)
 have Hb3:=Lib.hid (hb3.mono (fun _ _=>trivial):BigZ _ (fun _=>True) _ _)
 clear hf3 hb3 hdl H3
 go_wp2_with fail
 refine (Compare_z HB3.out Hb3.out HZV.out (zok_int (by omega) (by omega))).mono ?_
 rintro e w4 ⟨rfl,hf4⟩
 have h5:=H4.out.step hf4
 have hdl:w1.heap.size+1<w4.heap.size:=lBk h5.swap.blk
 have H5:=Lib.hid h5
 clear h5 hf4
 rw [HCZ.out]
 go_wp2_with fail
 refine (HRD.out _ _ _ _ _ H5.out).mono ?_
 rintro e w6 ⟨rfl,v6,ok6,l6,mm6,h6,hr6⟩
 have hd:=h6.swap.blk
 simp only [rdO] at hd
 have d4:=hEC hd 4
 have d5:=hEC hd 5
 clear hdl
 have hdl:=lBk hd
 have H6:=Lib.hid h6
 have HR6:=Lib.hid hr6
 clear h6 hr6 hd
 cases ok6 with
 | false =>
  have hb6:fromP C=([],5):=fromP_place HST.out (by
   rcases HR6.out.2.1 rfl with h|h
   ·cases h
   ·exact h)
  have HB6:=Lib.hid hb6
  clear hb6
  go_wp2
  go_ret2
  rw [HB6.out]
  exact⟨_,rfl,HNIL.out _ _ (H6.out.ord 4 [2])⟩
 | true =>
  obtain rfl:C=l6:=by simpa using (HR6.out.1 rfl).2.symm
  obtain⟨_,a6,c6,rfl,_⟩:=Reads.of_owns H6.out.f3.row
  have HPF:=Lib.hid (PFrom_calls (Reads.of_owns H6.out.f3.row:CellsAt w6 _ C) (by have:=HCL.out;omega))
  go_wp2_with fail
  refine HPF.out.mono ?_
  rintro e w7 ⟨v7,rfl,hown,hf⟩
  have H7:=Lib.hid (H6.out.newRow hf hown)
  clear hown hf d4 d5 hdl
  go_wp2
  go_ret2
  exact⟨v7,rfl,H7.out.ord 5 [3,0]⟩
end Go.Proofs.YtdanghnadbkhfaaGreat
end
section
namespace Go.Proofs.YtdanghnadbkhfaaGreat
open Go Go.RowKit Rg Mp Hp Qs Ev Bn Pt
theorem in_spot {p:List PC} {x y:Int} {L:Nat} (h:p.all (inC x y L)=true):∀ c∈p,(x≤c.x∧c.x - x<((2 ^ L:Nat):Int))∧y≤c.y∧c.y - y<((2 ^ L:Nat):Int):=by
 intro c hc
 have:=List.all_eq_true.1 h c hc
 simpa only [inC,inB,Bool.and_eq_true,decide_eq_true_eq] using this
theorem okS_spot {p:List PC} (hr:rightP p=true) {x y:Int} {L:Nat} (h:p.all (inC x y L)=true) {s:Int} (hs:∀ c∈p,c.st<s):OkS s L (p.map (spot x y)) where
 inside c hc:=by
  obtain⟨d,hd,rfl⟩:=List.mem_map.1 hc
  obtain⟨⟨h1,h2⟩,h3,h4⟩:=in_spot h d hd
  refine⟨?_,?_⟩<;>(show Int.toNat _<2 ^ L;omega)
 state c hc:=by
  obtain⟨d,hd,rfl⟩:=List.mem_map.1 hc
  exact⟨((right_cell hr).2 d hd).2.2.1,hs d hd⟩
 apart:=by
  have hp:p.Pairwise fun a b=>pBef a b=true:=by
   unfold rightP at hr
   simp only [Bool.and_eq_true] at hr
   exact strict_pair hr.2.2
  rw [List.pairwise_map]
  refine List.Pairwise.imp_of_mem ?_ hp
  intro a b ha hb hab he
  obtain⟨⟨h1,h2⟩,h3,h4⟩:=in_spot h a ha
  obtain⟨⟨g1,g2⟩,g3,g4⟩:=in_spot h b hb
  simp only [spot] at he
  simp only [pBef,decide_eq_true_eq] at hab
  omega
end Go.Proofs.YtdanghnadbkhfaaGreat
end
section
namespace Go.Proofs.YtdanghnadbkhfaaGreat
open Go Go.RowKit Rg Mp Hp Qs Ev Bn Pt
theorem in_zi {w:World} {z:Int} {a:Option Addr} {c:Nat} (h:BigIn w (decide (z<0)) (zd z) a c):BigZ w (fun _=>True) (.agg #[.bool (decide (z<0)),.slice a (zd z).length c]) z :=
 ⟨a,c,rfl,h.len,fun _ _=>trivial,h.rd⟩
structure FrSt (W wr:World) (b:Nat) (s:Int) (ns:List K4) (Ps:List Res) (p:List PC) (x y:Int) (L i:Nat) (v:Value) (E:List SV) (PL:List BV):Prop where
 le:i≤p.length
 mp:E.map SV.spot=(p.take i).map (spot x y)
 all:(p.take i).all (inC x y L)=true
 el:∀ e∈E,e.X∈PL∧e.Y∈PL
 has:Has W wr (Hp.row 117 5 v E.length (svs E)::poolR PL::refR b s ns::Ps)
theorem FrSt.len {W wr:World} {b:Nat} {s:Int} {ns:List K4} {Ps:List Res} {p:List PC} {x y:Int} {L i:Nat} {v:Value} {E:List SV} {PL:List BV} (h:FrSt W wr b s ns Ps p x y L i v E PL):E.length≤p.length:=by
 have:=congrArg List.length h.mp
 rw [map_spot_len,List.length_map,List.length_take] at this
 omega
theorem FrSt.add {W wr w2:World} {b:Nat} {s:Int} {ns:List K4} {Ps:List Res} {p:List PC} {x y:Int} {L i:Nat} {v v2:Value} {E:List SV} {PL:List BV} (h:FrSt W wr b s ns Ps p x y L i v E PL) {c:PC} {e:SV} (hc:p[i]?=some c) (hi:inC x y L c=true) (he:e.spot=spot x y c)
  (hw:Has W w2 (Hp.row 117 5 v2 (E++[e]).length (svs (E++[e]))::poolR (e.Y::e.X::PL)::refR b s ns::Ps)):FrSt W w2 b s ns Ps p x y L (i+1) v2 (E++[e]) (e.Y::e.X::PL) :=
 ⟨(
  List.getElem?_eq_some_iff.1 hc).1,by rw [List.map_append,h.mp,List.take_add_one,hc,List.map_append];show _++[e.spot]=_++[spot x y c];rw [he],all_take h.all hc hi,fun z hz=>by
  rw [List.mem_append] at hz
  rcases hz with hz|hz
  ·have:=h.el z hz;exact⟨by simp [this.1],by simp [this.2]⟩
  ·rw [List.mem_singleton] at hz;subst hz;simp,hw⟩
theorem sp_of_has {w:World} {F:List Nat} {v:Value} {E:List SV} {PL:List BV} (h1:∃ G,(Hp.row 117 5 v E.length (svs E)).holds w G∧∀ x∈G,x∉F) (h2:∃ G,(poolR PL).holds w G∧∀ x∈G,x∉F) (he:∀ e∈E,e.X∈PL∧e.Y∈PL):SpAt w F v E:=by
 obtain⟨G,⟨g1,g2⟩,g3⟩:=h1
 obtain⟨H,⟨k1,k2⟩,k3⟩:=h2
 refine⟨Reads.of_owns g1,fun _ x hx=>g3 x (by rw [g2,hx];simp),fun e hm=>?_⟩
 obtain⟨m1,m2⟩:=he e hm
 exact⟨⟨(k1 _ m1).1,fun x hx=>k3 x ((k1 _ m1).2 x hx)⟩,⟨(k1 _ m2).1,fun x hx=>k3 x ((k1 _ m2).2 x hx)⟩⟩
theorem inB_less {n f:Int} {L:Nat}:lessB (n - f) L=inB n f L:=by
 unfold lessB inB
 rw [decide_eq_decide]
 omega
set_option maxHeartbeats 16000000 in
set_option maxRecDepth 100000 in
theorem RFrom_q {W w:World} {b:Nat} {s:Int} {ns:List K4} {Ps:List Res} (h:Has W w (refR b s ns::Ps)) {p:List PC} {a:Option Addr} {c:Nat} (hp:CellsAt W (.slice a p.length c) p) (hlen:p.length≤4000000000000000000) (x y level:Int) (hx:-9223372036854775808≤x∧x<9223372036854775808) (hy:-9223372036854775808≤y∧y<9223372036854775808)
  (hroom:∀ L:Nat,level=L→L≤256→rightP p=true→room s ns (dums++(emptiesT L++newT L (p.map (spot x y))))) :
  Calls Tryz.prog 21 #[.pointer (some ⟨b,0,none⟩),.slice a p.length c,.int .i64 x,.int .i64 y,.int .i64 level] w fun e w'=>e=.returned (.tuple #[.int .i64 (fromQ s ns p x y level).1.1,.int .i64 (fromQ s ns p x y level).1.2])∧Has W w' (refR b s (fromQ s ns p x y level).2::Ps):=by
 have H:=Lib.hid h
 have HP:=Lib.hid hp
 have HLN:=Lib.hid hlen
 have hgood:=ref_good h
 unfold fromQ
 cases hr:rightP p with
 | false =>
  have HR:=Lib.hid hr
  simp only [if_true]
  clear h hp hr hx hy hlen hroom hgood
  go_enter Tryz.func21,Tryz.ntmps21
  go_wp2_with fail
  refine (RRight_p (HP.out.fr (H.out.fr.trans0 (by (repeat first|exact Fr.refl _ _|assumption|apply Fr.n|apply Fr.d|apply Fr.a|refine Fr.s ?_ (.inr (by simp;try omega)) _)))) (by have:=HLN.out;omega)).mono ?_
  rw [HR.out]
  rintro e w1 ⟨rfl,hf⟩
  have H1:=Lib.hid (H.out.step (Fr.trans0 (by (repeat first|exact Fr.refl _ _|assumption|apply Fr.n|apply Fr.d|apply Fr.a|refine Fr.s ?_ (.inr (by simp;try omega)) _)) hf))
  clear hf
  go_wp2
  go_ret2
  exact⟨rfl,H1.out⟩
 | true =>
 have HR:=Lib.hid hr
 simp only [Bool.true_eq_false,if_false]
 by_cases hl0:level<0
 ·rw [if_pos (.inl hl0)]
  have hd:decide (level<0)=true:=by simpa using hl0
  clear h hp hr hx hy hlen hroom hgood hl0
  go_enter Tryz.func21,Tryz.ntmps21
  go_wp2_with fail
  refine (RRight_p (HP.out.fr (H.out.fr.trans0 (by (repeat first|exact Fr.refl _ _|assumption|apply Fr.n|apply Fr.d|apply Fr.a|refine Fr.s ?_ (.inr (by simp;try omega)) _)))) (by have:=HLN.out;omega)).mono ?_
  rw [HR.out]
  rintro e w1 ⟨rfl,hf⟩
  have H1:=Lib.hid (H.out.step (Fr.trans0 (by (repeat first|exact Fr.refl _ _|assumption|apply Fr.n|apply Fr.d|apply Fr.a|refine Fr.s ?_ (.inr (by simp;try omega)) _)) hf))
  clear hf
  go_wp2
  go_ret2
  exact⟨rfl,H1.out⟩
 have hd:decide (level<0)=false:=by simpa using hl0
 by_cases hl1:256<level
 ·rw [if_pos (.inr hl1)]
  have hd2:decide (level > 256)=true:=by simpa using hl1
  clear h hp hr hx hy hlen hroom hgood hl0 hl1
  go_enter Tryz.func21,Tryz.ntmps21
  go_wp2_with fail
  refine (RRight_p (HP.out.fr (H.out.fr.trans0 (by (repeat first|exact Fr.refl _ _|assumption|apply Fr.n|apply Fr.d|apply Fr.a|refine Fr.s ?_ (.inr (by simp;try omega)) _)))) (by have:=HLN.out;omega)).mono ?_
  rw [HR.out]
  rintro e w1 ⟨rfl,hf⟩
  have H1:=Lib.hid (H.out.step (Fr.trans0 (by (repeat first|exact Fr.refl _ _|assumption|apply Fr.n|apply Fr.d|apply Fr.a|refine Fr.s ?_ (.inr (by simp;try omega)) _)) hf))
  clear hf
  go_wp2
  go_ret2
  exact⟨rfl,H1.out⟩
 have hd2:decide (level > 256)=false:=by simpa using hl1
 rw [if_neg (by omega)]
 obtain⟨L,hLL⟩:=Int.eq_ofNat_of_zero_le (show 0≤level by omega)
 have hL256:L≤256:=by omega
 have HRM:=Lib.hid (hroom L hLL hL256 hr)
 have HLL:=Lib.hid hLL
 rw [show level.toNat=L by omega]
 obtain⟨R,hR⟩:∃ R,(if p.all (inC x y L)=false then (((0:Int),(5:Int)),ns) else if p.all (stB s)=false then ((0,10),ns) else buildQ s L ns (p.map (spot x y)))=R:=⟨_,rfl⟩
 rw [hR]
 have HRR:=Lib.hid hR
 obtain⟨hp5,hpc⟩:=right_cell hr
 have HPC:=Lib.hid hpc
 have HXY:=Lib.hid (And.intro hx hy)
 have HG:=Lib.hid hgood
 obtain⟨m,hm⟩:∃ m,p.length=m:=⟨_,rfl⟩
 have HM:=Lib.hid hm
 have hm5:m≤5000:=by omega
 rw [hm] at HP HLN ⊢
 have HRIGHT:=Lib.hid (fun w1 (hf:Fr [] W w1)=>RRight_p (hp.fr hf) hlen)
 rw [hm] at HRIGHT
 have HTOP:=Lib.hid (fun w1 (hf:Fr [] W w1)=>Rtop_p (hp.fr hf) (by omega))
 rw [hm] at HTOP
 have H0:=Lib.hid (fun w1 (h1:Has W w1 (refR b s ns::Ps))=>show FrSt W w1 b s ns Ps p x y L 0 (.slice none 0 0) [] [] from ⟨by omega,by simp,by simp,by simp,(pool_nil h1).newRow (T:=117) (size:=5) (Fr.refl [] _) (owns_nil0 _ _ _ _)⟩)
 clear h hp hr hx hy hlen hroom hgood hl0 hl1 hLL hR hpc hp5 hm
 go_enter Tryz.func21,Tryz.ntmps21
 go_wp2_with fail
 refine (HRIGHT.out _ (H.out.fr.trans0 (by (repeat first|exact Fr.refl _ _|assumption|apply Fr.n|apply Fr.d|apply Fr.a|refine Fr.s ?_ (.inr (by simp;try omega)) _)))).mono ?_
 rw [HR.out]
 rintro e w1 ⟨rfl,hf⟩
 have H1:=Lib.hid (H0.out _ (H.out.step (Fr.trans0 (by (repeat first|exact Fr.refl _ _|assumption|apply Fr.n|apply Fr.d|apply Fr.a|refine Fr.s ?_ (.inr (by simp;try omega)) _)) hf)))
 clear hf H0 H HRIGHT
 go_wp2
 go_loopw [12,13] (fun x12 x13 wr=>∃ (i:Nat) (v:Value) (E:List SV) (PL:List BV),(v=x12∧x13=.int .i64 (i:Nat))∧FrSt W wr b s ns Ps p x y L i v E PL) (fun _ z _=>m - (intOf z).toNat)
 case atStart=>exact⟨0,_,[],[],⟨rfl,rfl⟩,H1.out⟩
 case round =>
  clear H1
  obtain⟨i,v12,E,PL,⟨rfl,rfl⟩,hst⟩:=hrel
  have HST:=Lib.hid hst
  have him:i≤m:=by rw [← HM.out];exact hst.le
  clear hst
  by_cases hlt:i<m
  ·obtain⟨⟨cx,cy,st⟩,hpi⟩:∃ c,p[i]?=some c:=⟨_,List.getElem?_eq_getElem (by rw [HM.out];exact hlt)⟩
   obtain⟨g,off,rfl,hg,e0,e1,e2⟩:=(HP.out.fr HST.out.has.fr).cell hpi
   simp only at e0 e1 e2
   have hcc:=HPC.out _ (List.mem_of_getElem? hpi)
   simp only at hcc
   have HPI:=Lib.hid hpi
   have HINC:=Lib.hid (show inC x y L ⟨cx,cy,st⟩=(inB cx x L && inB cy y L) from rfl)
   have HMX:=Lib.hid (fun w1=>Rminus_h (Has.nil (Fr.refl [] w1)) (x:=cx) (y:=x) (by omega) HXY.out.1)
   have HMY:=Lib.hid (fun w1=>Rminus_h (Has.nil (Fr.refl [] w1)) (x:=cy) (y:=y) (by omega) HXY.out.2)
   have HLX:=Lib.hid (fun w1 a c (hb:BigIn w1 (decide (cx - x<0)) (zd (cx - x)) a c)=>Rless_z (in_zi hb) (zok_small (by have:=HXY.out;omega) (by have:=HXY.out;omega)) (n:=L) (by omega))
   have HLY:=Lib.hid (fun w1 a c (hb:BigIn w1 (decide (cy - y<0)) (zd (cy - y)) a c)=>Rless_z (in_zi hb) (zok_small (by have:=HXY.out;omega) (by have:=HXY.out;omega)) (n:=L) (by omega))
   rw [inB_less] at HLX HLY
   rw [← HLL.out] at HLX HLY
   have HB1:=Lib.hid (show inB cx x L=true→x≤cx by unfold inB;simp;omega)
   have HB2:=Lib.hid (show inB cy y L=true→y≤cy by unfold inB;simp;omega)
   obtain⟨o1,ho1⟩:∃ o,inB cx x L=o:=⟨_,rfl⟩
   obtain⟨o2,ho2⟩:∃ o,inB cy y L=o:=⟨_,rfl⟩
   rw [ho1] at HLX HINC HB1
   rw [ho2] at HLY HINC HB2
   obtain⟨nx,hnx⟩:∃ o,decide (cx - x<0)=o:=⟨_,rfl⟩
   obtain⟨ny,hny⟩:∃ o,decide (cy - y<0)=o:=⟨_,rfl⟩
   obtain⟨D1,hD1⟩:∃ o,zd (cx - x)=o:=⟨_,rfl⟩
   obtain⟨D2,hD2⟩:∃ o,zd (cy - y)=o:=⟨_,rfl⟩
   rw [hnx,hD1] at HMX HLX
   rw [hny,hD2] at HMY HLY
   have HND:=Lib.hid (And.intro hnx (And.intro hD1 (And.intro hny hD2)))
   have ne0:=World.new_ne wr _ e0
   clear hpi hcc ho1 ho2 hnx hny hD1 hD2
   go_wp2
   go_cut [14] (fun s14 wx=>∃ (xb:Nat) (a1:Option Addr) (c1:Nat) (a2:Option Addr) (c2:Nat),s14=.pointer (some ⟨xb,0,none⟩)∧Hid (Has W wx (Hp.blk xb (.cells #[.bool nx,.slice a1 D1.length c1,.bool ny,.slice a2 D2.length c2,.int .i64 st] 117 (0,0))::bigR ny D2 a2 c2::bigR nx D1 a1 c1::Hp.row 117 5 v12 E.length (svs E)::poolR PL::refR b s ns::Ps)))
   case first =>
    go_region_held3 (fun w'=>w'.cell? ⟨g,off+i*3,none⟩=some (.int .i64 cx)∧w'.cell? ⟨g,off+i*3+1,none⟩=some (.int .i64 cy)∧w'.cell? ⟨g,off+i*3+2,none⟩=some (.int .i64 st)) (first|go_keep|exact⟨kA0,kA1,kA2⟩|exact⟨kB0,kB1,kB2⟩)
     (first|(have hmk:=KA;clear hmk;go_at_call 67;refine (HMY.out _).mono ?_;rintro e wB ⟨a2,c2,rfl,kB⟩;have KB:=Lib.hid kB;have hfB:=kB.fr;clear kB;have hrB:Fr [] wr wB:=Fr.trans0 (Fr.trans0 hrA (by (repeat first|exact Fr.refl _ _|assumption|apply Fr.n|apply Fr.d|apply Fr.a|refine Fr.s ?_ (.inl (by simp)) _):Fr [] wA _)) hfB;have kB0:=(hrB.cell (p:=⟨g,off+i*3,none⟩) hg (by simp)).trans e0;have kB1:=(hrB.cell (p:=⟨g,off+i*3+1,none⟩) hg (by simp)).trans e1;have kB2:=(hrB.cell (p:=⟨g,off+i*3+2,none⟩) hg (by simp)).trans e2;have nB0:=World.new_ne wB _ kB0;obtain⟨cB,zB⟩:=frcell hfB;(try (have sB:wA.heap.size<wB.heap.size:=by have h:=hfB.size;(try simp at h);omega));(try (have sC:wr.heap.size<wB.heap.size:=by have h:=hfB.size;(try simp at h);omega)))|(go_at_call 67;refine (HMX.out _).mono ?_;rintro e wA ⟨a1,c1,rfl,kA⟩;have KA:=Lib.hid kA;have hfA:=kA.fr;clear kA;have hrA:Fr [] wr wA:=Fr.trans0 (by (repeat first|exact Fr.refl _ _|assumption|apply Fr.n|apply Fr.d|apply Fr.a|refine Fr.s ?_ (.inl (by simp)) _)) hfA;have kA0:=(hrA.cell (p:=⟨g,off+i*3,none⟩) hg (by simp)).trans e0;have kA1:=(hrA.cell (p:=⟨g,off+i*3+1,none⟩) hg (by simp)).trans e1;have kA2:=(hrA.cell (p:=⟨g,off+i*3+2,none⟩) hg (by simp)).trans e2;have nA0:=World.new_ne wA _ kA0;obtain⟨cA,zA⟩:=frcell hfA;(try (have sA:wr.heap.size<wA.heap.size:=by have h:=hfA.size;(try simp at h);omega))))
    ·go_wp2_with fail
     go_meet
     have k1:=has_join (HST.out.has.step (by (repeat first|exact Fr.refl _ _|assumption|apply Fr.n|apply Fr.d|apply Fr.a|refine Fr.s ?_ (.inr (by simp;try omega)) _))) KA.out
     have k2:=has_join (k1.step (by (repeat first|exact Fr.refl _ _|assumption|apply Fr.n|apply Fr.d|apply Fr.a|refine Fr.s ?_ (.inr (by simp;try omega)) _))) KB.out
     simp only [List.cons_append,List.nil_append] at k2
     have k3:=hAL k2 #[.bool nx,.slice a1 D1.length c1,.bool ny,.slice a2 D2.length c2,.int .i64 st] 117
     exact⟨_,a1,c1,a2,c2,rfl,Lib.hid k3⟩
    ·go_wp2_with fail
     go_meet
     have k1:=has_join (HST.out.has.step (by (repeat first|exact Fr.refl _ _|assumption|apply Fr.n|apply Fr.d|apply Fr.a|refine Fr.s ?_ (.inr (by simp;try omega)) _))) KA.out
     have k2:=hAL k1 #[.bool false,.slice none 0 0,.bool false,.slice none 0 0,.int .i64 0] 117
     have k3:=has_join (k2.step (by (repeat first|exact Fr.refl _ _|assumption|apply Fr.n|apply Fr.d|apply Fr.a|refine Fr.s ?_ (.inr (by simp;try omega)) _))) KB.out
     simp only [List.cons_append,List.nil_append] at k3
     have k4:=hST (hST (hST (hST (hST k3.swap 0 (.bool nx)) 1 (.slice a1 D1.length c1)) 2 (.bool ny)) 3 (.slice a2 D2.length c2)) 4 (.int .i64 st)
     exact⟨_,a1,c1,a2,c2,rfl,Lib.hid k4⟩
    ·go_wp2_with fail
     go_meet
     have k1:=hAL HST.out.has #[.bool false,.slice none 0 0,.bool false,.slice none 0 0,.int .i64 0] 117
     have k2:=has_join (k1.step (by (repeat first|exact Fr.refl _ _|assumption|apply Fr.n|apply Fr.d|apply Fr.a|refine Fr.s ?_ (.inr (by simp;try omega)) _))) KA.out
     have k3:=has_join (k2.step (by (repeat first|exact Fr.refl _ _|assumption|apply Fr.n|apply Fr.d|apply Fr.a|refine Fr.s ?_ (.inr (by simp;try omega)) _))) KB.out
     simp only [List.cons_append,List.nil_append] at k3
     have k4:=hST (hST (hST (hST (hST k3.third 0 (.bool nx)) 1 (.slice a1 D1.length c1)) 2 (.bool ny)) 3 (.slice a2 D2.length c2)) 4 (.int .i64 st)
     exact⟨_,a1,c1,a2,c2,rfl,Lib.hid k4⟩
   case rest =>
   obtain⟨xb,a1,c1,a2,c2,rfl,HC⟩:=hcut
   have hb:=HC.out.blk
   have y0:=hEC hb 0
   have y1:=hEC hb 1
   have y2:=hEC hb 2
   have y3:=hEC hb 3
   have y4:=hEC hb 4
   have yl:=lBk hb
   clear hb e0 e1 e2 hg ne0 HMX HMY
   go_wp2_with fail
   refine (HLX.out _ _ _ (big_mem9 (HC.out.step (by (repeat first|exact Fr.refl _ _|assumption|apply Fr.n|apply Fr.d|apply Fr.a|refine Fr.s ?_ (.inr (by simp;try omega)) _))) (by simp))).mono ?_
   rintro e w5 ⟨rfl,hf5⟩
   have h5:=HC.out.step (Fr.trans0 (by (repeat first|exact Fr.refl _ _|assumption|apply Fr.n|apply Fr.d|apply Fr.a|refine Fr.s ?_ (.inr (by simp;try omega)) _)) hf5)
   have H5:=Lib.hid h5
   clear y0 y1 y2 y3 y4 yl hf5 h5
   cases o1 with
   | false =>
    have HBAD:=Lib.hid (all_bad (f:=inC x y L) HPI.out (HINC.out.trans (by simp)))
    go_wp2
    go_ret2
    have hR:=HRR.out
    simp only [HBAD.out,if_true] at hR
    subst hR
    exact⟨rfl,(H5.out.ord 6 [5]).step (by (repeat first|exact Fr.refl _ _|assumption|apply Fr.n|apply Fr.d|apply Fr.a|refine Fr.s ?_ (.inr (by simp;try omega)) _))⟩
   | true =>
   have hb:=H5.out.blk
   have y0:=hEC hb 0
   have y1:=hEC hb 1
   have y2:=hEC hb 2
   have y3:=hEC hb 3
   have y4:=hEC hb 4
   have yl:=lBk hb
   clear hb
   go_wp2_with fail
   refine (HLY.out _ _ _ (big_mem9 (H5.out.step (by (repeat first|exact Fr.refl _ _|assumption|apply Fr.n|apply Fr.d|apply Fr.a|refine Fr.s ?_ (.inr (by simp;try omega)) _))) (by simp))).mono ?_
   rintro e w6 ⟨rfl,hf6⟩
   have h6:=H5.out.step (Fr.trans0 (by (repeat first|exact Fr.refl _ _|assumption|apply Fr.n|apply Fr.d|apply Fr.a|refine Fr.s ?_ (.inr (by simp;try omega)) _)) hf6)
   have H5:=Lib.hid h6
   clear y0 y1 y2 y3 y4 yl hf6 h6
   cases o2 with
   | false =>
    have HBAD:=Lib.hid (all_bad (f:=inC x y L) HPI.out (HINC.out.trans (by simp)))
    go_wp2
    go_ret2
    have hR:=HRR.out
    simp only [HBAD.out,if_true] at hR
    subst hR
    exact⟨rfl,(H5.out.ord 6 [5]).step (by (repeat first|exact Fr.refl _ _|assumption|apply Fr.n|apply Fr.d|apply Fr.a|refine Fr.s ?_ (.inr (by simp;try omega)) _))⟩
   | true =>
   obtain⟨X,hX⟩:∃ X:Nat,(X:Int)=cx - x:=⟨(cx - x).toNat,by have:=HB1.out (by simp);omega⟩
   obtain⟨Y,hY⟩:∃ Y:Nat,(Y:Int)=cy - y:=⟨(cy - y).toNat,by have:=HB2.out (by simp);omega⟩
   obtain⟨hn1,hn2,hn3,hn4⟩:=HND.out
   rw [← hX] at hn1 hn2
   rw [← hY] at hn3 hn4
   rw [show decide (((X:Nat):Int)<0)=false by simp] at hn1
   rw [show decide (((Y:Nat):Int)<0)=false by simp] at hn3
   subst hn1 hn2 hn3 hn4
   have HSPT:=Lib.hid (show SV.spot ⟨(X,a1,c1),(Y,a2,c2),st⟩=spot x y ⟨cx,cy,st⟩ by unfold SV.spot spot;simp only [Spot.mk.injEq,and_true];omega)
   have HNP:=Lib.hid (show inC x y L ⟨cx,cy,st⟩=true from HINC.out.trans (by simp))
   clear hX hY HND HLX HLY HB1 HB2 HC
   have hb:=H5.out.blk
   have y0:=hEC hb 0
   have y1:=hEC hb 1
   have y2:=hEC hb 2
   have y3:=hEC hb 3
   have y4:=hEC hb 4
   have yl:=lBk hb
   clear hb
   have h7:=H5.out.ord 6 [3,2,4,1,5]
   simp only [List.filterMap_cons,List.filterMap_nil,List.getElem?_cons_zero,List.getElem?_cons_succ,List.drop_succ_cons,List.drop_zero,List.cons_append,List.nil_append] at h7
   have HO:=Lib.hid h7.row
   have H7:=Lib.hid h7
   clear h7
   go_wp2_with (at_builtin;refine append_sv (n:=E.length) (base:=0) (xs:=svs E) (y:=⟨(X,a1,c1),(Y,a2,c2),st⟩) rfl rfl rfl ?e1 rfl ?e2 ?e3 ?e4 ?_)
   case e1=>exact oOB HO.out fun g hg=>hAE _ _ _ (oLT HO.out hg)
   case e2=>first|(first|(rw [hAC,if_pos rfl];done)|exact (Array.getElem?_eq_some_iff.1 ((hAC _ _ _).trans (if_pos rfl))).2|(simp only [hDR,hDN];rw [hAC,if_pos rfl];done))|(refine (Array.getElem?_eq_some_iff.1 ?_).2;(repeat first|rw [if_pos (by omega)]|rw [if_neg (by omega)]|rw [hDR]|rw [hDN]|rw [hAz]|rw [hSz]|rw [hAC]|rw [hSC]|rw [oMS]|rw [uPC]|rw [lSZ]|rw [lSS]|rfl))
   case e3=>have:=HST.out.len;have:=HM.out;omega
   case e4=>omega
   intro g2 cap w10 hown1 hW1 hF1 hloc1 hg1
   rw [svs_snoc _ ⟨(X,a1,c1),(Y,a2,c2),st⟩] at hown1
   have h9:=hAP (n':=(E++([⟨(X,a1,c1),(Y,a2,c2),st⟩]:List SV)).length) (H7.out.step (by (repeat first|exact Fr.refl _ _|assumption|apply Fr.n|apply Fr.d|apply Fr.a|refine Fr.s ?_ (.inr (by simp;try omega)) _))) (by rw [List.length_append];exact hown1) rfl hF1 (by rcases hloc1 with h|h;exact .inl h;exact .inr (by rw [h];simp))
   have h9:=h9.ord 5 [1,2,3,0,4]
   simp only [List.filterMap_cons,List.filterMap_nil,List.getElem?_cons_zero,List.getElem?_cons_succ,List.drop_succ_cons,List.drop_zero,List.cons_append,List.nil_append] at h9
   have h9:=(pool_add h9).ord 4 [1,0,2,3]
   simp only [List.filterMap_cons,List.filterMap_nil,List.getElem?_cons_zero,List.getElem?_cons_succ,List.drop_succ_cons,List.drop_zero,List.cons_append,List.nil_append] at h9
   have h9:=(pool_add h9).ord 3 [1,0,2]
   simp only [List.filterMap_cons,List.filterMap_nil,List.getElem?_cons_zero,List.getElem?_cons_succ,List.drop_succ_cons,List.drop_zero,List.cons_append,List.nil_append] at h9
   have H9:=Lib.hid h9
   clear y0 y1 y2 y3 y4 yl h9 hown1 hW1 hF1 hloc1 hg1 HO H7
   go_wp2
   go_roundw
   case rel=>exact⟨i+1,_,E++[⟨(X,a1,c1),(Y,a2,c2),st⟩],_,⟨rfl,by go_num⟩,HST.out.add HPI.out HNP.out HSPT.out (H9.out.step (by (repeat first|exact Fr.refl _ _|assumption|apply Fr.n|apply Fr.d|apply Fr.a|refine Fr.s ?_ (.inr (by simp;try omega)) _)))⟩
   case measure=>simp [intOf];omega
  ·obtain rfl:i=m:=by omega
   have HALL:=Lib.hid (show p.all (inC x y L)=true from by have:=HST.out.all;rwa [List.take_of_length_le (by rw [HM.out];exact Nat.le_refl _)] at this)
   have HMP:=Lib.hid (show E.map SV.spot=p.map (spot x y) from by have:=HST.out.mp;rwa [List.take_of_length_le (by rw [HM.out];exact Nat.le_refl _)] at this)
   obtain⟨tp,htp⟩:∃ tp,topP p=tp:=⟨_,rfl⟩
   rw [htp] at HTOP
   have HTP:=Lib.hid htp
   have hrow:=HST.out.has.row
   obtain⟨av,cv,rfl,_,_⟩:=oFM hrow
   clear hrow htp
   have h1:=HST.out.has.ord 3 [2,0,1]
   simp only [List.filterMap_cons,List.filterMap_nil,List.getElem?_cons_zero,List.getElem?_cons_succ,List.drop_succ_cons,List.drop_zero,List.cons_append,List.nil_append] at h1
   have H1:=Lib.hid h1
   clear h1
   go_wp2_with fail
   refine (HTOP.out _ (H1.out.fr.trans0 (by (repeat first|exact Fr.refl _ _|assumption|apply Fr.n|apply Fr.d|apply Fr.a|refine Fr.s ?_ (.inr (by simp;try omega)) _)))).mono ?_
   rintro e w5 ⟨rfl,hf5⟩
   have H2:=Lib.hid (H1.out.step (Fr.trans0 (by (repeat first|exact Fr.refl _ _|assumption|apply Fr.n|apply Fr.d|apply Fr.a|refine Fr.s ?_ (.inr (by simp;try omega)) _)) hf5))
   clear hf5 H1
   go_wp2_with fail
   refine (RData_has H2.out).mono ?_
   rintro e w6 ⟨dv,rfl,h3⟩
   obtain⟨da,dc,rfl,_,_⟩:=oFM h3.row
   have hfld:=run_field_states w6
   have H3:=Lib.hid h3.drop
   clear h3 H2
   by_cases hs:tp<s
   ·have hd9:decide (tp ≥ s)=false:=by rw [decide_eq_false_iff_not];omega
    have HST2:=Lib.hid (show ∀ c∈p,c.st<s from (topP_lt (by have:=HG.out.1;omega)).1 (by rw [HTP.out];exact hs))
    have HSB:=Lib.hid (show p.all (stB s)=true by
     rw [List.all_eq_true]
     intro c hc
     have h1:=(HPC.out c hc).2.2.1
     have h2:=HST2.out c hc
     simp only [stB,decide_eq_true_eq]
     omega)
    have HBLD:=Lib.hid (show Calls Tryz.prog 70 #[.pointer (some ⟨b,0,none⟩),.slice av E.length cv,.int .i64 level] w6 _ from H3.out.updO (P':=refR b s (buildQ s L ns (p.map (spot x y))).2) (R:=fun e=>e=.returned (.tuple #[.int .i64 (buildQ s L ns (p.map (spot x y))).1.1,.int .i64 (buildQ s L ns (p.map (spot x y))).1.2])) fun F hF hO=>by
     have hsp:=sp_of_has (F:=F) (v:=.slice av E.length cv) (PL:=PL) (hO _ (by simp)) (hO _ (by simp)) HST.out.el
     have hok:=okS_spot HR.out HALL.out HST2.out
     rw [HLL.out,← HMP.out]
     rw [← HMP.out] at hok
     exact Rbuild_all (s:=s) (L:=emptiesT L++newT L (p.map (spot x y))) (b:=b) L hL256 w6 F ns av cv E hF HRM.out hsp hok (by have:=HST.out.len;rw [HM.out] at this;omega) (fun i hi=>List.mem_append.2 (.inl (List.mem_map.2 ⟨i,List.mem_range.2 hi,rfl⟩))) (fun u hu=>List.mem_append.2 (.inr (by rw [HMP.out] at hu;exact hu))))
    have HRE:=Lib.hid (show buildQ s L ns (p.map (spot x y))=R from by
     have hR:=HRR.out
     simp only [HALL.out,HSB.out,Bool.true_eq_false,if_false] at hR
     exact hR)
    rw [HRE.out] at HBLD
    clear hs
    go_wp2_with fail
    refine HBLD.out.mono ?_
    rintro e w7 ⟨rfl,h7⟩
    have H7:=Lib.hid (h7.ord 3 [0])
    clear h7
    go_wp2
    go_ret2
    exact⟨rfl,H7.out⟩
   ·have hd9:decide (tp ≥ s)=true:=by rw [decide_eq_true_eq];omega
    have HSB:=Lib.hid (show p.all (stB s)=false by
     cases h:p.all (stB s)
     ·rfl
     ·exfalso
      apply hs
      rw [← HTP.out]
      apply (topP_lt (by have:=HG.out.1;omega)).2
      intro c hc
      have:=List.all_eq_true.1 h c hc
      simp only [stB,decide_eq_true_eq] at this
      exact this.2)
    have HRE:=Lib.hid (show R=((0,10),ns) from by
     have hR:=HRR.out
     simp only [HALL.out,HSB.out,Bool.true_eq_false,if_false,if_true] at hR
     exact hR.symm)
    clear hs
    go_wp2
    go_ret2
    rw [HRE.out]
    exact⟨rfl,(H3.out.ord 3 [0]).step (by (repeat first|exact Fr.refl _ _|assumption|apply Fr.n|apply Fr.d|apply Fr.a|refine Fr.s ?_ (.inr (by simp;try omega)) _))⟩
end Go.Proofs.YtdanghnadbkhfaaGreat
end
