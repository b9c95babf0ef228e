/- Own texts of this claim, part 11: no condition. -/
import Derived.Test.YtdanghnadbkhfaaGreatZR5
import Derived.Test.YtdanghnadbkhfaaGreatZR9
section
namespace Go.Proofs.YtdanghnadbkhfaaGreat
open Go Go.RowKit Rg Mp Hp Qs Ev Bn
set_option linter.unusedVariables false
set_option linter.unusedSimpArgs false
structure BigIn (w:World) (neg:Bool) (ds:List Nat) (a:Option Addr) (c:Nat):Prop where
 rd:Reads w (.slice a ds.length c) ds.length 1 (u32s ds)
 dig:Dig 4294967296 ds
 len:ds.length≤c
 big:ds.length≤9223372036854775807
theorem BigIn.fr {w w':World} {neg:Bool} {ds:List Nat} {a:Option Addr} {c:Nat} (h:BigIn w neg ds a c) (hf:Fr [] w w'):BigIn w' neg ds a c:=⟨h.rd.fr hf,h.dig,h.len,h.big⟩
theorem BigIn.z {w:World} {neg:Bool} {ds:List Nat} {a:Option Addr} {c:Nat} (h:BigIn w neg ds a c) (hR:RightB neg ds=true):∃ z,Zok z∧neg=decide (z<0)∧ds=zd z∧BigZ w (fun _=>True) (.agg #[.bool neg,.slice a ds.length c]) z:=by
 obtain⟨z,h1,rfl,rfl⟩:=right_z hR h.dig
 exact⟨z,h1,rfl,rfl,a,c,rfl,h.len,fun _ _=>trivial,h.rd⟩
def placeE (l:Int) (nx:Bool) (dx:List Nat) (ny:Bool) (dy:List Nat):Int :=
 if l<0 then 13 else if (RightB nx dx && RightB ny dy)=false then 2
 else if 0≤sv nx dx∧sv nx dx<((2 ^ l.toNat:Nat):Int)∧0≤sv ny dy∧sv ny dy<((2 ^ l.toNat:Nat):Int) then 0 else 5
set_option maxHeartbeats 8000000 in
theorem place_q {W w:World} {b:Nat} {s:Int} {ns:List K4} {Ps:List Res} (h:Has W w (sTR b s ns::Ps)) (id:Int) {nx ny:Bool} {dx dy:List Nat} {ax ay:Option Addr} {cx cy:Nat} (hx:BigIn w nx dx ax cx) (hy:BigIn w ny dy ay cy) :
  Calls Tryz.prog 38 #[.pointer (some ⟨b,0,none⟩),.int .i64 id,.agg #[.bool nx,.slice ax dx.length cx],.agg #[.bool ny,.slice ay dy.length cy]] w fun e w' =>
   e=.returned (.int .i64 (placeE (lvl s (levs s ns) id) nx dx ny dy))∧Has W w' (sTR b s ns::Ps)∧Fr [] w w':=by
 have hg:=has_good h
 have HK:=Lib.hid (fun w1 (hf:Fr [] w w1)=>known_q (h.step hf) id)
 have HL:=Lib.hid (fun w1 (hf:Fr [] w w1)=>Level_has (h.step hf) id)
 have HRx:=Lib.hid (fun w1 (hf:Fr [] w w1)=>Right_calls (neg:=nx) (hx.rd.fr hf) hx.big)
 have HRy:=Lib.hid (fun w1 (hf:Fr [] w w1)=>Right_calls (neg:=ny) (hy.rd.fr hf) hy.big)
 have H:=Lib.hid h
 have Hlen:=Lib.hid (And.intro hx.big hy.big)
 obtain⟨p,hp⟩:∃ p,p=placeE (lvl s (levs s ns) id) nx dx ny dy:=⟨_,rfl⟩
 rw [← hp]
 unfold placeE at hp
 unfold knownQ at HK
 by_cases h0:lvl s (levs s ns) id<0
 ·rw [if_pos h0] at hp HK
  subst hp
  clear hg h hx hy h0 HL HRx HRy
  go_enter Tryz.func38,Tryz.ntmps38
  go_wp2_with fail
  refine (HK.out _ (by (repeat first|exact Fr.refl _ _|assumption|apply Fr.n|apply Fr.d|apply Fr.a|refine Fr.s ?_ (.inr (by simp;try omega)) _))).mono ?_
  rintro e w1 ⟨rfl,hs,hf⟩
  have Hs:=Lib.hid hs
  have Hf:=Lib.hid (Fr.trans0 (by (repeat first|exact Fr.refl _ _|assumption|apply Fr.n|apply Fr.d|apply Fr.a|refine Fr.s ?_ (.inr (by simp;try omega)) _)) hf:Fr [] w w1)
  clear hs hf
  go_wp2
  go_ret
  exact⟨rfl,Hs.out,Hf.out⟩
 rw [if_neg h0] at hp HK
 obtain⟨n,hn,hn256,hi⟩:=level_nat hg (id:=id) (by omega)
 rw [hn] at HL hp
 rw [show ((n:Nat):Int).toNat=n by omega] at hp
 cases hR1:RightB nx dx with
 | false =>
  rw [hR1] at hp HRx
  simp only [Bool.false_and,if_true] at hp
  subst hp
  clear hg h hx hy h0 hi hn hR1 HRy
  go_enter Tryz.func38,Tryz.ntmps38
  go_wp2_with fail
  refine (HK.out _ (by (repeat first|exact Fr.refl _ _|assumption|apply Fr.n|apply Fr.d|apply Fr.a|refine Fr.s ?_ (.inr (by simp;try omega)) _))).mono ?_
  rintro e w1 ⟨rfl,hs,hf⟩
  have hx_:=(hf.block (w.heap.size) (by first|(simp;done)|(simp;omega)) (by simp)).trans (show _=some (.cells #[.bool nx,.slice ax dx.length cx] 27 (0,0)) by (repeat first|rw [if_pos (by omega)]|rw [if_neg (by omega)]|rw [hDR]|rw [hDN]|rw [hAz]|rw [hSz]|rw [hAC]|rw [hSC]|rw [oMS]|rw [uPC]|rw [lSZ]|rw [lSS]|rfl))
  have x0:=hEC hx_ 0
  have x1:=hEC hx_ 1
  have xl:=lBk hx_
  have Hx:=Lib.hid hx_
  clear hx_
  have hy_:=(hf.block (w.heap.size+1) (by first|(simp;done)|(simp;omega)) (by simp)).trans (show _=some (.cells #[.bool ny,.slice ay dy.length cy] 27 (0,0)) by (repeat first|rw [if_pos (by omega)]|rw [if_neg (by omega)]|rw [hDR]|rw [hDN]|rw [hAz]|rw [hSz]|rw [hAC]|rw [hSC]|rw [oMS]|rw [uPC]|rw [lSZ]|rw [lSS]|rfl))
  have y0:=hEC hy_ 0
  have y1:=hEC hy_ 1
  have yl:=lBk hy_
  have Hy:=Lib.hid hy_
  clear hy_
  have Hf:=Lib.hid (Fr.trans0 (by (repeat first|exact Fr.refl _ _|assumption|apply Fr.n|apply Fr.d|apply Fr.a|refine Fr.s ?_ (.inr (by simp;try omega)) _)) hf:Fr [] w w1)
  clear hs hf
  go_wp2_with fail
  refine (HRx.out _ Hf.out).mono ?_
  rintro e w2 ⟨rfl,hf⟩
  (try clear x0)
  (try clear x1)
  (try clear xl)
  have hx_:=(hf.block _ (lBk Hx.out) (by simp)).trans Hx.out
  clear Hx
  have x0:=hEC hx_ 0
  have x1:=hEC hx_ 1
  have xl:=lBk hx_
  have Hx:=Lib.hid hx_
  clear hx_
  (try clear y0)
  (try clear y1)
  (try clear yl)
  have hy_:=(hf.block _ (lBk Hy.out) (by simp)).trans Hy.out
  clear Hy
  have y0:=hEC hy_ 0
  have y1:=hEC hy_ 1
  have yl:=lBk hy_
  have Hy:=Lib.hid hy_
  clear hy_
  have Hf:=Lib.hid (Hf.out.trans0 hf)
  clear hf
  go_wp2
  go_ret
  exact⟨rfl,H.out.step (by have:=Hf.out;(repeat first|exact Fr.refl _ _|assumption|apply Fr.n|apply Fr.d|apply Fr.a|refine Fr.s ?_ (.inr (by simp;try omega)) _)),by have:=Hf.out;(repeat first|exact Fr.refl _ _|assumption|apply Fr.n|apply Fr.d|apply Fr.a|refine Fr.s ?_ (.inr (by simp;try omega)) _)⟩
 | true =>
  rw [hR1] at hp HRx
  cases hR2:RightB ny dy with
  | false =>
   rw [hR2] at hp HRy
   simp only [Bool.and_false,if_true] at hp
   subst hp
   clear hg h hx hy h0 hi hn hR1 hR2
   go_enter Tryz.func38,Tryz.ntmps38
   go_wp2_with fail
   refine (HK.out _ (by (repeat first|exact Fr.refl _ _|assumption|apply Fr.n|apply Fr.d|apply Fr.a|refine Fr.s ?_ (.inr (by simp;try omega)) _))).mono ?_
   rintro e w1 ⟨rfl,hs,hf⟩
   have hx_:=(hf.block (w.heap.size) (by first|(simp;done)|(simp;omega)) (by simp)).trans (show _=some (.cells #[.bool nx,.slice ax dx.length cx] 27 (0,0)) by (repeat first|rw [if_pos (by omega)]|rw [if_neg (by omega)]|rw [hDR]|rw [hDN]|rw [hAz]|rw [hSz]|rw [hAC]|rw [hSC]|rw [oMS]|rw [uPC]|rw [lSZ]|rw [lSS]|rfl))
   have x0:=hEC hx_ 0
   have x1:=hEC hx_ 1
   have xl:=lBk hx_
   have Hx:=Lib.hid hx_
   clear hx_
   have hy_:=(hf.block (w.heap.size+1) (by first|(simp;done)|(simp;omega)) (by simp)).trans (show _=some (.cells #[.bool ny,.slice ay dy.length cy] 27 (0,0)) by (repeat first|rw [if_pos (by omega)]|rw [if_neg (by omega)]|rw [hDR]|rw [hDN]|rw [hAz]|rw [hSz]|rw [hAC]|rw [hSC]|rw [oMS]|rw [uPC]|rw [lSZ]|rw [lSS]|rfl))
   have y0:=hEC hy_ 0
   have y1:=hEC hy_ 1
   have yl:=lBk hy_
   have Hy:=Lib.hid hy_
   clear hy_
   have Hf:=Lib.hid (Fr.trans0 (by (repeat first|exact Fr.refl _ _|assumption|apply Fr.n|apply Fr.d|apply Fr.a|refine Fr.s ?_ (.inr (by simp;try omega)) _)) hf:Fr [] w w1)
   clear hs hf
   go_wp2_with fail
   refine (HRx.out _ Hf.out).mono ?_
   rintro e w2 ⟨rfl,hf⟩
   (try clear x0)
   (try clear x1)
   (try clear xl)
   have hx_:=(hf.block _ (lBk Hx.out) (by simp)).trans Hx.out
   clear Hx
   have x0:=hEC hx_ 0
   have x1:=hEC hx_ 1
   have xl:=lBk hx_
   have Hx:=Lib.hid hx_
   clear hx_
   (try clear y0)
   (try clear y1)
   (try clear yl)
   have hy_:=(hf.block _ (lBk Hy.out) (by simp)).trans Hy.out
   clear Hy
   have y0:=hEC hy_ 0
   have y1:=hEC hy_ 1
   have yl:=lBk hy_
   have Hy:=Lib.hid hy_
   clear hy_
   have Hf:=Lib.hid (Hf.out.trans0 hf)
   clear hf
   go_wp2_with fail
   refine (HRy.out _ Hf.out).mono ?_
   rintro e w3 ⟨rfl,hf⟩
   (try clear x0)
   (try clear x1)
   (try clear xl)
   have hx_:=(hf.block _ (lBk Hx.out) (by simp)).trans Hx.out
   clear Hx
   have x0:=hEC hx_ 0
   have x1:=hEC hx_ 1
   have xl:=lBk hx_
   have Hx:=Lib.hid hx_
   clear hx_
   (try clear y0)
   (try clear y1)
   (try clear yl)
   have hy_:=(hf.block _ (lBk Hy.out) (by simp)).trans Hy.out
   clear Hy
   have y0:=hEC hy_ 0
   have y1:=hEC hy_ 1
   have yl:=lBk hy_
   have Hy:=Lib.hid hy_
   clear hy_
   have Hf:=Lib.hid (Hf.out.trans0 hf)
   clear hf
   go_wp2
   go_ret
   exact⟨rfl,H.out.step (by have:=Hf.out;(repeat first|exact Fr.refl _ _|assumption|apply Fr.n|apply Fr.d|apply Fr.a|refine Fr.s ?_ (.inr (by simp;try omega)) _)),by have:=Hf.out;(repeat first|exact Fr.refl _ _|assumption|apply Fr.n|apply Fr.d|apply Fr.a|refine Fr.s ?_ (.inr (by simp;try omega)) _)⟩
  | true =>
   rw [hR2] at hp HRy
   simp only [Bool.and_true,Bool.true_eq_false,if_false] at hp
   obtain⟨X,zx,hnx,hdx,bx⟩:=hx.z hR1
   obtain⟨Y,zy,hny,hdy,by'⟩:=hy.z hR2
   have hsx:sv nx dx=X:=by rw [hnx,hdx,zd_sv]
   have hsy:sv ny dy=Y:=by rw [hny,hdy,zd_sv]
   rw [hsx,hsy] at hp
   obtain⟨E,hE⟩:∃ E:Int,((2 ^ n:Nat):Int)=E:=⟨_,rfl⟩
   have zE:Zok E:=by rw [← hE];exact zok_pow (by omega)
   have HFr:=Lib.hid (fun w1=>From_z (w:=w1) (x:=1) (by omega) (by omega))
   have HSh:=Lib.hid (fun w1 v (hb:BigZ w1 (fun _=>True) v 1)=>hE▸Shift_z (n:=n) hb (by omega))
   have HCx:=Lib.hid (fun w1 v (hf:Fr [] w w1) (hb:BigZ w1 (fun _=>True) v E)=>Compare_z (bx.fr0 hf) hb zx zE)
   have HCy:=Lib.hid (fun w1 v (hf:Fr [] w w1) (hb:BigZ w1 (fun _=>True) v E)=>Compare_z (by'.fr0 hf) hb zy zE)
   rw [hE] at hp
   have c1:cmpI X E=if X<E then -1 else if X=E then 0 else 1:=rfl
   have c2:cmpI Y E=if Y<E then -1 else if Y=E then 0 else 1:=rfl
   clear hg h hx hy h0 hi hn hR1 hR2 bx by' hsx hsy hdx hdy zx zy zE
   by_cases X0:X<0
   ·rw [if_neg (by omega)] at hp
    rw [decide_eq_true X0] at hnx
    subst hnx
    subst hp
    clear c1 c2 hE HCx HCy X0 hny
    go_enter Tryz.func38,Tryz.ntmps38
    go_wp2_with fail
    refine (HK.out _ (by (repeat first|exact Fr.refl _ _|assumption|apply Fr.n|apply Fr.d|apply Fr.a|refine Fr.s ?_ (.inr (by simp;try omega)) _))).mono ?_
    rintro e w1 ⟨rfl,hs,hf⟩
    have hx_:=(hf.block (w.heap.size) (by first|(simp;done)|(simp;omega)) (by simp)).trans (show _=some (.cells #[.bool true,.slice ax dx.length cx] 27 (0,0)) by (repeat first|rw [if_pos (by omega)]|rw [if_neg (by omega)]|rw [hDR]|rw [hDN]|rw [hAz]|rw [hSz]|rw [hAC]|rw [hSC]|rw [oMS]|rw [uPC]|rw [lSZ]|rw [lSS]|rfl))
    have x0:=hEC hx_ 0
    have x1:=hEC hx_ 1
    have xl:=lBk hx_
    have Hx:=Lib.hid hx_
    clear hx_
    have hy_:=(hf.block (w.heap.size+1) (by first|(simp;done)|(simp;omega)) (by simp)).trans (show _=some (.cells #[.bool ny,.slice ay dy.length cy] 27 (0,0)) by (repeat first|rw [if_pos (by omega)]|rw [if_neg (by omega)]|rw [hDR]|rw [hDN]|rw [hAz]|rw [hSz]|rw [hAC]|rw [hSC]|rw [oMS]|rw [uPC]|rw [lSZ]|rw [lSS]|rfl))
    have y0:=hEC hy_ 0
    have y1:=hEC hy_ 1
    have yl:=lBk hy_
    have Hy:=Lib.hid hy_
    clear hy_
    have Hf:=Lib.hid (Fr.trans0 (by (repeat first|exact Fr.refl _ _|assumption|apply Fr.n|apply Fr.d|apply Fr.a|refine Fr.s ?_ (.inr (by simp;try omega)) _)) hf:Fr [] w w1)
    clear hs hf
    go_wp2_with fail
    refine (HRx.out _ Hf.out).mono ?_
    rintro e w2 ⟨rfl,hf⟩
    (try clear x0)
    (try clear x1)
    (try clear xl)
    have hx_:=(hf.block _ (lBk Hx.out) (by simp)).trans Hx.out
    clear Hx
    have x0:=hEC hx_ 0
    have x1:=hEC hx_ 1
    have xl:=lBk hx_
    have Hx:=Lib.hid hx_
    clear hx_
    (try clear y0)
    (try clear y1)
    (try clear yl)
    have hy_:=(hf.block _ (lBk Hy.out) (by simp)).trans Hy.out
    clear Hy
    have y0:=hEC hy_ 0
    have y1:=hEC hy_ 1
    have yl:=lBk hy_
    have Hy:=Lib.hid hy_
    clear hy_
    have Hf:=Lib.hid (Hf.out.trans0 hf)
    clear hf
    go_wp2_with fail
    refine (HRy.out _ Hf.out).mono ?_
    rintro e w3 ⟨rfl,hf⟩
    (try clear x0)
    (try clear x1)
    (try clear xl)
    have hx_:=(hf.block _ (lBk Hx.out) (by simp)).trans Hx.out
    clear Hx
    have x0:=hEC hx_ 0
    have x1:=hEC hx_ 1
    have xl:=lBk hx_
    have Hx:=Lib.hid hx_
    clear hx_
    (try clear y0)
    (try clear y1)
    (try clear yl)
    have hy_:=(hf.block _ (lBk Hy.out) (by simp)).trans Hy.out
    clear Hy
    have y0:=hEC hy_ 0
    have y1:=hEC hy_ 1
    have yl:=lBk hy_
    have Hy:=Lib.hid hy_
    clear hy_
    have Hf:=Lib.hid (Hf.out.trans0 hf)
    clear hf
    go_wp2_with fail
    refine (HFr.out _).mono ?_
    rintro e w4 ⟨v1,rfl,hb1,hf⟩
    (try clear x0)
    (try clear x1)
    (try clear xl)
    have hx_:=(hf.block _ (lBk Hx.out) (by simp)).trans Hx.out
    clear Hx
    have x0:=hEC hx_ 0
    have x1:=hEC hx_ 1
    have xl:=lBk hx_
    have Hx:=Lib.hid hx_
    clear hx_
    (try clear y0)
    (try clear y1)
    (try clear yl)
    have hy_:=(hf.block _ (lBk Hy.out) (by simp)).trans Hy.out
    clear Hy
    have y0:=hEC hy_ 0
    have y1:=hEC hy_ 1
    have yl:=lBk hy_
    have Hy:=Lib.hid hy_
    clear hy_
    have Hf:=Lib.hid (Hf.out.trans0 hf)
    have Hb1:=Lib.hid (hb1.mono (fun _ _=>trivial):BigZ _ (fun _=>True) _ _)
    clear hf hb1
    go_wp2_with fail
    refine (HL.out _ Hf.out).mono ?_
    rintro e w5 ⟨rfl,_,hf⟩
    (try clear x0)
    (try clear x1)
    (try clear xl)
    have hx_:=(hf.block _ (lBk Hx.out) (by simp)).trans Hx.out
    clear Hx
    have x0:=hEC hx_ 0
    have x1:=hEC hx_ 1
    have xl:=lBk hx_
    have Hx:=Lib.hid hx_
    clear hx_
    (try clear y0)
    (try clear y1)
    (try clear yl)
    have hy_:=(hf.block _ (lBk Hy.out) (by simp)).trans Hy.out
    clear Hy
    have y0:=hEC hy_ 0
    have y1:=hEC hy_ 1
    have yl:=lBk hy_
    have Hy:=Lib.hid hy_
    clear hy_
    have Hf:=Lib.hid (Hf.out.trans0 hf)
    have Hb1:=Lib.hid (Hb1.out.fr0 hf)
    clear hf
    go_wp2_with fail
    refine (HSh.out _ _ Hb1.out).mono ?_
    rintro e w6 ⟨v2,rfl,hb2,hf⟩
    (try clear x0)
    (try clear x1)
    (try clear xl)
    have hx_:=(hf.block _ (lBk Hx.out) (by simp)).trans Hx.out
    clear Hx
    have x0:=hEC hx_ 0
    have x1:=hEC hx_ 1
    have xl:=lBk hx_
    have Hx:=Lib.hid hx_
    clear hx_
    (try clear y0)
    (try clear y1)
    (try clear yl)
    have hy_:=(hf.block _ (lBk Hy.out) (by simp)).trans Hy.out
    clear Hy
    have y0:=hEC hy_ 0
    have y1:=hEC hy_ 1
    have yl:=lBk hy_
    have Hy:=Lib.hid hy_
    clear hy_
    have Hf:=Lib.hid (Hf.out.trans0 hf)
    have hb2:BigZ _ (fun _=>True) _ _:=hb2.mono (fun _ _=>trivial)
    have HB2:=Lib.hid hb2
    obtain⟨ea,ec,rfl,_⟩:=hb2
    clear hf
    go_wp2
    go_ret
    exact⟨rfl,H.out.step (by have:=Hf.out;(repeat first|exact Fr.refl _ _|assumption|apply Fr.n|apply Fr.d|apply Fr.a|refine Fr.s ?_ (.inr (by simp;try omega)) _)),by have:=Hf.out;(repeat first|exact Fr.refl _ _|assumption|apply Fr.n|apply Fr.d|apply Fr.a|refine Fr.s ?_ (.inr (by simp;try omega)) _)⟩
   by_cases Y0:Y<0
   ·rw [if_neg (by omega)] at hp
    rw [decide_eq_false X0] at hnx
    rw [decide_eq_true Y0] at hny
    subst hnx
    subst hny
    subst hp
    clear c1 c2 hE HCx HCy X0 Y0
    go_enter Tryz.func38,Tryz.ntmps38
    go_wp2_with fail
    refine (HK.out _ (by (repeat first|exact Fr.refl _ _|assumption|apply Fr.n|apply Fr.d|apply Fr.a|refine Fr.s ?_ (.inr (by simp;try omega)) _))).mono ?_
    rintro e w1 ⟨rfl,hs,hf⟩
    have hx_:=(hf.block (w.heap.size) (by first|(simp;done)|(simp;omega)) (by simp)).trans (show _=some (.cells #[.bool false,.slice ax dx.length cx] 27 (0,0)) by (repeat first|rw [if_pos (by omega)]|rw [if_neg (by omega)]|rw [hDR]|rw [hDN]|rw [hAz]|rw [hSz]|rw [hAC]|rw [hSC]|rw [oMS]|rw [uPC]|rw [lSZ]|rw [lSS]|rfl))
    have x0:=hEC hx_ 0
    have x1:=hEC hx_ 1
    have xl:=lBk hx_
    have Hx:=Lib.hid hx_
    clear hx_
    have hy_:=(hf.block (w.heap.size+1) (by first|(simp;done)|(simp;omega)) (by simp)).trans (show _=some (.cells #[.bool true,.slice ay dy.length cy] 27 (0,0)) by (repeat first|rw [if_pos (by omega)]|rw [if_neg (by omega)]|rw [hDR]|rw [hDN]|rw [hAz]|rw [hSz]|rw [hAC]|rw [hSC]|rw [oMS]|rw [uPC]|rw [lSZ]|rw [lSS]|rfl))
    have y0:=hEC hy_ 0
    have y1:=hEC hy_ 1
    have yl:=lBk hy_
    have Hy:=Lib.hid hy_
    clear hy_
    have Hf:=Lib.hid (Fr.trans0 (by (repeat first|exact Fr.refl _ _|assumption|apply Fr.n|apply Fr.d|apply Fr.a|refine Fr.s ?_ (.inr (by simp;try omega)) _)) hf:Fr [] w w1)
    clear hs hf
    go_wp2_with fail
    refine (HRx.out _ Hf.out).mono ?_
    rintro e w2 ⟨rfl,hf⟩
    (try clear x0)
    (try clear x1)
    (try clear xl)
    have hx_:=(hf.block _ (lBk Hx.out) (by simp)).trans Hx.out
    clear Hx
    have x0:=hEC hx_ 0
    have x1:=hEC hx_ 1
    have xl:=lBk hx_
    have Hx:=Lib.hid hx_
    clear hx_
    (try clear y0)
    (try clear y1)
    (try clear yl)
    have hy_:=(hf.block _ (lBk Hy.out) (by simp)).trans Hy.out
    clear Hy
    have y0:=hEC hy_ 0
    have y1:=hEC hy_ 1
    have yl:=lBk hy_
    have Hy:=Lib.hid hy_
    clear hy_
    have Hf:=Lib.hid (Hf.out.trans0 hf)
    clear hf
    go_wp2_with fail
    refine (HRy.out _ Hf.out).mono ?_
    rintro e w3 ⟨rfl,hf⟩
    (try clear x0)
    (try clear x1)
    (try clear xl)
    have hx_:=(hf.block _ (lBk Hx.out) (by simp)).trans Hx.out
    clear Hx
    have x0:=hEC hx_ 0
    have x1:=hEC hx_ 1
    have xl:=lBk hx_
    have Hx:=Lib.hid hx_
    clear hx_
    (try clear y0)
    (try clear y1)
    (try clear yl)
    have hy_:=(hf.block _ (lBk Hy.out) (by simp)).trans Hy.out
    clear Hy
    have y0:=hEC hy_ 0
    have y1:=hEC hy_ 1
    have yl:=lBk hy_
    have Hy:=Lib.hid hy_
    clear hy_
    have Hf:=Lib.hid (Hf.out.trans0 hf)
    clear hf
    go_wp2_with fail
    refine (HFr.out _).mono ?_
    rintro e w4 ⟨v1,rfl,hb1,hf⟩
    (try clear x0)
    (try clear x1)
    (try clear xl)
    have hx_:=(hf.block _ (lBk Hx.out) (by simp)).trans Hx.out
    clear Hx
    have x0:=hEC hx_ 0
    have x1:=hEC hx_ 1
    have xl:=lBk hx_
    have Hx:=Lib.hid hx_
    clear hx_
    (try clear y0)
    (try clear y1)
    (try clear yl)
    have hy_:=(hf.block _ (lBk Hy.out) (by simp)).trans Hy.out
    clear Hy
    have y0:=hEC hy_ 0
    have y1:=hEC hy_ 1
    have yl:=lBk hy_
    have Hy:=Lib.hid hy_
    clear hy_
    have Hf:=Lib.hid (Hf.out.trans0 hf)
    have Hb1:=Lib.hid (hb1.mono (fun _ _=>trivial):BigZ _ (fun _=>True) _ _)
    clear hf hb1
    go_wp2_with fail
    refine (HL.out _ Hf.out).mono ?_
    rintro e w5 ⟨rfl,_,hf⟩
    (try clear x0)
    (try clear x1)
    (try clear xl)
    have hx_:=(hf.block _ (lBk Hx.out) (by simp)).trans Hx.out
    clear Hx
    have x0:=hEC hx_ 0
    have x1:=hEC hx_ 1
    have xl:=lBk hx_
    have Hx:=Lib.hid hx_
    clear hx_
    (try clear y0)
    (try clear y1)
    (try clear yl)
    have hy_:=(hf.block _ (lBk Hy.out) (by simp)).trans Hy.out
    clear Hy
    have y0:=hEC hy_ 0
    have y1:=hEC hy_ 1
    have yl:=lBk hy_
    have Hy:=Lib.hid hy_
    clear hy_
    have Hf:=Lib.hid (Hf.out.trans0 hf)
    have Hb1:=Lib.hid (Hb1.out.fr0 hf)
    clear hf
    go_wp2_with fail
    refine (HSh.out _ _ Hb1.out).mono ?_
    rintro e w6 ⟨v2,rfl,hb2,hf⟩
    (try clear x0)
    (try clear x1)
    (try clear xl)
    have hx_:=(hf.block _ (lBk Hx.out) (by simp)).trans Hx.out
    clear Hx
    have x0:=hEC hx_ 0
    have x1:=hEC hx_ 1
    have xl:=lBk hx_
    have Hx:=Lib.hid hx_
    clear hx_
    (try clear y0)
    (try clear y1)
    (try clear yl)
    have hy_:=(hf.block _ (lBk Hy.out) (by simp)).trans Hy.out
    clear Hy
    have y0:=hEC hy_ 0
    have y1:=hEC hy_ 1
    have yl:=lBk hy_
    have Hy:=Lib.hid hy_
    clear hy_
    have Hf:=Lib.hid (Hf.out.trans0 hf)
    have hb2:BigZ _ (fun _=>True) _ _:=hb2.mono (fun _ _=>trivial)
    have HB2:=Lib.hid hb2
    obtain⟨ea,ec,rfl,_⟩:=hb2
    clear hf
    go_wp2
    go_ret
    exact⟨rfl,H.out.step (by have:=Hf.out;(repeat first|exact Fr.refl _ _|assumption|apply Fr.n|apply Fr.d|apply Fr.a|refine Fr.s ?_ (.inr (by simp;try omega)) _)),by have:=Hf.out;(repeat first|exact Fr.refl _ _|assumption|apply Fr.n|apply Fr.d|apply Fr.a|refine Fr.s ?_ (.inr (by simp;try omega)) _)⟩
   rw [decide_eq_false X0] at hnx
   rw [decide_eq_false Y0] at hny
   subst hnx
   subst hny
   by_cases X1:X<E
   ·rw [c1,if_pos X1] at HCx
    by_cases Y1:Y<E
    ·rw [c2,if_pos Y1] at HCy
     rw [if_pos (by omega)] at hp
     subst hp
     clear c1 c2 hE X0 Y0 X1 Y1
     go_enter Tryz.func38,Tryz.ntmps38
     go_wp2_with fail
     refine (HK.out _ (by (repeat first|exact Fr.refl _ _|assumption|apply Fr.n|apply Fr.d|apply Fr.a|refine Fr.s ?_ (.inr (by simp;try omega)) _))).mono ?_
     rintro e w1 ⟨rfl,hs,hf⟩
     have hx_:=(hf.block (w.heap.size) (by first|(simp;done)|(simp;omega)) (by simp)).trans (show _=some (.cells #[.bool false,.slice ax dx.length cx] 27 (0,0)) by (repeat first|rw [if_pos (by omega)]|rw [if_neg (by omega)]|rw [hDR]|rw [hDN]|rw [hAz]|rw [hSz]|rw [hAC]|rw [hSC]|rw [oMS]|rw [uPC]|rw [lSZ]|rw [lSS]|rfl))
     have x0:=hEC hx_ 0
     have x1:=hEC hx_ 1
     have xl:=lBk hx_
     have Hx:=Lib.hid hx_
     clear hx_
     have hy_:=(hf.block (w.heap.size+1) (by first|(simp;done)|(simp;omega)) (by simp)).trans (show _=some (.cells #[.bool false,.slice ay dy.length cy] 27 (0,0)) by (repeat first|rw [if_pos (by omega)]|rw [if_neg (by omega)]|rw [hDR]|rw [hDN]|rw [hAz]|rw [hSz]|rw [hAC]|rw [hSC]|rw [oMS]|rw [uPC]|rw [lSZ]|rw [lSS]|rfl))
     have y0:=hEC hy_ 0
     have y1:=hEC hy_ 1
     have yl:=lBk hy_
     have Hy:=Lib.hid hy_
     clear hy_
     have Hf:=Lib.hid (Fr.trans0 (by (repeat first|exact Fr.refl _ _|assumption|apply Fr.n|apply Fr.d|apply Fr.a|refine Fr.s ?_ (.inr (by simp;try omega)) _)) hf:Fr [] w w1)
     clear hs hf
     go_wp2_with fail
     refine (HRx.out _ Hf.out).mono ?_
     rintro e w2 ⟨rfl,hf⟩
     (try clear x0)
     (try clear x1)
     (try clear xl)
     have hx_:=(hf.block _ (lBk Hx.out) (by simp)).trans Hx.out
     clear Hx
     have x0:=hEC hx_ 0
     have x1:=hEC hx_ 1
     have xl:=lBk hx_
     have Hx:=Lib.hid hx_
     clear hx_
     (try clear y0)
     (try clear y1)
     (try clear yl)
     have hy_:=(hf.block _ (lBk Hy.out) (by simp)).trans Hy.out
     clear Hy
     have y0:=hEC hy_ 0
     have y1:=hEC hy_ 1
     have yl:=lBk hy_
     have Hy:=Lib.hid hy_
     clear hy_
     have Hf:=Lib.hid (Hf.out.trans0 hf)
     clear hf
     go_wp2_with fail
     refine (HRy.out _ Hf.out).mono ?_
     rintro e w3 ⟨rfl,hf⟩
     (try clear x0)
     (try clear x1)
     (try clear xl)
     have hx_:=(hf.block _ (lBk Hx.out) (by simp)).trans Hx.out
     clear Hx
     have x0:=hEC hx_ 0
     have x1:=hEC hx_ 1
     have xl:=lBk hx_
     have Hx:=Lib.hid hx_
     clear hx_
     (try clear y0)
     (try clear y1)
     (try clear yl)
     have hy_:=(hf.block _ (lBk Hy.out) (by simp)).trans Hy.out
     clear Hy
     have y0:=hEC hy_ 0
     have y1:=hEC hy_ 1
     have yl:=lBk hy_
     have Hy:=Lib.hid hy_
     clear hy_
     have Hf:=Lib.hid (Hf.out.trans0 hf)
     clear hf
     go_wp2_with fail
     refine (HFr.out _).mono ?_
     rintro e w4 ⟨v1,rfl,hb1,hf⟩
     (try clear x0)
     (try clear x1)
     (try clear xl)
     have hx_:=(hf.block _ (lBk Hx.out) (by simp)).trans Hx.out
     clear Hx
     have x0:=hEC hx_ 0
     have x1:=hEC hx_ 1
     have xl:=lBk hx_
     have Hx:=Lib.hid hx_
     clear hx_
     (try clear y0)
     (try clear y1)
     (try clear yl)
     have hy_:=(hf.block _ (lBk Hy.out) (by simp)).trans Hy.out
     clear Hy
     have y0:=hEC hy_ 0
     have y1:=hEC hy_ 1
     have yl:=lBk hy_
     have Hy:=Lib.hid hy_
     clear hy_
     have Hf:=Lib.hid (Hf.out.trans0 hf)
     have Hb1:=Lib.hid (hb1.mono (fun _ _=>trivial):BigZ _ (fun _=>True) _ _)
     clear hf hb1
     go_wp2_with fail
     refine (HL.out _ Hf.out).mono ?_
     rintro e w5 ⟨rfl,_,hf⟩
     (try clear x0)
     (try clear x1)
     (try clear xl)
     have hx_:=(hf.block _ (lBk Hx.out) (by simp)).trans Hx.out
     clear Hx
     have x0:=hEC hx_ 0
     have x1:=hEC hx_ 1
     have xl:=lBk hx_
     have Hx:=Lib.hid hx_
     clear hx_
     (try clear y0)
     (try clear y1)
     (try clear yl)
     have hy_:=(hf.block _ (lBk Hy.out) (by simp)).trans Hy.out
     clear Hy
     have y0:=hEC hy_ 0
     have y1:=hEC hy_ 1
     have yl:=lBk hy_
     have Hy:=Lib.hid hy_
     clear hy_
     have Hf:=Lib.hid (Hf.out.trans0 hf)
     have Hb1:=Lib.hid (Hb1.out.fr0 hf)
     clear hf
     go_wp2_with fail
     refine (HSh.out _ _ Hb1.out).mono ?_
     rintro e w6 ⟨v2,rfl,hb2,hf⟩
     (try clear x0)
     (try clear x1)
     (try clear xl)
     have hx_:=(hf.block _ (lBk Hx.out) (by simp)).trans Hx.out
     clear Hx
     have x0:=hEC hx_ 0
     have x1:=hEC hx_ 1
     have xl:=lBk hx_
     have Hx:=Lib.hid hx_
     clear hx_
     (try clear y0)
     (try clear y1)
     (try clear yl)
     have hy_:=(hf.block _ (lBk Hy.out) (by simp)).trans Hy.out
     clear Hy
     have y0:=hEC hy_ 0
     have y1:=hEC hy_ 1
     have yl:=lBk hy_
     have Hy:=Lib.hid hy_
     clear hy_
     have Hf:=Lib.hid (Hf.out.trans0 hf)
     have hb2:BigZ _ (fun _=>True) _ _:=hb2.mono (fun _ _=>trivial)
     have HB2:=Lib.hid hb2
     obtain⟨ea,ec,rfl,_⟩:=hb2
     clear hf
     go_wp2_with fail
     refine (HCx.out _ _ (by have:=Hf.out;(repeat first|exact Fr.refl _ _|assumption|apply Fr.n|apply Fr.d|apply Fr.a|refine Fr.s ?_ (.inr (by simp;try omega)) _)) (HB2.out.fr0 (by (repeat first|exact Fr.refl _ _|assumption|apply Fr.n|apply Fr.d|apply Fr.a|refine Fr.s ?_ (.inr (by simp;try omega)) _)))).mono ?_
     rintro e w7 ⟨rfl,hf⟩
     have hf2:Fr [] w6 w7:=Fr.trans0 (by (repeat first|exact Fr.refl _ _|assumption|apply Fr.n|apply Fr.d|apply Fr.a|refine Fr.s ?_ (.inr (by simp;try omega)) _)) hf
     (try clear y0)
     (try clear y1)
     (try clear yl)
     have hy_:=(hf2.block _ (lBk Hy.out) (by simp)).trans Hy.out
     clear Hy
     have y0:=hEC hy_ 0
     have y1:=hEC hy_ 1
     have yl:=lBk hy_
     have Hy:=Lib.hid hy_
     clear hy_
     clear hf2
     have he_:=(hf.block (w6.heap.size) (by first|(simp;done)|(simp;omega)) (by simp)).trans (show _=some (.cells #[.bool (decide (E<0)),.slice ea (zd E).length ec] 27 (0,0)) by (repeat first|rw [if_pos (by omega)]|rw [if_neg (by omega)]|rw [hDR]|rw [hDN]|rw [hAz]|rw [hSz]|rw [hAC]|rw [hSC]|rw [oMS]|rw [uPC]|rw [lSZ]|rw [lSS]|rfl))
     have e0:=hEC he_ 0
     have e1:=hEC he_ 1
     have el:=lBk he_
     have He:=Lib.hid he_
     clear he_
     have HB2:=Lib.hid (HB2.out.fr0 (Fr.trans0 (by (repeat first|exact Fr.refl _ _|assumption|apply Fr.n|apply Fr.d|apply Fr.a|refine Fr.s ?_ (.inr (by simp;try omega)) _)) hf))
     have Hf:=Lib.hid (Fr.trans0 (by have:=Hf.out;(repeat first|exact Fr.refl _ _|assumption|apply Fr.n|apply Fr.d|apply Fr.a|refine Fr.s ?_ (.inr (by simp;try omega)) _)) hf:Fr [] w w7)
     clear hf
     go_wp2_with fail
     refine (HCy.out _ _ (by have:=Hf.out;(repeat first|exact Fr.refl _ _|assumption|apply Fr.n|apply Fr.d|apply Fr.a|refine Fr.s ?_ (.inr (by simp;try omega)) _)) (HB2.out.fr0 (by (repeat first|exact Fr.refl _ _|assumption|apply Fr.n|apply Fr.d|apply Fr.a|refine Fr.s ?_ (.inr (by simp;try omega)) _)))).mono ?_
     rintro e w8 ⟨rfl,hf⟩
     have Hf:=Lib.hid (Fr.trans0 (by have:=Hf.out;(repeat first|exact Fr.refl _ _|assumption|apply Fr.n|apply Fr.d|apply Fr.a|refine Fr.s ?_ (.inr (by simp;try omega)) _)) hf:Fr [] w w8)
     clear hf
     go_wp2
     go_ret
     exact⟨rfl,H.out.step (by have:=Hf.out;(repeat first|exact Fr.refl _ _|assumption|apply Fr.n|apply Fr.d|apply Fr.a|refine Fr.s ?_ (.inr (by simp;try omega)) _)),by have:=Hf.out;(repeat first|exact Fr.refl _ _|assumption|apply Fr.n|apply Fr.d|apply Fr.a|refine Fr.s ?_ (.inr (by simp;try omega)) _)⟩
    ·have hc:∃ z,cmpI Y E=z∧decide (z ≥ 0)=true:=⟨_,rfl,by rw [c2];simp;omega⟩
     obtain⟨z,hz,hz0⟩:=hc
     rw [hz] at HCy
     rw [if_neg (by omega)] at hp
     subst hp
     clear c1 c2 hE X0 Y0 X1 Y1 hz
     go_enter Tryz.func38,Tryz.ntmps38
     go_wp2_with fail
     refine (HK.out _ (by (repeat first|exact Fr.refl _ _|assumption|apply Fr.n|apply Fr.d|apply Fr.a|refine Fr.s ?_ (.inr (by simp;try omega)) _))).mono ?_
     rintro e w1 ⟨rfl,hs,hf⟩
     have hx_:=(hf.block (w.heap.size) (by first|(simp;done)|(simp;omega)) (by simp)).trans (show _=some (.cells #[.bool false,.slice ax dx.length cx] 27 (0,0)) by (repeat first|rw [if_pos (by omega)]|rw [if_neg (by omega)]|rw [hDR]|rw [hDN]|rw [hAz]|rw [hSz]|rw [hAC]|rw [hSC]|rw [oMS]|rw [uPC]|rw [lSZ]|rw [lSS]|rfl))
     have x0:=hEC hx_ 0
     have x1:=hEC hx_ 1
     have xl:=lBk hx_
     have Hx:=Lib.hid hx_
     clear hx_
     have hy_:=(hf.block (w.heap.size+1) (by first|(simp;done)|(simp;omega)) (by simp)).trans (show _=some (.cells #[.bool false,.slice ay dy.length cy] 27 (0,0)) by (repeat first|rw [if_pos (by omega)]|rw [if_neg (by omega)]|rw [hDR]|rw [hDN]|rw [hAz]|rw [hSz]|rw [hAC]|rw [hSC]|rw [oMS]|rw [uPC]|rw [lSZ]|rw [lSS]|rfl))
     have y0:=hEC hy_ 0
     have y1:=hEC hy_ 1
     have yl:=lBk hy_
     have Hy:=Lib.hid hy_
     clear hy_
     have Hf:=Lib.hid (Fr.trans0 (by (repeat first|exact Fr.refl _ _|assumption|apply Fr.n|apply Fr.d|apply Fr.a|refine Fr.s ?_ (.inr (by simp;try omega)) _)) hf:Fr [] w w1)
     clear hs hf
     go_wp2_with fail
     refine (HRx.out _ Hf.out).mono ?_
     rintro e w2 ⟨rfl,hf⟩
     (try clear x0)
     (try clear x1)
     (try clear xl)
     have hx_:=(hf.block _ (lBk Hx.out) (by simp)).trans Hx.out
     clear Hx
     have x0:=hEC hx_ 0
     have x1:=hEC hx_ 1
     have xl:=lBk hx_
     have Hx:=Lib.hid hx_
     clear hx_
     (try clear y0)
     (try clear y1)
     (try clear yl)
     have hy_:=(hf.block _ (lBk Hy.out) (by simp)).trans Hy.out
     clear Hy
     have y0:=hEC hy_ 0
     have y1:=hEC hy_ 1
     have yl:=lBk hy_
     have Hy:=Lib.hid hy_
     clear hy_
     have Hf:=Lib.hid (Hf.out.trans0 hf)
     clear hf
     go_wp2_with fail
     refine (HRy.out _ Hf.out).mono ?_
     rintro e w3 ⟨rfl,hf⟩
     (try clear x0)
     (try clear x1)
     (try clear xl)
     have hx_:=(hf.block _ (lBk Hx.out) (by simp)).trans Hx.out
     clear Hx
     have x0:=hEC hx_ 0
     have x1:=hEC hx_ 1
     have xl:=lBk hx_
     have Hx:=Lib.hid hx_
     clear hx_
     (try clear y0)
     (try clear y1)
     (try clear yl)
     have hy_:=(hf.block _ (lBk Hy.out) (by simp)).trans Hy.out
     clear Hy
     have y0:=hEC hy_ 0
     have y1:=hEC hy_ 1
     have yl:=lBk hy_
     have Hy:=Lib.hid hy_
     clear hy_
     have Hf:=Lib.hid (Hf.out.trans0 hf)
     clear hf
     go_wp2_with fail
     refine (HFr.out _).mono ?_
     rintro e w4 ⟨v1,rfl,hb1,hf⟩
     (try clear x0)
     (try clear x1)
     (try clear xl)
     have hx_:=(hf.block _ (lBk Hx.out) (by simp)).trans Hx.out
     clear Hx
     have x0:=hEC hx_ 0
     have x1:=hEC hx_ 1
     have xl:=lBk hx_
     have Hx:=Lib.hid hx_
     clear hx_
     (try clear y0)
     (try clear y1)
     (try clear yl)
     have hy_:=(hf.block _ (lBk Hy.out) (by simp)).trans Hy.out
     clear Hy
     have y0:=hEC hy_ 0
     have y1:=hEC hy_ 1
     have yl:=lBk hy_
     have Hy:=Lib.hid hy_
     clear hy_
     have Hf:=Lib.hid (Hf.out.trans0 hf)
     have Hb1:=Lib.hid (hb1.mono (fun _ _=>trivial):BigZ _ (fun _=>True) _ _)
     clear hf hb1
     go_wp2_with fail
     refine (HL.out _ Hf.out).mono ?_
     rintro e w5 ⟨rfl,_,hf⟩
     (try clear x0)
     (try clear x1)
     (try clear xl)
     have hx_:=(hf.block _ (lBk Hx.out) (by simp)).trans Hx.out
     clear Hx
     have x0:=hEC hx_ 0
     have x1:=hEC hx_ 1
     have xl:=lBk hx_
     have Hx:=Lib.hid hx_
     clear hx_
     (try clear y0)
     (try clear y1)
     (try clear yl)
     have hy_:=(hf.block _ (lBk Hy.out) (by simp)).trans Hy.out
     clear Hy
     have y0:=hEC hy_ 0
     have y1:=hEC hy_ 1
     have yl:=lBk hy_
     have Hy:=Lib.hid hy_
     clear hy_
     have Hf:=Lib.hid (Hf.out.trans0 hf)
     have Hb1:=Lib.hid (Hb1.out.fr0 hf)
     clear hf
     go_wp2_with fail
     refine (HSh.out _ _ Hb1.out).mono ?_
     rintro e w6 ⟨v2,rfl,hb2,hf⟩
     (try clear x0)
     (try clear x1)
     (try clear xl)
     have hx_:=(hf.block _ (lBk Hx.out) (by simp)).trans Hx.out
     clear Hx
     have x0:=hEC hx_ 0
     have x1:=hEC hx_ 1
     have xl:=lBk hx_
     have Hx:=Lib.hid hx_
     clear hx_
     (try clear y0)
     (try clear y1)
     (try clear yl)
     have hy_:=(hf.block _ (lBk Hy.out) (by simp)).trans Hy.out
     clear Hy
     have y0:=hEC hy_ 0
     have y1:=hEC hy_ 1
     have yl:=lBk hy_
     have Hy:=Lib.hid hy_
     clear hy_
     have Hf:=Lib.hid (Hf.out.trans0 hf)
     have hb2:BigZ _ (fun _=>True) _ _:=hb2.mono (fun _ _=>trivial)
     have HB2:=Lib.hid hb2
     obtain⟨ea,ec,rfl,_⟩:=hb2
     clear hf
     go_wp2_with fail
     refine (HCx.out _ _ (by have:=Hf.out;(repeat first|exact Fr.refl _ _|assumption|apply Fr.n|apply Fr.d|apply Fr.a|refine Fr.s ?_ (.inr (by simp;try omega)) _)) (HB2.out.fr0 (by (repeat first|exact Fr.refl _ _|assumption|apply Fr.n|apply Fr.d|apply Fr.a|refine Fr.s ?_ (.inr (by simp;try omega)) _)))).mono ?_
     rintro e w7 ⟨rfl,hf⟩
     have hf2:Fr [] w6 w7:=Fr.trans0 (by (repeat first|exact Fr.refl _ _|assumption|apply Fr.n|apply Fr.d|apply Fr.a|refine Fr.s ?_ (.inr (by simp;try omega)) _)) hf
     (try clear y0)
     (try clear y1)
     (try clear yl)
     have hy_:=(hf2.block _ (lBk Hy.out) (by simp)).trans Hy.out
     clear Hy
     have y0:=hEC hy_ 0
     have y1:=hEC hy_ 1
     have yl:=lBk hy_
     have Hy:=Lib.hid hy_
     clear hy_
     clear hf2
     have he_:=(hf.block (w6.heap.size) (by first|(simp;done)|(simp;omega)) (by simp)).trans (show _=some (.cells #[.bool (decide (E<0)),.slice ea (zd E).length ec] 27 (0,0)) by (repeat first|rw [if_pos (by omega)]|rw [if_neg (by omega)]|rw [hDR]|rw [hDN]|rw [hAz]|rw [hSz]|rw [hAC]|rw [hSC]|rw [oMS]|rw [uPC]|rw [lSZ]|rw [lSS]|rfl))
     have e0:=hEC he_ 0
     have e1:=hEC he_ 1
     have el:=lBk he_
     have He:=Lib.hid he_
     clear he_
     have HB2:=Lib.hid (HB2.out.fr0 (Fr.trans0 (by (repeat first|exact Fr.refl _ _|assumption|apply Fr.n|apply Fr.d|apply Fr.a|refine Fr.s ?_ (.inr (by simp;try omega)) _)) hf))
     have Hf:=Lib.hid (Fr.trans0 (by have:=Hf.out;(repeat first|exact Fr.refl _ _|assumption|apply Fr.n|apply Fr.d|apply Fr.a|refine Fr.s ?_ (.inr (by simp;try omega)) _)) hf:Fr [] w w7)
     clear hf
     go_wp2_with fail
     refine (HCy.out _ _ (by have:=Hf.out;(repeat first|exact Fr.refl _ _|assumption|apply Fr.n|apply Fr.d|apply Fr.a|refine Fr.s ?_ (.inr (by simp;try omega)) _)) (HB2.out.fr0 (by (repeat first|exact Fr.refl _ _|assumption|apply Fr.n|apply Fr.d|apply Fr.a|refine Fr.s ?_ (.inr (by simp;try omega)) _)))).mono ?_
     rintro e w8 ⟨rfl,hf⟩
     have Hf:=Lib.hid (Fr.trans0 (by have:=Hf.out;(repeat first|exact Fr.refl _ _|assumption|apply Fr.n|apply Fr.d|apply Fr.a|refine Fr.s ?_ (.inr (by simp;try omega)) _)) hf:Fr [] w w8)
     clear hf
     go_wp2
     go_ret
     exact⟨rfl,H.out.step (by have:=Hf.out;(repeat first|exact Fr.refl _ _|assumption|apply Fr.n|apply Fr.d|apply Fr.a|refine Fr.s ?_ (.inr (by simp;try omega)) _)),by have:=Hf.out;(repeat first|exact Fr.refl _ _|assumption|apply Fr.n|apply Fr.d|apply Fr.a|refine Fr.s ?_ (.inr (by simp;try omega)) _)⟩
   ·have hc:∃ z,cmpI X E=z∧decide (z ≥ 0)=true:=⟨_,rfl,by rw [c1];simp;omega⟩
    obtain⟨z,hz,hz0⟩:=hc
    rw [hz] at HCx
    rw [if_neg (by omega)] at hp
    subst hp
    clear c1 c2 hE X0 Y0 X1 hz HCy
    go_enter Tryz.func38,Tryz.ntmps38
    go_wp2_with fail
    refine (HK.out _ (by (repeat first|exact Fr.refl _ _|assumption|apply Fr.n|apply Fr.d|apply Fr.a|refine Fr.s ?_ (.inr (by simp;try omega)) _))).mono ?_
    rintro e w1 ⟨rfl,hs,hf⟩
    have hx_:=(hf.block (w.heap.size) (by first|(simp;done)|(simp;omega)) (by simp)).trans (show _=some (.cells #[.bool false,.slice ax dx.length cx] 27 (0,0)) by (repeat first|rw [if_pos (by omega)]|rw [if_neg (by omega)]|rw [hDR]|rw [hDN]|rw [hAz]|rw [hSz]|rw [hAC]|rw [hSC]|rw [oMS]|rw [uPC]|rw [lSZ]|rw [lSS]|rfl))
    have x0:=hEC hx_ 0
    have x1:=hEC hx_ 1
    have xl:=lBk hx_
    have Hx:=Lib.hid hx_
    clear hx_
    have hy_:=(hf.block (w.heap.size+1) (by first|(simp;done)|(simp;omega)) (by simp)).trans (show _=some (.cells #[.bool false,.slice ay dy.length cy] 27 (0,0)) by (repeat first|rw [if_pos (by omega)]|rw [if_neg (by omega)]|rw [hDR]|rw [hDN]|rw [hAz]|rw [hSz]|rw [hAC]|rw [hSC]|rw [oMS]|rw [uPC]|rw [lSZ]|rw [lSS]|rfl))
    have y0:=hEC hy_ 0
    have y1:=hEC hy_ 1
    have yl:=lBk hy_
    have Hy:=Lib.hid hy_
    clear hy_
    have Hf:=Lib.hid (Fr.trans0 (by (repeat first|exact Fr.refl _ _|assumption|apply Fr.n|apply Fr.d|apply Fr.a|refine Fr.s ?_ (.inr (by simp;try omega)) _)) hf:Fr [] w w1)
    clear hs hf
    go_wp2_with fail
    refine (HRx.out _ Hf.out).mono ?_
    rintro e w2 ⟨rfl,hf⟩
    (try clear x0)
    (try clear x1)
    (try clear xl)
    have hx_:=(hf.block _ (lBk Hx.out) (by simp)).trans Hx.out
    clear Hx
    have x0:=hEC hx_ 0
    have x1:=hEC hx_ 1
    have xl:=lBk hx_
    have Hx:=Lib.hid hx_
    clear hx_
    (try clear y0)
    (try clear y1)
    (try clear yl)
    have hy_:=(hf.block _ (lBk Hy.out) (by simp)).trans Hy.out
    clear Hy
    have y0:=hEC hy_ 0
    have y1:=hEC hy_ 1
    have yl:=lBk hy_
    have Hy:=Lib.hid hy_
    clear hy_
    have Hf:=Lib.hid (Hf.out.trans0 hf)
    clear hf
    go_wp2_with fail
    refine (HRy.out _ Hf.out).mono ?_
    rintro e w3 ⟨rfl,hf⟩
    (try clear x0)
    (try clear x1)
    (try clear xl)
    have hx_:=(hf.block _ (lBk Hx.out) (by simp)).trans Hx.out
    clear Hx
    have x0:=hEC hx_ 0
    have x1:=hEC hx_ 1
    have xl:=lBk hx_
    have Hx:=Lib.hid hx_
    clear hx_
    (try clear y0)
    (try clear y1)
    (try clear yl)
    have hy_:=(hf.block _ (lBk Hy.out) (by simp)).trans Hy.out
    clear Hy
    have y0:=hEC hy_ 0
    have y1:=hEC hy_ 1
    have yl:=lBk hy_
    have Hy:=Lib.hid hy_
    clear hy_
    have Hf:=Lib.hid (Hf.out.trans0 hf)
    clear hf
    go_wp2_with fail
    refine (HFr.out _).mono ?_
    rintro e w4 ⟨v1,rfl,hb1,hf⟩
    (try clear x0)
    (try clear x1)
    (try clear xl)
    have hx_:=(hf.block _ (lBk Hx.out) (by simp)).trans Hx.out
    clear Hx
    have x0:=hEC hx_ 0
    have x1:=hEC hx_ 1
    have xl:=lBk hx_
    have Hx:=Lib.hid hx_
    clear hx_
    (try clear y0)
    (try clear y1)
    (try clear yl)
    have hy_:=(hf.block _ (lBk Hy.out) (by simp)).trans Hy.out
    clear Hy
    have y0:=hEC hy_ 0
    have y1:=hEC hy_ 1
    have yl:=lBk hy_
    have Hy:=Lib.hid hy_
    clear hy_
    have Hf:=Lib.hid (Hf.out.trans0 hf)
    have Hb1:=Lib.hid (hb1.mono (fun _ _=>trivial):BigZ _ (fun _=>True) _ _)
    clear hf hb1
    go_wp2_with fail
    refine (HL.out _ Hf.out).mono ?_
    rintro e w5 ⟨rfl,_,hf⟩
    (try clear x0)
    (try clear x1)
    (try clear xl)
    have hx_:=(hf.block _ (lBk Hx.out) (by simp)).trans Hx.out
    clear Hx
    have x0:=hEC hx_ 0
    have x1:=hEC hx_ 1
    have xl:=lBk hx_
    have Hx:=Lib.hid hx_
    clear hx_
    (try clear y0)
    (try clear y1)
    (try clear yl)
    have hy_:=(hf.block _ (lBk Hy.out) (by simp)).trans Hy.out
    clear Hy
    have y0:=hEC hy_ 0
    have y1:=hEC hy_ 1
    have yl:=lBk hy_
    have Hy:=Lib.hid hy_
    clear hy_
    have Hf:=Lib.hid (Hf.out.trans0 hf)
    have Hb1:=Lib.hid (Hb1.out.fr0 hf)
    clear hf
    go_wp2_with fail
    refine (HSh.out _ _ Hb1.out).mono ?_
    rintro e w6 ⟨v2,rfl,hb2,hf⟩
    (try clear x0)
    (try clear x1)
    (try clear xl)
    have hx_:=(hf.block _ (lBk Hx.out) (by simp)).trans Hx.out
    clear Hx
    have x0:=hEC hx_ 0
    have x1:=hEC hx_ 1
    have xl:=lBk hx_
    have Hx:=Lib.hid hx_
    clear hx_
    (try clear y0)
    (try clear y1)
    (try clear yl)
    have hy_:=(hf.block _ (lBk Hy.out) (by simp)).trans Hy.out
    clear Hy
    have y0:=hEC hy_ 0
    have y1:=hEC hy_ 1
    have yl:=lBk hy_
    have Hy:=Lib.hid hy_
    clear hy_
    have Hf:=Lib.hid (Hf.out.trans0 hf)
    have hb2:BigZ _ (fun _=>True) _ _:=hb2.mono (fun _ _=>trivial)
    have HB2:=Lib.hid hb2
    obtain⟨ea,ec,rfl,_⟩:=hb2
    clear hf
    go_wp2_with fail
    refine (HCx.out _ _ (by have:=Hf.out;(repeat first|exact Fr.refl _ _|assumption|apply Fr.n|apply Fr.d|apply Fr.a|refine Fr.s ?_ (.inr (by simp;try omega)) _)) (HB2.out.fr0 (by (repeat first|exact Fr.refl _ _|assumption|apply Fr.n|apply Fr.d|apply Fr.a|refine Fr.s ?_ (.inr (by simp;try omega)) _)))).mono ?_
    rintro e w7 ⟨rfl,hf⟩
    have hf2:Fr [] w6 w7:=Fr.trans0 (by (repeat first|exact Fr.refl _ _|assumption|apply Fr.n|apply Fr.d|apply Fr.a|refine Fr.s ?_ (.inr (by simp;try omega)) _)) hf
    (try clear y0)
    (try clear y1)
    (try clear yl)
    have hy_:=(hf2.block _ (lBk Hy.out) (by simp)).trans Hy.out
    clear Hy
    have y0:=hEC hy_ 0
    have y1:=hEC hy_ 1
    have yl:=lBk hy_
    have Hy:=Lib.hid hy_
    clear hy_
    clear hf2
    have he_:=(hf.block (w6.heap.size) (by first|(simp;done)|(simp;omega)) (by simp)).trans (show _=some (.cells #[.bool (decide (E<0)),.slice ea (zd E).length ec] 27 (0,0)) by (repeat first|rw [if_pos (by omega)]|rw [if_neg (by omega)]|rw [hDR]|rw [hDN]|rw [hAz]|rw [hSz]|rw [hAC]|rw [hSC]|rw [oMS]|rw [uPC]|rw [lSZ]|rw [lSS]|rfl))
    have e0:=hEC he_ 0
    have e1:=hEC he_ 1
    have el:=lBk he_
    have He:=Lib.hid he_
    clear he_
    have HB2:=Lib.hid (HB2.out.fr0 (Fr.trans0 (by (repeat first|exact Fr.refl _ _|assumption|apply Fr.n|apply Fr.d|apply Fr.a|refine Fr.s ?_ (.inr (by simp;try omega)) _)) hf))
    have Hf:=Lib.hid (Fr.trans0 (by have:=Hf.out;(repeat first|exact Fr.refl _ _|assumption|apply Fr.n|apply Fr.d|apply Fr.a|refine Fr.s ?_ (.inr (by simp;try omega)) _)) hf:Fr [] w w7)
    clear hf
    go_wp2
    go_ret
    exact⟨rfl,H.out.step (by have:=Hf.out;(repeat first|exact Fr.refl _ _|assumption|apply Fr.n|apply Fr.d|apply Fr.a|refine Fr.s ?_ (.inr (by simp;try omega)) _)),by have:=Hf.out;(repeat first|exact Fr.refl _ _|assumption|apply Fr.n|apply Fr.d|apply Fr.a|refine Fr.s ?_ (.inr (by simp;try omega)) _)⟩
end Go.Proofs.YtdanghnadbkhfaaGreat
end
