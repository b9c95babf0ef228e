/- Own texts of this claim, part 31: no condition. -/
import Derived.Test.YtdanghnadbkhfaaGreatZR27
import Derived.Test.YtdanghnadbkhfaaGreatZR11
set_option linter.unusedVariables false
set_option linter.unusedSimpArgs false
section
namespace Go.Proofs.YtdanghnadbkhfaaGreat
open Go Go.RowKit Rg Mp Hp Qs Ev Bn Pt
set_option maxHeartbeats 8000000 in
set_option maxRecDepth 100000 in
theorem Rinside_q {W w:World} {b:Nat} {s:Int} {ns:List K4} {Ps:List Res} (h:Has W w (refR b s ns::Ps)) (id:Int) {nx ny:Bool} {dx dy:List Nat} {ax ay:Option Addr} {cx cy:Nat} (hx:BigIn w nx dx ax cx) (hy:BigIn w ny dy ay cy) :
  Calls Tryz.prog 42 #[.pointer (some ⟨b,0,none⟩),.int .i64 id,.agg #[.bool nx,.slice ax dx.length cx],.agg #[.bool ny,.slice ay dy.length cy]] w fun e w' =>
   e=.returned (.int .i64 (placeE (lvl s (levs s ns) id) nx dx ny dy))∧Fr [] w w':=by
 have hg:=ref_good h
 have HKN:=Lib.hid (fun w1 (hf:Fr [] w w1)=>Rknown_q (h.step hf) id)
 have HLV:=Lib.hid (fun w1 (hf:Fr [] w w1)=>RLevel_has (h.step hf) id)
 have HRX:=Lib.hid (fun w1 (hf:Fr [] w w1)=>RRight_calls (neg:=nx) (hx.fr hf).rd hx.big)
 have HRY:=Lib.hid (fun w1 (hf:Fr [] w w1)=>RRight_calls (neg:=ny) (hy.fr hf).rd hy.big)
 unfold knownQ at HKN
 unfold placeE
 by_cases h0:lvl s (levs s ns) id<0
 ·rw [if_pos h0] at HKN ⊢
  clear h hg hx hy h0
  go_enter Tryz.func42,Tryz.ntmps42
  go_wp2_with fail
  refine (HKN.out _ (by (repeat first|exact Fr.refl _ _|assumption|apply Fr.n|apply Fr.d|apply Fr.a|refine Fr.s ?_ (.inr (by simp;try omega)) _))).mono ?_
  rintro e w1 ⟨rfl,hf⟩
  have hx_:=(hf.block (w.heap.size) (by first|(simp;done)|(simp;omega)) (by simp)).trans (show _=some (.cells #[.bool nx,.slice ax dx.length cx] 27 (0,0)) by (repeat first|rw [if_pos (by omega)]|rw [if_neg (by omega)]|rw [hDR]|rw [hDN]|rw [hAz]|rw [hSz]|rw [hAC]|rw [hSC]|rw [oMS]|rw [uPC]|rw [lSZ]|rw [lSS]|rfl))
  have x0:=hEC hx_ 0
  have x1:=hEC hx_ 1
  have xl:=lBk hx_
  have Hx:=Lib.hid hx_
  clear hx_
  have hy_:=(hf.block (w.heap.size+1) (by first|(simp;done)|(simp;omega)) (by simp)).trans (show _=some (.cells #[.bool ny,.slice ay dy.length cy] 27 (0,0)) by (repeat first|rw [if_pos (by omega)]|rw [if_neg (by omega)]|rw [hDR]|rw [hDN]|rw [hAz]|rw [hSz]|rw [hAC]|rw [hSC]|rw [oMS]|rw [uPC]|rw [lSZ]|rw [lSS]|rfl))
  have y0:=hEC hy_ 0
  have y1:=hEC hy_ 1
  have yl:=lBk hy_
  have Hy:=Lib.hid hy_
  clear hy_
  have Hf:=Lib.hid (Fr.trans0 (by (repeat first|exact Fr.refl _ _|assumption|apply Fr.n|apply Fr.d|apply Fr.a|refine Fr.s ?_ (.inr (by simp;try omega)) _):Fr [] w _) hf)
  clear hf
  go_wp2
  go_ret
  exact⟨rfl,Hf.out.trans0 (by (repeat first|exact Fr.refl _ _|assumption|apply Fr.n|apply Fr.d|apply Fr.a|refine Fr.s ?_ (.inr (by simp;try omega)) _))⟩
 rw [if_neg h0] at HKN ⊢
 cases hrx:RightB nx dx with
 | false =>
  rw [hrx] at HRX
  simp only [Bool.false_and,if_true]
  clear h hg hx hy h0 hrx
  go_enter Tryz.func42,Tryz.ntmps42
  go_wp2_with fail
  refine (HKN.out _ (by (repeat first|exact Fr.refl _ _|assumption|apply Fr.n|apply Fr.d|apply Fr.a|refine Fr.s ?_ (.inr (by simp;try omega)) _))).mono ?_
  rintro e w1 ⟨rfl,hf⟩
  have hx_:=(hf.block (w.heap.size) (by first|(simp;done)|(simp;omega)) (by simp)).trans (show _=some (.cells #[.bool nx,.slice ax dx.length cx] 27 (0,0)) by (repeat first|rw [if_pos (by omega)]|rw [if_neg (by omega)]|rw [hDR]|rw [hDN]|rw [hAz]|rw [hSz]|rw [hAC]|rw [hSC]|rw [oMS]|rw [uPC]|rw [lSZ]|rw [lSS]|rfl))
  have x0:=hEC hx_ 0
  have x1:=hEC hx_ 1
  have xl:=lBk hx_
  have Hx:=Lib.hid hx_
  clear hx_
  have hy_:=(hf.block (w.heap.size+1) (by first|(simp;done)|(simp;omega)) (by simp)).trans (show _=some (.cells #[.bool ny,.slice ay dy.length cy] 27 (0,0)) by (repeat first|rw [if_pos (by omega)]|rw [if_neg (by omega)]|rw [hDR]|rw [hDN]|rw [hAz]|rw [hSz]|rw [hAC]|rw [hSC]|rw [oMS]|rw [uPC]|rw [lSZ]|rw [lSS]|rfl))
  have y0:=hEC hy_ 0
  have y1:=hEC hy_ 1
  have yl:=lBk hy_
  have Hy:=Lib.hid hy_
  clear hy_
  have Hf:=Lib.hid (Fr.trans0 (by (repeat first|exact Fr.refl _ _|assumption|apply Fr.n|apply Fr.d|apply Fr.a|refine Fr.s ?_ (.inr (by simp;try omega)) _):Fr [] w _) hf)
  clear hf
  go_wp2_with fail
  refine (HRX.out _ (Hf.out.trans0 (by (repeat first|exact Fr.refl _ _|assumption|apply Fr.n|apply Fr.d|apply Fr.a|refine Fr.s ?_ (.inr (by simp;try omega)) _)))).mono ?_
  rintro e w2 ⟨rfl,hf⟩
  (try clear x0)
  (try clear x1)
  (try clear xl)
  have hx_:=(hf.block _ (lBk Hx.out) (by simp)).trans Hx.out
  clear Hx
  have x0:=hEC hx_ 0
  have x1:=hEC hx_ 1
  have xl:=lBk hx_
  have Hx:=Lib.hid hx_
  clear hx_
  (try clear y0)
  (try clear y1)
  (try clear yl)
  have hy_:=(hf.block _ (lBk Hy.out) (by simp)).trans Hy.out
  clear Hy
  have y0:=hEC hy_ 0
  have y1:=hEC hy_ 1
  have yl:=lBk hy_
  have Hy:=Lib.hid hy_
  clear hy_
  have Hf:=Lib.hid (Hf.out.trans0 (Fr.trans0 (by (repeat first|exact Fr.refl _ _|assumption|apply Fr.n|apply Fr.d|apply Fr.a|refine Fr.s ?_ (.inr (by simp;try omega)) _)) hf))
  clear hf
  go_wp2
  go_ret
  exact⟨rfl,Hf.out.trans0 (by (repeat first|exact Fr.refl _ _|assumption|apply Fr.n|apply Fr.d|apply Fr.a|refine Fr.s ?_ (.inr (by simp;try omega)) _))⟩
 | true =>
 rw [hrx] at HRX
 cases hry:RightB ny dy with
 | false =>
  rw [hry] at HRY
  simp only [Bool.and_false,if_true]
  clear h hg hx hy h0 hrx hry
  go_enter Tryz.func42,Tryz.ntmps42
  go_wp2_with fail
  refine (HKN.out _ (by (repeat first|exact Fr.refl _ _|assumption|apply Fr.n|apply Fr.d|apply Fr.a|refine Fr.s ?_ (.inr (by simp;try omega)) _))).mono ?_
  rintro e w1 ⟨rfl,hf⟩
  have hx_:=(hf.block (w.heap.size) (by first|(simp;done)|(simp;omega)) (by simp)).trans (show _=some (.cells #[.bool nx,.slice ax dx.length cx] 27 (0,0)) by (repeat first|rw [if_pos (by omega)]|rw [if_neg (by omega)]|rw [hDR]|rw [hDN]|rw [hAz]|rw [hSz]|rw [hAC]|rw [hSC]|rw [oMS]|rw [uPC]|rw [lSZ]|rw [lSS]|rfl))
  have x0:=hEC hx_ 0
  have x1:=hEC hx_ 1
  have xl:=lBk hx_
  have Hx:=Lib.hid hx_
  clear hx_
  have hy_:=(hf.block (w.heap.size+1) (by first|(simp;done)|(simp;omega)) (by simp)).trans (show _=some (.cells #[.bool ny,.slice ay dy.length cy] 27 (0,0)) by (repeat first|rw [if_pos (by omega)]|rw [if_neg (by omega)]|rw [hDR]|rw [hDN]|rw [hAz]|rw [hSz]|rw [hAC]|rw [hSC]|rw [oMS]|rw [uPC]|rw [lSZ]|rw [lSS]|rfl))
  have y0:=hEC hy_ 0
  have y1:=hEC hy_ 1
  have yl:=lBk hy_
  have Hy:=Lib.hid hy_
  clear hy_
  have Hf:=Lib.hid (Fr.trans0 (by (repeat first|exact Fr.refl _ _|assumption|apply Fr.n|apply Fr.d|apply Fr.a|refine Fr.s ?_ (.inr (by simp;try omega)) _):Fr [] w _) hf)
  clear hf
  go_wp2_with fail
  refine (HRX.out _ (Hf.out.trans0 (by (repeat first|exact Fr.refl _ _|assumption|apply Fr.n|apply Fr.d|apply Fr.a|refine Fr.s ?_ (.inr (by simp;try omega)) _)))).mono ?_
  rintro e w2 ⟨rfl,hf⟩
  (try clear x0)
  (try clear x1)
  (try clear xl)
  have hx_:=(hf.block _ (lBk Hx.out) (by simp)).trans Hx.out
  clear Hx
  have x0:=hEC hx_ 0
  have x1:=hEC hx_ 1
  have xl:=lBk hx_
  have Hx:=Lib.hid hx_
  clear hx_
  (try clear y0)
  (try clear y1)
  (try clear yl)
  have hy_:=(hf.block _ (lBk Hy.out) (by simp)).trans Hy.out
  clear Hy
  have y0:=hEC hy_ 0
  have y1:=hEC hy_ 1
  have yl:=lBk hy_
  have Hy:=Lib.hid hy_
  clear hy_
  have Hf:=Lib.hid (Hf.out.trans0 (Fr.trans0 (by (repeat first|exact Fr.refl _ _|assumption|apply Fr.n|apply Fr.d|apply Fr.a|refine Fr.s ?_ (.inr (by simp;try omega)) _)) hf))
  clear hf
  go_wp2_with fail
  refine (HRY.out _ (Hf.out.trans0 (by (repeat first|exact Fr.refl _ _|assumption|apply Fr.n|apply Fr.d|apply Fr.a|refine Fr.s ?_ (.inr (by simp;try omega)) _)))).mono ?_
  rintro e w3 ⟨rfl,hf⟩
  (try clear x0)
  (try clear x1)
  (try clear xl)
  have hx_:=(hf.block _ (lBk Hx.out) (by simp)).trans Hx.out
  clear Hx
  have x0:=hEC hx_ 0
  have x1:=hEC hx_ 1
  have xl:=lBk hx_
  have Hx:=Lib.hid hx_
  clear hx_
  (try clear y0)
  (try clear y1)
  (try clear yl)
  have hy_:=(hf.block _ (lBk Hy.out) (by simp)).trans Hy.out
  clear Hy
  have y0:=hEC hy_ 0
  have y1:=hEC hy_ 1
  have yl:=lBk hy_
  have Hy:=Lib.hid hy_
  clear hy_
  have Hf:=Lib.hid (Hf.out.trans0 (Fr.trans0 (by (repeat first|exact Fr.refl _ _|assumption|apply Fr.n|apply Fr.d|apply Fr.a|refine Fr.s ?_ (.inr (by simp;try omega)) _)) hf))
  clear hf
  go_wp2
  go_ret
  exact⟨rfl,Hf.out.trans0 (by (repeat first|exact Fr.refl _ _|assumption|apply Fr.n|apply Fr.d|apply Fr.a|refine Fr.s ?_ (.inr (by simp;try omega)) _))⟩
 | true =>
 rw [hry] at HRY
 simp only [Bool.and_true,Bool.true_eq_false,if_false]
 obtain⟨n,hn,hn256,hi⟩:=level_nat hg (id:=id) (by omega)
 obtain⟨X,zx,ex1,ex2,bx⟩:=hx.z hrx
 obtain⟨Y,zy,ey1,ey2,by'⟩:=hy.z hry
 have hsx:sv nx dx=X:=by rw [ex1,ex2,zd_sv]
 have hsy:sv ny dy=Y:=by rw [ey1,ey2,zd_sv]
 obtain⟨L9,hL9⟩:∃ L9:Int,((n:Nat):Int)=L9:=⟨_,rfl⟩
 have HLX:=Lib.hid (fun w1 (hf:Fr [] w w1)=>Rless_z (bx.fr0 hf) zx (n:=n) (by omega))
 have HLY:=Lib.hid (fun w1 (hf:Fr [] w w1)=>Rless_z (by'.fr0 hf) zy (n:=n) (by omega))
 rw [hL9] at HLX HLY
 rw [hn,hL9] at HLV
 rw [hn,Int.toNat_natCast,hsx,hsy]
 obtain⟨o1,ho1⟩:∃ o,lessB X n=o:=⟨_,rfl⟩
 obtain⟨o2,ho2⟩:∃ o,lessB Y n=o:=⟨_,rfl⟩
 rw [ho1] at HLX
 rw [ho2] at HLY
 have hres:(if 0≤X∧X<((2 ^ n:Nat):Int)∧0≤Y∧Y<((2 ^ n:Nat):Int) then (0:Int) else 5)=if o1 && o2 then 0 else 5:=by
  rw [← ho1,← ho2]
  unfold lessB
  by_cases q1:0≤X∧X<((2 ^ n:Nat):Int)
  ·by_cases q2:0≤Y∧Y<((2 ^ n:Nat):Int)
   ·rw [if_pos ⟨q1.1,q1.2,q2.1,q2.2⟩,decide_eq_true q1,decide_eq_true q2];rfl
   ·rw [if_neg fun h=>q2 ⟨h.2.2.1,h.2.2.2⟩];rw [decide_eq_false q2,Bool.and_false];simp
  ·rw [if_neg fun h=>q1 ⟨h.1,h.2.1⟩];rw [decide_eq_false q1,Bool.false_and];simp
 rw [hres]
 clear h hg hx hy h0 hrx hry hn hn256 hi zx zy ex1 ex2 ey1 ey2 bx by' hsx hsy ho1 ho2 hres hL9
 cases o1 with
 | false =>
  simp only [Bool.false_and,Bool.false_eq_true,if_false]
  go_enter Tryz.func42,Tryz.ntmps42
  go_wp2_with fail
  refine (HKN.out _ (by (repeat first|exact Fr.refl _ _|assumption|apply Fr.n|apply Fr.d|apply Fr.a|refine Fr.s ?_ (.inr (by simp;try omega)) _))).mono ?_
  rintro e w1 ⟨rfl,hf⟩
  have hx_:=(hf.block (w.heap.size) (by first|(simp;done)|(simp;omega)) (by simp)).trans (show _=some (.cells #[.bool nx,.slice ax dx.length cx] 27 (0,0)) by (repeat first|rw [if_pos (by omega)]|rw [if_neg (by omega)]|rw [hDR]|rw [hDN]|rw [hAz]|rw [hSz]|rw [hAC]|rw [hSC]|rw [oMS]|rw [uPC]|rw [lSZ]|rw [lSS]|rfl))
  have x0:=hEC hx_ 0
  have x1:=hEC hx_ 1
  have xl:=lBk hx_
  have Hx:=Lib.hid hx_
  clear hx_
  have hy_:=(hf.block (w.heap.size+1) (by first|(simp;done)|(simp;omega)) (by simp)).trans (show _=some (.cells #[.bool ny,.slice ay dy.length cy] 27 (0,0)) by (repeat first|rw [if_pos (by omega)]|rw [if_neg (by omega)]|rw [hDR]|rw [hDN]|rw [hAz]|rw [hSz]|rw [hAC]|rw [hSC]|rw [oMS]|rw [uPC]|rw [lSZ]|rw [lSS]|rfl))
  have y0:=hEC hy_ 0
  have y1:=hEC hy_ 1
  have yl:=lBk hy_
  have Hy:=Lib.hid hy_
  clear hy_
  have Hf:=Lib.hid (Fr.trans0 (by (repeat first|exact Fr.refl _ _|assumption|apply Fr.n|apply Fr.d|apply Fr.a|refine Fr.s ?_ (.inr (by simp;try omega)) _):Fr [] w _) hf)
  clear hf
  go_wp2_with fail
  refine (HRX.out _ (Hf.out.trans0 (by (repeat first|exact Fr.refl _ _|assumption|apply Fr.n|apply Fr.d|apply Fr.a|refine Fr.s ?_ (.inr (by simp;try omega)) _)))).mono ?_
  rintro e w2 ⟨rfl,hf⟩
  (try clear x0)
  (try clear x1)
  (try clear xl)
  have hx_:=(hf.block _ (lBk Hx.out) (by simp)).trans Hx.out
  clear Hx
  have x0:=hEC hx_ 0
  have x1:=hEC hx_ 1
  have xl:=lBk hx_
  have Hx:=Lib.hid hx_
  clear hx_
  (try clear y0)
  (try clear y1)
  (try clear yl)
  have hy_:=(hf.block _ (lBk Hy.out) (by simp)).trans Hy.out
  clear Hy
  have y0:=hEC hy_ 0
  have y1:=hEC hy_ 1
  have yl:=lBk hy_
  have Hy:=Lib.hid hy_
  clear hy_
  have Hf:=Lib.hid (Hf.out.trans0 (Fr.trans0 (by (repeat first|exact Fr.refl _ _|assumption|apply Fr.n|apply Fr.d|apply Fr.a|refine Fr.s ?_ (.inr (by simp;try omega)) _)) hf))
  clear hf
  go_wp2_with fail
  refine (HRY.out _ (Hf.out.trans0 (by (repeat first|exact Fr.refl _ _|assumption|apply Fr.n|apply Fr.d|apply Fr.a|refine Fr.s ?_ (.inr (by simp;try omega)) _)))).mono ?_
  rintro e w3 ⟨rfl,hf⟩
  (try clear x0)
  (try clear x1)
  (try clear xl)
  have hx_:=(hf.block _ (lBk Hx.out) (by simp)).trans Hx.out
  clear Hx
  have x0:=hEC hx_ 0
  have x1:=hEC hx_ 1
  have xl:=lBk hx_
  have Hx:=Lib.hid hx_
  clear hx_
  (try clear y0)
  (try clear y1)
  (try clear yl)
  have hy_:=(hf.block _ (lBk Hy.out) (by simp)).trans Hy.out
  clear Hy
  have y0:=hEC hy_ 0
  have y1:=hEC hy_ 1
  have yl:=lBk hy_
  have Hy:=Lib.hid hy_
  clear hy_
  have Hf:=Lib.hid (Hf.out.trans0 (Fr.trans0 (by (repeat first|exact Fr.refl _ _|assumption|apply Fr.n|apply Fr.d|apply Fr.a|refine Fr.s ?_ (.inr (by simp;try omega)) _)) hf))
  clear hf
  go_wp2
  refine wRS [([0,1,2,3],[0]),([4,5,6,7,8,9,10],[7]),([11,12,13],[])] (by kernel_rfl) (by kernel_rfl) ?_
  (simp only [wpSegs,pick,Array.getD_eq_getD_getElem?,List.getElem?_toArray,List.getElem?_cons_succ,List.getElem?_cons_zero,Option.getD_some])
  go_wp2_with fail
  refine (HLV.out _ (Hf.out.trans0 (by (repeat first|exact Fr.refl _ _|assumption|apply Fr.n|apply Fr.d|apply Fr.a|refine Fr.s ?_ (.inr (by simp;try omega)) _)))).mono ?_
  rintro e w4 ⟨rfl,hf'⟩
  have hf:Fr [] w3 w4:=Fr.trans0 (by (repeat first|exact Fr.refl _ _|assumption|apply Fr.n|apply Fr.d|apply Fr.a|refine Fr.s ?_ (.inr (by simp;try omega)) _)) hf'
  (try clear x0)
  (try clear x1)
  (try clear xl)
  have hx_:=(hf.block _ (lBk Hx.out) (by simp)).trans Hx.out
  clear Hx
  have x0:=hEC hx_ 0
  have x1:=hEC hx_ 1
  have xl:=lBk hx_
  have Hx:=Lib.hid hx_
  clear hx_
  (try clear y0)
  (try clear y1)
  (try clear yl)
  have hy_:=(hf.block _ (lBk Hy.out) (by simp)).trans Hy.out
  clear Hy
  have y0:=hEC hy_ 0
  have y1:=hEC hy_ 1
  have yl:=lBk hy_
  have Hy:=Lib.hid hy_
  clear hy_
  have Hf:=Lib.hid (Hf.out.trans0 hf)
  clear hf hf'
  go_wp2
  refine Mid.intro ⟨⟨aGR (T:=27) (cs:=[.bool nx,.slice ax dx.length cx]) rfl rfl rfl Tryz.underlying27 rfl (by kernel_rfl) (fun j v hj=>?rng1) rfl,trivial⟩,?_⟩
  case rng1 =>
   rw [Nat.zero_add,hEC Hx.out,← hj]
   exact (Array.getElem?_toList (xs:=#[Value.bool nx,.slice ax dx.length cx])).symm
  go_wp2_with fail
  refine (HLX.out _ (Hf.out.trans0 (by (repeat first|exact Fr.refl _ _|assumption|apply Fr.n|apply Fr.d|apply Fr.a|refine Fr.s ?_ (.inr (by simp;try omega)) _)))).mono ?_
  rintro e w5 ⟨rfl,hf⟩
  (try clear x0)
  (try clear x1)
  (try clear xl)
  have hx_:=(hf.block _ (lBk Hx.out) (by simp)).trans Hx.out
  clear Hx
  have x0:=hEC hx_ 0
  have x1:=hEC hx_ 1
  have xl:=lBk hx_
  have Hx:=Lib.hid hx_
  clear hx_
  (try clear y0)
  (try clear y1)
  (try clear yl)
  have hy_:=(hf.block _ (lBk Hy.out) (by simp)).trans Hy.out
  clear Hy
  have y0:=hEC hy_ 0
  have y1:=hEC hy_ 1
  have yl:=lBk hy_
  have Hy:=Lib.hid hy_
  clear hy_
  have Hf:=Lib.hid (Hf.out.trans0 (Fr.trans0 (by (repeat first|exact Fr.refl _ _|assumption|apply Fr.n|apply Fr.d|apply Fr.a|refine Fr.s ?_ (.inr (by simp;try omega)) _)) hf))
  clear hf
  go_wp2
  refine Mid.intro ⟨⟨fun o ho hw=>by obtain rfl:=Option.some.inj ho;exact absurd hw (by simp [Region.wanted,yielded]),trivial⟩,?_⟩
  go_wp2
  refine Mid.intro ⟨trivial,Strict.intro rfl ?_⟩
  go_wp2
  go_ret
  exact⟨rfl,Hf.out.trans0 (by (repeat first|exact Fr.refl _ _|assumption|apply Fr.n|apply Fr.d|apply Fr.a|refine Fr.s ?_ (.inr (by simp;try omega)) _))⟩
 | true =>
  go_enter Tryz.func42,Tryz.ntmps42
  go_wp2_with fail
  refine (HKN.out _ (by (repeat first|exact Fr.refl _ _|assumption|apply Fr.n|apply Fr.d|apply Fr.a|refine Fr.s ?_ (.inr (by simp;try omega)) _))).mono ?_
  rintro e w1 ⟨rfl,hf⟩
  have hx_:=(hf.block (w.heap.size) (by first|(simp;done)|(simp;omega)) (by simp)).trans (show _=some (.cells #[.bool nx,.slice ax dx.length cx] 27 (0,0)) by (repeat first|rw [if_pos (by omega)]|rw [if_neg (by omega)]|rw [hDR]|rw [hDN]|rw [hAz]|rw [hSz]|rw [hAC]|rw [hSC]|rw [oMS]|rw [uPC]|rw [lSZ]|rw [lSS]|rfl))
  have x0:=hEC hx_ 0
  have x1:=hEC hx_ 1
  have xl:=lBk hx_
  have Hx:=Lib.hid hx_
  clear hx_
  have hy_:=(hf.block (w.heap.size+1) (by first|(simp;done)|(simp;omega)) (by simp)).trans (show _=some (.cells #[.bool ny,.slice ay dy.length cy] 27 (0,0)) by (repeat first|rw [if_pos (by omega)]|rw [if_neg (by omega)]|rw [hDR]|rw [hDN]|rw [hAz]|rw [hSz]|rw [hAC]|rw [hSC]|rw [oMS]|rw [uPC]|rw [lSZ]|rw [lSS]|rfl))
  have y0:=hEC hy_ 0
  have y1:=hEC hy_ 1
  have yl:=lBk hy_
  have Hy:=Lib.hid hy_
  clear hy_
  have Hf:=Lib.hid (Fr.trans0 (by (repeat first|exact Fr.refl _ _|assumption|apply Fr.n|apply Fr.d|apply Fr.a|refine Fr.s ?_ (.inr (by simp;try omega)) _):Fr [] w _) hf)
  clear hf
  go_wp2_with fail
  refine (HRX.out _ (Hf.out.trans0 (by (repeat first|exact Fr.refl _ _|assumption|apply Fr.n|apply Fr.d|apply Fr.a|refine Fr.s ?_ (.inr (by simp;try omega)) _)))).mono ?_
  rintro e w2 ⟨rfl,hf⟩
  (try clear x0)
  (try clear x1)
  (try clear xl)
  have hx_:=(hf.block _ (lBk Hx.out) (by simp)).trans Hx.out
  clear Hx
  have x0:=hEC hx_ 0
  have x1:=hEC hx_ 1
  have xl:=lBk hx_
  have Hx:=Lib.hid hx_
  clear hx_
  (try clear y0)
  (try clear y1)
  (try clear yl)
  have hy_:=(hf.block _ (lBk Hy.out) (by simp)).trans Hy.out
  clear Hy
  have y0:=hEC hy_ 0
  have y1:=hEC hy_ 1
  have yl:=lBk hy_
  have Hy:=Lib.hid hy_
  clear hy_
  have Hf:=Lib.hid (Hf.out.trans0 (Fr.trans0 (by (repeat first|exact Fr.refl _ _|assumption|apply Fr.n|apply Fr.d|apply Fr.a|refine Fr.s ?_ (.inr (by simp;try omega)) _)) hf))
  clear hf
  go_wp2_with fail
  refine (HRY.out _ (Hf.out.trans0 (by (repeat first|exact Fr.refl _ _|assumption|apply Fr.n|apply Fr.d|apply Fr.a|refine Fr.s ?_ (.inr (by simp;try omega)) _)))).mono ?_
  rintro e w3 ⟨rfl,hf⟩
  (try clear x0)
  (try clear x1)
  (try clear xl)
  have hx_:=(hf.block _ (lBk Hx.out) (by simp)).trans Hx.out
  clear Hx
  have x0:=hEC hx_ 0
  have x1:=hEC hx_ 1
  have xl:=lBk hx_
  have Hx:=Lib.hid hx_
  clear hx_
  (try clear y0)
  (try clear y1)
  (try clear yl)
  have hy_:=(hf.block _ (lBk Hy.out) (by simp)).trans Hy.out
  clear Hy
  have y0:=hEC hy_ 0
  have y1:=hEC hy_ 1
  have yl:=lBk hy_
  have Hy:=Lib.hid hy_
  clear hy_
  have Hf:=Lib.hid (Hf.out.trans0 (Fr.trans0 (by (repeat first|exact Fr.refl _ _|assumption|apply Fr.n|apply Fr.d|apply Fr.a|refine Fr.s ?_ (.inr (by simp;try omega)) _)) hf))
  clear hf
  go_wp2
  refine wRS [([0,1,2,3],[0]),([4,5,6,7,8,9,10],[7]),([11,12,13],[])] (by kernel_rfl) (by kernel_rfl) ?_
  (simp only [wpSegs,pick,Array.getD_eq_getD_getElem?,List.getElem?_toArray,List.getElem?_cons_succ,List.getElem?_cons_zero,Option.getD_some])
  go_wp2_with fail
  refine (HLV.out _ (Hf.out.trans0 (by (repeat first|exact Fr.refl _ _|assumption|apply Fr.n|apply Fr.d|apply Fr.a|refine Fr.s ?_ (.inr (by simp;try omega)) _)))).mono ?_
  rintro e w4 ⟨rfl,hf'⟩
  have hf:Fr [] w3 w4:=Fr.trans0 (by (repeat first|exact Fr.refl _ _|assumption|apply Fr.n|apply Fr.d|apply Fr.a|refine Fr.s ?_ (.inr (by simp;try omega)) _)) hf'
  (try clear x0)
  (try clear x1)
  (try clear xl)
  have hx_:=(hf.block _ (lBk Hx.out) (by simp)).trans Hx.out
  clear Hx
  have x0:=hEC hx_ 0
  have x1:=hEC hx_ 1
  have xl:=lBk hx_
  have Hx:=Lib.hid hx_
  clear hx_
  (try clear y0)
  (try clear y1)
  (try clear yl)
  have hy_:=(hf.block _ (lBk Hy.out) (by simp)).trans Hy.out
  clear Hy
  have y0:=hEC hy_ 0
  have y1:=hEC hy_ 1
  have yl:=lBk hy_
  have Hy:=Lib.hid hy_
  clear hy_
  have Hf:=Lib.hid (Hf.out.trans0 hf)
  clear hf hf'
  go_wp2
  refine Mid.intro ⟨⟨aGR (T:=27) (cs:=[.bool nx,.slice ax dx.length cx]) rfl rfl rfl Tryz.underlying27 rfl (by kernel_rfl) (fun j v hj=>?rng2) rfl,trivial⟩,?_⟩
  case rng2 =>
   rw [Nat.zero_add,hEC Hx.out,← hj]
   exact (Array.getElem?_toList (xs:=#[Value.bool nx,.slice ax dx.length cx])).symm
  go_wp2_with fail
  refine (HLX.out _ (Hf.out.trans0 (by (repeat first|exact Fr.refl _ _|assumption|apply Fr.n|apply Fr.d|apply Fr.a|refine Fr.s ?_ (.inr (by simp;try omega)) _)))).mono ?_
  rintro e w5 ⟨rfl,hf⟩
  (try clear x0)
  (try clear x1)
  (try clear xl)
  have hx_:=(hf.block _ (lBk Hx.out) (by simp)).trans Hx.out
  clear Hx
  have x0:=hEC hx_ 0
  have x1:=hEC hx_ 1
  have xl:=lBk hx_
  have Hx:=Lib.hid hx_
  clear hx_
  (try clear y0)
  (try clear y1)
  (try clear yl)
  have hy_:=(hf.block _ (lBk Hy.out) (by simp)).trans Hy.out
  clear Hy
  have y0:=hEC hy_ 0
  have y1:=hEC hy_ 1
  have yl:=lBk hy_
  have Hy:=Lib.hid hy_
  clear hy_
  have Hf:=Lib.hid (Hf.out.trans0 (Fr.trans0 (by (repeat first|exact Fr.refl _ _|assumption|apply Fr.n|apply Fr.d|apply Fr.a|refine Fr.s ?_ (.inr (by simp;try omega)) _)) hf))
  clear hf
  go_wp2_with fail
  refine (HLV.out _ (Hf.out.trans0 (by (repeat first|exact Fr.refl _ _|assumption|apply Fr.n|apply Fr.d|apply Fr.a|refine Fr.s ?_ (.inr (by simp;try omega)) _)))).mono ?_
  rintro e w6 ⟨rfl,hf⟩
  (try clear x0)
  (try clear x1)
  (try clear xl)
  have hx_:=(hf.block _ (lBk Hx.out) (by simp)).trans Hx.out
  clear Hx
  have x0:=hEC hx_ 0
  have x1:=hEC hx_ 1
  have xl:=lBk hx_
  have Hx:=Lib.hid hx_
  clear hx_
  (try clear y0)
  (try clear y1)
  (try clear yl)
  have hy_:=(hf.block _ (lBk Hy.out) (by simp)).trans Hy.out
  clear Hy
  have y0:=hEC hy_ 0
  have y1:=hEC hy_ 1
  have yl:=lBk hy_
  have Hy:=Lib.hid hy_
  clear hy_
  have Hf:=Lib.hid (Hf.out.trans0 (Fr.trans0 (by (repeat first|exact Fr.refl _ _|assumption|apply Fr.n|apply Fr.d|apply Fr.a|refine Fr.s ?_ (.inr (by simp;try omega)) _)) hf))
  clear hf
  go_wp2
  refine Mid.intro ⟨⟨aGR (T:=27) (cs:=[.bool ny,.slice ay dy.length cy]) rfl rfl rfl Tryz.underlying27 rfl (by kernel_rfl) (fun j v hj=>?rng3) rfl,trivial⟩,?_⟩
  case rng3 =>
   rw [Nat.zero_add,hEC Hy.out,← hj]
   exact (Array.getElem?_toList (xs:=#[Value.bool ny,.slice ay dy.length cy])).symm
  go_wp2_with fail
  refine (HLY.out _ (Hf.out.trans0 (by (repeat first|exact Fr.refl _ _|assumption|apply Fr.n|apply Fr.d|apply Fr.a|refine Fr.s ?_ (.inr (by simp;try omega)) _)))).mono ?_
  rintro e w7 ⟨rfl,hf⟩
  have Hf:=Lib.hid (Hf.out.trans0 (Fr.trans0 (by (repeat first|exact Fr.refl _ _|assumption|apply Fr.n|apply Fr.d|apply Fr.a|refine Fr.s ?_ (.inr (by simp;try omega)) _)) hf))
  clear hf x0 x1 xl Hx y0 y1 yl Hy
  cases o2 with
  | false =>
   simp only [Bool.and_false,Bool.false_eq_true,if_false]
   go_wp2
   refine Mid.intro ⟨trivial,Strict.intro rfl ?_⟩
   go_wp2
   go_ret
   exact⟨rfl,Hf.out.trans0 (by (repeat first|exact Fr.refl _ _|assumption|apply Fr.n|apply Fr.d|apply Fr.a|refine Fr.s ?_ (.inr (by simp;try omega)) _))⟩
  | true =>
   simp only [Bool.and_self,if_true]
   go_wp2
   refine Mid.intro ⟨trivial,Strict.intro rfl ?_⟩
   go_wp2
   go_ret
   exact⟨rfl,Hf.out.trans0 (by (repeat first|exact Fr.refl _ _|assumption|apply Fr.n|apply Fr.d|apply Fr.a|refine Fr.s ?_ (.inr (by simp;try omega)) _))⟩
end Go.Proofs.YtdanghnadbkhfaaGreat
end
section
namespace Go.Proofs.YtdanghnadbkhfaaGreat
open Go Go.RowKit Rg Mp Hp Qs Ev Bn Pt
theorem kids_is {s:Int} {ns:List K4} (hg:GoodQ s ns) {n:Nat} {id:Int} {t:Tr} (h:Is s ns (n+1) id t):kidsOf s ns id=(nodeOf s ns id,true):=by
 obtain⟨h1,h2,_⟩:=h.node hg
 unfold kidsOf
 rw [if_neg (by omega),h2]
theorem Rquad_z {w:World} {nx ny:Bool} {dx dy:List Nat} {ax ay:Option Addr} {cx cy:Nat} {X Y:Int} {A B:Nat→Prop} (hx:BigZ w A (.agg #[.bool nx,.slice ax dx.length cx]) X) (hy:BigZ w B (.agg #[.bool ny,.slice ay dy.length cy]) Y) (zx:Zok X) (zy:Zok Y) (hX:0≤X) (hY:0≤Y) {n:Nat} (hn:n≤256) {L9:Int} (hL:((n+1:Nat):Int)=L9) :
  Calls Tryz.prog 45 #[.int .i64 L9,.agg #[.bool nx,.slice ax dx.length cx],.agg #[.bool ny,.slice ay dy.length cy]] w fun e w'=>e=.returned (.int .i64 (qd n X.toNat Y.toNat:Nat))∧Fr [] w w':=by
 have HBX:=Lib.hid (fun w1 (hf:Fr [] w w1)=>RBit_z (k:=n) (hx.fr0 hf) zx hX (by omega))
 have HBY:=Lib.hid (fun w1 (hf:Fr [] w w1)=>RBit_z (k:=n) (hy.fr0 hf) zy hY (by omega))
 have hL1:IntKind.i64.wrap (L9 - 1)=(n:Nat):=by rw [show L9 - 1=((n:Nat):Int) by omega];exact IntWalk.i64_in _ (by omega)
 unfold qd
 obtain⟨p,hp⟩:∃ p,X.toNat / 2 ^ n % 2=p:=⟨_,rfl⟩
 obtain⟨q,hq⟩:∃ p,Y.toNat / 2 ^ n % 2=p:=⟨_,rfl⟩
 rw [hp] at HBX ⊢
 rw [hq] at HBY ⊢
 have hp2:p<2:=by omega
 have hq2:q<2:=by omega
 clear hx hy zx zy hX hY hn hL hp hq
 go_enter Tryz.func45,Tryz.ntmps45
 go_wp2
 refine wRS [([0,1,2,4,5,6,3],[4]),([7,8,9,10],[])] (by kernel_rfl) (by kernel_rfl) ?_
 (simp only [wpSegs,pick,Array.getD_eq_getD_getElem?,List.getElem?_toArray,List.getElem?_cons_succ,List.getElem?_cons_zero,Option.getD_some])
 go_wp2_with fail
 refine (HBX.out _ (by (repeat first|exact Fr.refl _ _|assumption|apply Fr.n|apply Fr.d|apply Fr.a|refine Fr.s ?_ (.inr (by simp;try omega)) _))).mono ?_
 rintro e w1 ⟨rfl,hf⟩
 have hy_:=(hf.block (w.heap.size+1) (by first|(simp;done)|(simp;omega)) (by simp)).trans (show _=some (.cells #[.bool ny,.slice ay dy.length cy] 27 (0,0)) by (repeat first|rw [if_pos (by omega)]|rw [if_neg (by omega)]|rw [hDR]|rw [hDN]|rw [hAz]|rw [hSz]|rw [hAC]|rw [hSC]|rw [oMS]|rw [uPC]|rw [lSZ]|rw [lSS]|rfl))
 have y0:=hEC hy_ 0
 have y1:=hEC hy_ 1
 have yl:=lBk hy_
 have Hy:=Lib.hid hy_
 clear hy_
 have Hf:=Lib.hid (Fr.trans0 (by (repeat first|exact Fr.refl _ _|assumption|apply Fr.n|apply Fr.d|apply Fr.a|refine Fr.s ?_ (.inr (by simp;try omega)) _):Fr [] w _) hf)
 clear hf
 go_wp2
 refine Mid.intro ⟨⟨aGR (T:=27) (cs:=[.bool ny,.slice ay dy.length cy]) rfl rfl rfl Tryz.underlying27 rfl (by kernel_rfl) (fun j v hj=>?rng) rfl,trivial⟩,?_⟩
 case rng =>
  rw [Nat.zero_add,hEC Hy.out,← hj]
  exact (Array.getElem?_toList (xs:=#[Value.bool ny,.slice ay dy.length cy])).symm
 go_wp2_with fail
 refine (HBY.out _ (Hf.out.trans0 (by (repeat first|exact Fr.refl _ _|assumption|apply Fr.n|apply Fr.d|apply Fr.a|refine Fr.s ?_ (.inr (by simp;try omega)) _)))).mono ?_
 rintro e w2 ⟨rfl,hf⟩
 have Hf:=Lib.hid (Hf.out.trans0 (Fr.trans0 (by (repeat first|exact Fr.refl _ _|assumption|apply Fr.n|apply Fr.d|apply Fr.a|refine Fr.s ?_ (.inr (by simp;try omega)) _)) hf))
 clear hf y0 y1 yl Hy
 have p4:p=0∨p=1:=by omega
 have q4:q=0∨q=1:=by omega
 clear hp2 hq2
 rcases p4 with rfl|rfl<;>rcases q4 with rfl|rfl
 all_goals
  go_wp2
  refine Mid.intro ⟨trivial,Strict.intro rfl ?_⟩
  go_wp2
  go_ret
  exact⟨rfl,Hf.out.trans0 (by (repeat first|exact Fr.refl _ _|assumption|apply Fr.n|apply Fr.d|apply Fr.a|refine Fr.s ?_ (.inr (by simp;try omega)) _))⟩
set_option maxHeartbeats 8000000 in
set_option maxRecDepth 100000 in
theorem RGet_q {W w:World} {b:Nat} {s:Int} {ns:List K4} {Ps:List Res} (h:Has W w (refR b s ns::Ps)) (id:Int) {nx ny:Bool} {dx dy:List Nat} {ax ay:Option Addr} {cx cy:Nat} (hx:BigIn w nx dx ax cx) (hy:BigIn w ny dy ay cy) :
  Calls Tryz.prog 10 #[.pointer (some ⟨b,0,none⟩),.int .i64 id,.agg #[.bool nx,.slice ax dx.length cx],.agg #[.bool ny,.slice ay dy.length cy]] w fun e w' =>
   e=.returned (.tuple #[.int .i64 (getQ s ns id nx dx ny dy).1,.int .i64 (getQ s ns id nx dx ny dy).2])∧Fr [] w w':=by
 have hg:=ref_good h
 have HP:=Lib.hid (fun w1 (hf:Fr [] w w1)=>Rinside_q (h.step hf) id (hx.fr hf) (hy.fr hf))
 unfold getQ
 obtain⟨p,hp⟩:∃ p,placeE (lvl s (levs s ns) id) nx dx ny dy=p:=⟨_,rfl⟩
 rw [hp] at HP ⊢
 by_cases h0:p=0
 case neg =>
  rw [if_pos h0]
  have hb:(p != 0)=true:=by simpa using h0
  clear hp hg h hx hy h0
  go_enter Tryz.func10,Tryz.ntmps10
  go_wp2_with fail
  refine (HP.out _ (by (repeat first|exact Fr.refl _ _|assumption|apply Fr.n|apply Fr.d|apply Fr.a|refine Fr.s ?_ (.inr (by simp;try omega)) _))).mono ?_
  rintro e w1 ⟨rfl,hf⟩
  have Hf:=Lib.hid (Fr.trans0 (by (repeat first|exact Fr.refl _ _|assumption|apply Fr.n|apply Fr.d|apply Fr.a|refine Fr.s ?_ (.inr (by simp;try omega)) _)) hf:Fr [] w w1)
  clear hf
  go_wp2
  go_ret2
  exact⟨rfl,Hf.out⟩
 subst h0
 have hb:((0:Int) != 0)=false:=rfl
 rw [if_neg (by simp)]
 obtain⟨n,hn,hn2,hi,hR1,hR2,hx1,hx2,hy1,hy2⟩:=placeE_zero hg hp
 obtain⟨X,zx,hnx,hdx,bx⟩:=hx.z hR1
 obtain⟨Y,zy,hny,hdy,by'⟩:=hy.z hR2
 have hsx:sv nx dx=X:=by rw [hnx,hdx,zd_sv]
 have hsy:sv ny dy=Y:=by rw [hny,hdy,zd_sv]
 have HL:=Lib.hid (fun w1 (hf:Fr [] w w1)=>RLevel_has (h.step hf) id)
 rw [hn] at HL
 rw [hsx,hsy,hn,show ((n:Nat):Int).toNat=n by omega]
 rw [hsx] at hx1 hx2
 rw [hsy] at hy1 hy2
 have HQU:=Lib.hid (fun w1 (hf:Fr [] w w1) (k:Nat) (hk:k≤256) (L9:Int) (hL:((k+1:Nat):Int)=L9)=>Rquad_z (bx.fr0 hf) (by'.fr0 hf) zx zy hx1 hy1 hk hL)
 have HKI:=Lib.hid (fun w1 (hf:Fr [] w w1) id'=>RKids_has (h.step hf) id')
 have HG:=Lib.hid hg
 obtain⟨v,hv⟩:∃ v,v=lookQ s ns n id X.toNat Y.toNat:=⟨_,rfl⟩
 rw [← hv]
 have Hv:=Lib.hid hv
 have Hi:=Lib.hid hi
 clear hp hg h hx hy hi hR1 hR2 bx by' hsx hsy zx zy hx1 hx2 hy1 hy2 hnx hny hdx hdy hn hv
 go_enter Tryz.func10,Tryz.ntmps10
 go_wp2_with fail
 refine (HP.out _ (by (repeat first|exact Fr.refl _ _|assumption|apply Fr.n|apply Fr.d|apply Fr.a|refine Fr.s ?_ (.inr (by simp;try omega)) _))).mono ?_
 rintro e w1 ⟨rfl,hf⟩
 have hx_:=(hf.block (w.heap.size) (by first|(simp;done)|(simp;omega)) (by simp)).trans (show _=some (.cells #[.bool nx,.slice ax dx.length cx] 27 (0,0)) by (repeat first|rw [if_pos (by omega)]|rw [if_neg (by omega)]|rw [hDR]|rw [hDN]|rw [hAz]|rw [hSz]|rw [hAC]|rw [hSC]|rw [oMS]|rw [uPC]|rw [lSZ]|rw [lSS]|rfl))
 have x0:=hEC hx_ 0
 have x1:=hEC hx_ 1
 have xl:=lBk hx_
 have Hx:=Lib.hid hx_
 clear hx_
 have hy_:=(hf.block (w.heap.size+1) (by first|(simp;done)|(simp;omega)) (by simp)).trans (show _=some (.cells #[.bool ny,.slice ay dy.length cy] 27 (0,0)) by (repeat first|rw [if_pos (by omega)]|rw [if_neg (by omega)]|rw [hDR]|rw [hDN]|rw [hAz]|rw [hSz]|rw [hAC]|rw [hSC]|rw [oMS]|rw [uPC]|rw [lSZ]|rw [lSS]|rfl))
 have y0:=hEC hy_ 0
 have y1:=hEC hy_ 1
 have yl:=lBk hy_
 have Hy:=Lib.hid hy_
 clear hy_
 have Hf:=Lib.hid (Fr.trans0 (by (repeat first|exact Fr.refl _ _|assumption|apply Fr.n|apply Fr.d|apply Fr.a|refine Fr.s ?_ (.inr (by simp;try omega)) _)) hf:Fr [] w w1)
 clear hf
 go_wp2_with fail
 refine (HL.out _ Hf.out).mono ?_
 rintro e w2 ⟨rfl,hf⟩
 (try clear x0)
 (try clear x1)
 (try clear xl)
 have hx_:=(hf.block _ (lBk Hx.out) (by simp)).trans Hx.out
 clear Hx
 have x0:=hEC hx_ 0
 have x1:=hEC hx_ 1
 have xl:=lBk hx_
 have Hx:=Lib.hid hx_
 clear hx_
 (try clear y0)
 (try clear y1)
 (try clear yl)
 have hy_:=(hf.block _ (lBk Hy.out) (by simp)).trans Hy.out
 clear Hy
 have y0:=hEC hy_ 0
 have y1:=hEC hy_ 1
 have yl:=lBk hy_
 have Hy:=Lib.hid hy_
 clear hy_
 have Hf:=Lib.hid (Hf.out.trans0 hf)
 clear hf
 clear x0 x1 xl y0 y1 yl
 go_wp2
 go_loopw [1,11] (fun x1 x11 wr=>∃ (k:Nat) (id':Int),(x1=.int .i64 id'∧x11=.int .i64 (k:Nat))∧k≤256∧Is s ns k id' (tr s ns id')∧v=lookQ s ns k id' X.toNat Y.toNat∧Fr [] w wr ∧
   wr.heap[w.heap.size]?=some (.cells #[.bool nx,.slice ax dx.length cx] 27 (0,0))∧wr.heap[w.heap.size+1]?=some (.cells #[.bool ny,.slice ay dy.length cy] 27 (0,0))) (fun _ x11 _=>(intOf x11).toNat)
 case atStart=>exact⟨n,id,⟨rfl,rfl⟩,hn2,Hi.out,Hv.out,Hf.out,Hx.out,Hy.out⟩
 case round =>
  obtain⟨k,id',⟨rfl,rfl⟩,hk,hi,hv,hf,h1,h2⟩:=hrel
  clear Hf Hx Hy Hi Hv
  have Hf:=Lib.hid hf
  have Hx:=Lib.hid h1
  have Hy:=Lib.hid h2
  have Hv:=Lib.hid hv
  clear hv hf
  rcases k with _|k
  ·have HE:=Lib.hid (show v=id' from by rw [Hv.out];rfl)
   clear h1 h2 hi
   go_wp2
   go_ret2
   rw [HE.out]
   exact⟨rfl,Hf.out⟩
  ·have HKO:=Lib.hid (kids_is HG.out hi)
   have hqi:=(hi.node HG.out).2.2
   obtain⟨kk,hkk⟩:∃ kk,nodeOf s ns id'=kk:=⟨_,rfl⟩
   rw [hkk] at HKO hqi
   have HQI:=Lib.hid hqi
   have HKK:=Lib.hid hkk
   obtain⟨L9,hL9⟩:∃ L9:Int,((k+1:Nat):Int)=L9:=⟨_,rfl⟩
   have HL9:=Lib.hid hL9
   have HQD:=Lib.hid (fun w1 (hf:Fr [] w w1)=>HQU.out w1 hf k (by omega) L9 hL9)
   rw [hL9]
   have hd:decide (L9 > 0)=true:=by rw [decide_eq_true_eq];omega
   have hL1:IntKind.i64.wrap (L9 - 1)=(k:Nat):=by rw [show L9 - 1=((k:Nat):Int) by omega];exact IntWalk.i64_in _ (by omega)
   have x0:=hEC h1 0
   have x1:=hEC h1 1
   have y0:=hEC h2 0
   have y1:=hEC h2 1
   have xl:=lBk h1
   have yl:=lBk h2
   clear h1 h2 hi hqi hkk hL9
   go_wp2_with fail
   refine (HKI.out _ Hf.out _).mono ?_
   rw [HKO.out]
   simp only [kv]
   rintro e w2 ⟨rfl,hf⟩
   (try clear x0)
   (try clear x1)
   (try clear xl)
   have hx_:=(hf.block _ (lBk Hx.out) (by simp)).trans Hx.out
   clear Hx
   have x0:=hEC hx_ 0
   have x1:=hEC hx_ 1
   have xl:=lBk hx_
   have Hx:=Lib.hid hx_
   clear hx_
   (try clear y0)
   (try clear y1)
   (try clear yl)
   have hy_:=(hf.block _ (lBk Hy.out) (by simp)).trans Hy.out
   clear Hy
   have y0:=hEC hy_ 0
   have y1:=hEC hy_ 1
   have yl:=lBk hy_
   have Hy:=Lib.hid hy_
   clear hy_
   have Hf:=Lib.hid (Hf.out.trans0 hf)
   clear hf
   obtain⟨q,hq⟩:∃ q,qd k X.toNat Y.toNat=q:=⟨_,rfl⟩
   have hq4:=qd_lt k X.toNat Y.toNat
   rw [hq] at hq4
   have HQQ:=Lib.hid hq
   clear hq
   have:q=0∨q=1∨q=2∨q=3:=by omega
   clear hq4
   rcases this with rfl|rfl|rfl|rfl
   ·
    have hq:qd k X.toNat Y.toNat=0:=HQQ.out
    rw [hq] at HQD
    go_wp2_with fail
    refine (HQD.out _ (Hf.out.trans0 (by (repeat first|exact Fr.refl _ _|assumption|apply Fr.n|apply Fr.d|apply Fr.a|refine Fr.s ?_ (.inr (by simp;try omega)) _)))).mono ?_
    rintro e w3 ⟨rfl,hf⟩
    have hf2:Fr [] w2 w3:=Fr.trans0 (by (repeat first|exact Fr.refl _ _|assumption|apply Fr.n|apply Fr.d|apply Fr.a|refine Fr.s ?_ (.inr (by simp;try omega)) _)) hf
    (try clear x0)
    (try clear x1)
    (try clear xl)
    have hx_:=(hf2.block _ (lBk Hx.out) (by simp)).trans Hx.out
    clear Hx
    have x0:=hEC hx_ 0
    have x1:=hEC hx_ 1
    have xl:=lBk hx_
    have Hx:=Lib.hid hx_
    clear hx_
    (try clear y0)
    (try clear y1)
    (try clear yl)
    have hy_:=(hf2.block _ (lBk Hy.out) (by simp)).trans Hy.out
    clear Hy
    have y0:=hEC hy_ 0
    have y1:=hEC hy_ 1
    have yl:=lBk hy_
    have Hy:=Lib.hid hy_
    clear hy_
    have hk_:=(hf.block (w2.heap.size) (by first|(simp;done)|(simp;omega)) (by simp)).trans (show _=some (.cells #[.int .i64 kk.a,.int .i64 kk.b,.int .i64 kk.c,.int .i64 kk.d] 81 (0,0)) by (repeat first|rw [if_pos (by omega)]|rw [if_neg (by omega)]|rw [hDR]|rw [hDN]|rw [hAz]|rw [hSz]|rw [hAC]|rw [hSC]|rw [oMS]|rw [uPC]|rw [lSZ]|rw [lSS]|rfl))
    have k0:=hEC hk_ 0
    have k1:=hEC hk_ 1
    have k2:=hEC hk_ 2
    have k3:=hEC hk_ 3
    have kl:=lBk hk_
    have Hk:=Lib.hid hk_
    clear hk_
    have Hf:=Lib.hid (Hf.out.trans0 hf2)
    have HNX:=Lib.hid (show v=lookQ s ns k (kk.get 0) X.toNat Y.toNat from by rw [Hv.out];show lookQ s ns k ((nodeOf s ns id').get (qd k X.toNat Y.toNat)) _ _=_;rw [hq,HKK.out])
    have HIN:=Lib.hid (show Is s ns k (kk.get 0) (tr s ns (kk.get 0)) from by
     have h9:=HQI.out 0 (by omega)
     exact⟨h9.1,rfl,by rw [h9.2.1];exact h9.2.2.1,by rw [h9.2.1];exact h9.2.2.2⟩)
    have hkg:kk.get 0=kk.a:=rfl
    rw [hkg] at HNX HIN
    clear hf hf2 hq hkg HQD
    go_wp2
    go_roundw
    case rel=>exact⟨k,_,⟨rfl,by go_num⟩,by omega,HIN.out,HNX.out,Hf.out.trans0 (by (repeat first|exact Fr.refl _ _|assumption|apply Fr.n|apply Fr.d|apply Fr.a|refine Fr.s ?_ (.inr (by simp;try omega)) _)),by have h:=Hx.out;(repeat first|rw [if_pos (by omega)]|rw [if_neg (by omega)]|rw [hDR]|rw [hDN]|rw [hAz]|rw [hSz]|rw [hAC]|rw [hSC]|rw [oMS]|rw [uPC]|rw [lSZ]|rw [lSS]|rfl);exact h,by have h:=Hy.out;(repeat first|rw [if_pos (by omega)]|rw [if_neg (by omega)]|rw [hDR]|rw [hDN]|rw [hAz]|rw [hSz]|rw [hAC]|rw [hSC]|rw [oMS]|rw [uPC]|rw [lSZ]|rw [lSS]|rfl);exact h⟩
    case measure=>have:=HL9.out;simp [intOf];omega
   ·
    have hq:qd k X.toNat Y.toNat=1:=HQQ.out
    rw [hq] at HQD
    go_wp2_with fail
    refine (HQD.out _ (Hf.out.trans0 (by (repeat first|exact Fr.refl _ _|assumption|apply Fr.n|apply Fr.d|apply Fr.a|refine Fr.s ?_ (.inr (by simp;try omega)) _)))).mono ?_
    rintro e w3 ⟨rfl,hf⟩
    have hf2:Fr [] w2 w3:=Fr.trans0 (by (repeat first|exact Fr.refl _ _|assumption|apply Fr.n|apply Fr.d|apply Fr.a|refine Fr.s ?_ (.inr (by simp;try omega)) _)) hf
    (try clear x0)
    (try clear x1)
    (try clear xl)
    have hx_:=(hf2.block _ (lBk Hx.out) (by simp)).trans Hx.out
    clear Hx
    have x0:=hEC hx_ 0
    have x1:=hEC hx_ 1
    have xl:=lBk hx_
    have Hx:=Lib.hid hx_
    clear hx_
    (try clear y0)
    (try clear y1)
    (try clear yl)
    have hy_:=(hf2.block _ (lBk Hy.out) (by simp)).trans Hy.out
    clear Hy
    have y0:=hEC hy_ 0
    have y1:=hEC hy_ 1
    have yl:=lBk hy_
    have Hy:=Lib.hid hy_
    clear hy_
    have hk_:=(hf.block (w2.heap.size) (by first|(simp;done)|(simp;omega)) (by simp)).trans (show _=some (.cells #[.int .i64 kk.a,.int .i64 kk.b,.int .i64 kk.c,.int .i64 kk.d] 81 (0,0)) by (repeat first|rw [if_pos (by omega)]|rw [if_neg (by omega)]|rw [hDR]|rw [hDN]|rw [hAz]|rw [hSz]|rw [hAC]|rw [hSC]|rw [oMS]|rw [uPC]|rw [lSZ]|rw [lSS]|rfl))
    have k0:=hEC hk_ 0
    have k1:=hEC hk_ 1
    have k2:=hEC hk_ 2
    have k3:=hEC hk_ 3
    have kl:=lBk hk_
    have Hk:=Lib.hid hk_
    clear hk_
    have Hf:=Lib.hid (Hf.out.trans0 hf2)
    have HNX:=Lib.hid (show v=lookQ s ns k (kk.get 1) X.toNat Y.toNat from by rw [Hv.out];show lookQ s ns k ((nodeOf s ns id').get (qd k X.toNat Y.toNat)) _ _=_;rw [hq,HKK.out])
    have HIN:=Lib.hid (show Is s ns k (kk.get 1) (tr s ns (kk.get 1)) from by
     have h9:=HQI.out 1 (by omega)
     exact⟨h9.1,rfl,by rw [h9.2.1];exact h9.2.2.1,by rw [h9.2.1];exact h9.2.2.2⟩)
    have hkg:kk.get 1=kk.b:=rfl
    rw [hkg] at HNX HIN
    clear hf hf2 hq hkg HQD
    go_wp2
    go_roundw
    case rel=>exact⟨k,_,⟨rfl,by go_num⟩,by omega,HIN.out,HNX.out,Hf.out.trans0 (by (repeat first|exact Fr.refl _ _|assumption|apply Fr.n|apply Fr.d|apply Fr.a|refine Fr.s ?_ (.inr (by simp;try omega)) _)),by have h:=Hx.out;(repeat first|rw [if_pos (by omega)]|rw [if_neg (by omega)]|rw [hDR]|rw [hDN]|rw [hAz]|rw [hSz]|rw [hAC]|rw [hSC]|rw [oMS]|rw [uPC]|rw [lSZ]|rw [lSS]|rfl);exact h,by have h:=Hy.out;(repeat first|rw [if_pos (by omega)]|rw [if_neg (by omega)]|rw [hDR]|rw [hDN]|rw [hAz]|rw [hSz]|rw [hAC]|rw [hSC]|rw [oMS]|rw [uPC]|rw [lSZ]|rw [lSS]|rfl);exact h⟩
    case measure=>have:=HL9.out;simp [intOf];omega
   ·
    have hq:qd k X.toNat Y.toNat=2:=HQQ.out
    rw [hq] at HQD
    go_wp2_with fail
    refine (HQD.out _ (Hf.out.trans0 (by (repeat first|exact Fr.refl _ _|assumption|apply Fr.n|apply Fr.d|apply Fr.a|refine Fr.s ?_ (.inr (by simp;try omega)) _)))).mono ?_
    rintro e w3 ⟨rfl,hf⟩
    have hf2:Fr [] w2 w3:=Fr.trans0 (by (repeat first|exact Fr.refl _ _|assumption|apply Fr.n|apply Fr.d|apply Fr.a|refine Fr.s ?_ (.inr (by simp;try omega)) _)) hf
    (try clear x0)
    (try clear x1)
    (try clear xl)
    have hx_:=(hf2.block _ (lBk Hx.out) (by simp)).trans Hx.out
    clear Hx
    have x0:=hEC hx_ 0
    have x1:=hEC hx_ 1
    have xl:=lBk hx_
    have Hx:=Lib.hid hx_
    clear hx_
    (try clear y0)
    (try clear y1)
    (try clear yl)
    have hy_:=(hf2.block _ (lBk Hy.out) (by simp)).trans Hy.out
    clear Hy
    have y0:=hEC hy_ 0
    have y1:=hEC hy_ 1
    have yl:=lBk hy_
    have Hy:=Lib.hid hy_
    clear hy_
    have hk_:=(hf.block (w2.heap.size) (by first|(simp;done)|(simp;omega)) (by simp)).trans (show _=some (.cells #[.int .i64 kk.a,.int .i64 kk.b,.int .i64 kk.c,.int .i64 kk.d] 81 (0,0)) by (repeat first|rw [if_pos (by omega)]|rw [if_neg (by omega)]|rw [hDR]|rw [hDN]|rw [hAz]|rw [hSz]|rw [hAC]|rw [hSC]|rw [oMS]|rw [uPC]|rw [lSZ]|rw [lSS]|rfl))
    have k0:=hEC hk_ 0
    have k1:=hEC hk_ 1
    have k2:=hEC hk_ 2
    have k3:=hEC hk_ 3
    have kl:=lBk hk_
    have Hk:=Lib.hid hk_
    clear hk_
    have Hf:=Lib.hid (Hf.out.trans0 hf2)
    have HNX:=Lib.hid (show v=lookQ s ns k (kk.get 2) X.toNat Y.toNat from by rw [Hv.out];show lookQ s ns k ((nodeOf s ns id').get (qd k X.toNat Y.toNat)) _ _=_;rw [hq,HKK.out])
    have HIN:=Lib.hid (show Is s ns k (kk.get 2) (tr s ns (kk.get 2)) from by
     have h9:=HQI.out 2 (by omega)
     exact⟨h9.1,rfl,by rw [h9.2.1];exact h9.2.2.1,by rw [h9.2.1];exact h9.2.2.2⟩)
    have hkg:kk.get 2=kk.c:=rfl
    rw [hkg] at HNX HIN
    clear hf hf2 hq hkg HQD
    go_wp2
    go_roundw
    case rel=>exact⟨k,_,⟨rfl,by go_num⟩,by omega,HIN.out,HNX.out,Hf.out.trans0 (by (repeat first|exact Fr.refl _ _|assumption|apply Fr.n|apply Fr.d|apply Fr.a|refine Fr.s ?_ (.inr (by simp;try omega)) _)),by have h:=Hx.out;(repeat first|rw [if_pos (by omega)]|rw [if_neg (by omega)]|rw [hDR]|rw [hDN]|rw [hAz]|rw [hSz]|rw [hAC]|rw [hSC]|rw [oMS]|rw [uPC]|rw [lSZ]|rw [lSS]|rfl);exact h,by have h:=Hy.out;(repeat first|rw [if_pos (by omega)]|rw [if_neg (by omega)]|rw [hDR]|rw [hDN]|rw [hAz]|rw [hSz]|rw [hAC]|rw [hSC]|rw [oMS]|rw [uPC]|rw [lSZ]|rw [lSS]|rfl);exact h⟩
    case measure=>have:=HL9.out;simp [intOf];omega
   ·
    have hq:qd k X.toNat Y.toNat=3:=HQQ.out
    rw [hq] at HQD
    go_wp2_with fail
    refine (HQD.out _ (Hf.out.trans0 (by (repeat first|exact Fr.refl _ _|assumption|apply Fr.n|apply Fr.d|apply Fr.a|refine Fr.s ?_ (.inr (by simp;try omega)) _)))).mono ?_
    rintro e w3 ⟨rfl,hf⟩
    have hf2:Fr [] w2 w3:=Fr.trans0 (by (repeat first|exact Fr.refl _ _|assumption|apply Fr.n|apply Fr.d|apply Fr.a|refine Fr.s ?_ (.inr (by simp;try omega)) _)) hf
    (try clear x0)
    (try clear x1)
    (try clear xl)
    have hx_:=(hf2.block _ (lBk Hx.out) (by simp)).trans Hx.out
    clear Hx
    have x0:=hEC hx_ 0
    have x1:=hEC hx_ 1
    have xl:=lBk hx_
    have Hx:=Lib.hid hx_
    clear hx_
    (try clear y0)
    (try clear y1)
    (try clear yl)
    have hy_:=(hf2.block _ (lBk Hy.out) (by simp)).trans Hy.out
    clear Hy
    have y0:=hEC hy_ 0
    have y1:=hEC hy_ 1
    have yl:=lBk hy_
    have Hy:=Lib.hid hy_
    clear hy_
    have hk_:=(hf.block (w2.heap.size) (by first|(simp;done)|(simp;omega)) (by simp)).trans (show _=some (.cells #[.int .i64 kk.a,.int .i64 kk.b,.int .i64 kk.c,.int .i64 kk.d] 81 (0,0)) by (repeat first|rw [if_pos (by omega)]|rw [if_neg (by omega)]|rw [hDR]|rw [hDN]|rw [hAz]|rw [hSz]|rw [hAC]|rw [hSC]|rw [oMS]|rw [uPC]|rw [lSZ]|rw [lSS]|rfl))
    have k0:=hEC hk_ 0
    have k1:=hEC hk_ 1
    have k2:=hEC hk_ 2
    have k3:=hEC hk_ 3
    have kl:=lBk hk_
    have Hk:=Lib.hid hk_
    clear hk_
    have Hf:=Lib.hid (Hf.out.trans0 hf2)
    have HNX:=Lib.hid (show v=lookQ s ns k (kk.get 3) X.toNat Y.toNat from by rw [Hv.out];show lookQ s ns k ((nodeOf s ns id').get (qd k X.toNat Y.toNat)) _ _=_;rw [hq,HKK.out])
    have HIN:=Lib.hid (show Is s ns k (kk.get 3) (tr s ns (kk.get 3)) from by
     have h9:=HQI.out 3 (by omega)
     exact⟨h9.1,rfl,by rw [h9.2.1];exact h9.2.2.1,by rw [h9.2.1];exact h9.2.2.2⟩)
    have hkg:kk.get 3=kk.d:=rfl
    rw [hkg] at HNX HIN
    clear hf hf2 hq hkg HQD
    go_wp2
    go_roundw
    case rel=>exact⟨k,_,⟨rfl,by go_num⟩,by omega,HIN.out,HNX.out,Hf.out.trans0 (by (repeat first|exact Fr.refl _ _|assumption|apply Fr.n|apply Fr.d|apply Fr.a|refine Fr.s ?_ (.inr (by simp;try omega)) _)),by have h:=Hx.out;(repeat first|rw [if_pos (by omega)]|rw [if_neg (by omega)]|rw [hDR]|rw [hDN]|rw [hAz]|rw [hSz]|rw [hAC]|rw [hSC]|rw [oMS]|rw [uPC]|rw [lSZ]|rw [lSS]|rfl);exact h,by have h:=Hy.out;(repeat first|rw [if_pos (by omega)]|rw [if_neg (by omega)]|rw [hDR]|rw [hDN]|rw [hAz]|rw [hSz]|rw [hAC]|rw [hSC]|rw [oMS]|rw [uPC]|rw [lSZ]|rw [lSS]|rfl);exact h⟩
    case measure=>have:=HL9.out;simp [intOf];omega
end Go.Proofs.YtdanghnadbkhfaaGreat
end
