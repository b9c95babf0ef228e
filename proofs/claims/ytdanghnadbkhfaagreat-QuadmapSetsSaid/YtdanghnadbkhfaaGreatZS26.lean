/- Own texts of this claim, part 27: no condition. -/
import Derived.IntWalk
import Derived.Deep.RegionHeld3
import Derived.Deep.DeepCutAuto
import Derived.Test.YtdanghnadbkhfaaGreatZS25
import Derived.Test.YtdanghnadbkhfaaGreatZS12
import Derived.Test.YtdanghnadbkhfaaGreatZS17
import Derived.Test.YtdanghnadbkhfaaGreatZS5
import Derived.Test.YtdanghnadbkhfaaGreatZS14
import Derived.Test.YtdanghnadbkhfaaGreatZS13
set_option linter.unusedVariables false
set_option linter.unusedSimpArgs false
section
namespace Go.Proofs.YtdanghnadbkhfaaGreat
open Go Go.RowKit Rg Mp Hp Qs Ev Bn
def BvOff (w:World) (F:List Nat) (e:BV):Prop:=BigIn w false (zd (e.1:Int)) e.2.1 e.2.2∧∀ x∈bvF e,x∉F
theorem BvOff.step {w w':World} {F F':List Nat} {e:BV} (h:BvOff w F e) (hf:Fr F w w') (hs:∀ x∈F',x∈F∨w.heap.size≤x):BvOff w' F' e:=by
 have hl:=big_lt h.1
 refine⟨big_keep h.1 fun x hx=>hf.block x (hl x hx) (h.2 x hx),fun x hx hm=>?_⟩
 rcases hs x hm with h5|h5
 ·exact h.2 x hx h5
 ·have:=hl x hx
  omega
theorem BvOff.fr {w w':World} {F:List Nat} {e:BV} (h:BvOff w F e) (hf:Fr [] w w'):BvOff w' F e:=⟨h.1.fr hf,h.2⟩
theorem Rpower_h {W w:World} {Ps:List Res} (h:Has W w Ps) {n:Nat} (hn:n≤2047) :
  Calls Tryz.prog 51 #[.int .i64 n] w fun e w'=>∃ a c,e=.returned (.agg #[.bool false,.slice a (zd ((2 ^ n:Nat):Int)).length c])∧Has W w' (bigR false (zd ((2 ^ n:Nat):Int)) a c::Ps):=by
 have HN:=Lib.hid hn
 have h1:=hAL h #[.bool false,.slice none 0 0] 27
 obtain⟨r4,hr4⟩:∃ r4,w.heap.size=r4:=⟨_,rfl⟩
 rw [hr4] at h1
 have H1:=Lib.hid h1
 obtain⟨V,hV⟩:∃ V,2 ^ n=V:=⟨_,rfl⟩
 rw [hV]
 have HV:=Lib.hid hV
 clear hn h h1 hV
 go_enter Tryz.func51,Tryz.ntmps51
 go_wp2_with fail
 refine (RFrom_z (by decide) (by decide)).mono ?_
 rintro e w1 ⟨v1,rfl,hb1,hf1⟩
 have H2:=Lib.hid (H1.out.step hf1)
 have HB1:=Lib.hid hb1
 clear hb1 hf1 H1
 go_wp2_with fail
 refine (RShift_z HB1.out HN.out).mono ?_
 rintro e w2 ⟨v2,rfl,hb2,hf2⟩
 obtain⟨a,c,rfl,h3⟩:=has_big H2.out hf2 hb2 (zok_pow HN.out)
 rw [HV.out] at h3 ⊢
 rw [show decide (((V:Nat):Int)<0)=false by simp] at h3 ⊢
 have h3:=h3.swap
 have hr:=h3.blk
 have r0:=hEC hr 0
 have r1:=hEC hr 1
 have rz0:=hEF hr 0
 have rz1:=hEF hr 1
 have rl:=lBk hr
 clear hr
 have H3:=Lib.hid h3
 clear hb2 hf2 h3 H2 HB1
 go_wp2
 have H5:=Lib.hid (hAL (hST (hST H3.out 0 (.bool false)) 1 (.slice a (zd (V:Int)).length c)) #[.bool false,.slice a (zd (V:Int)).length c] 27).swap
 refine bodyPost_ret (big_result1 rfl (b:=r4) (x:=.bool false) (y:=.slice a (zd (V:Int)).length c) rfl ?_) rfl ⟨a,c,rfl,?_⟩
 ·exact H5.out.blk
 ·exact H5.out.drop.drop
def lessB (x:Int) (n:Nat):Bool:=decide (0≤x∧x<((2 ^ n:Nat):Int))
theorem Rless_z {w:World} {v:Value} {x:Int} {A:Nat→Prop} (hv:BigZ w A v x) (hx:Zok x) {n:Nat} (hn:n≤2047):Calls Tryz.prog 68 #[v,.int .i64 n] w fun e w'=>e=.returned (.bool (lessB x n))∧Fr [] w w':=by
 have hv':=hv
 obtain⟨a,c,rfl,_,_,_⟩:=hv'
 have HN:=Lib.hid hn
 have HV:=Lib.hid hv
 have HX:=Lib.hid hx
 have HC0:=Lib.hid (show (decide (cmpI x 0 ≥ 0)=decide (0≤x)) from by unfold cmpI;rw [decide_eq_decide];split<;>(try split)<;>omega)
 have HC1:=Lib.hid (show (decide (cmpI x ((2 ^ n:Nat):Int)<0)=decide (x<((2 ^ n:Nat):Int))) from by unfold cmpI;rw [decide_eq_decide];split<;>(try split)<;>omega)
 have HR:=Lib.hid (show lessB x n=(decide (0≤x) && decide (x<((2 ^ n:Nat):Int))) from by unfold lessB;rw [Bool.decide_and])
 obtain⟨c0,hc0⟩:∃ c0,cmpI x 0=c0:=⟨_,rfl⟩
 obtain⟨c1,hc1⟩:∃ c1,cmpI x ((2 ^ n:Nat):Int)=c1:=⟨_,rfl⟩
 rw [hc0] at HC0
 rw [hc1] at HC1
 have E0:=Lib.hid hc0
 have E1:=Lib.hid hc1
 obtain⟨ng,hng⟩:∃ ng,decide (x<0)=ng:=⟨_,rfl⟩
 obtain⟨ln,hln⟩:∃ ln,(zd x).length=ln:=⟨_,rfl⟩
 rw [hng,hln] at HV ⊢
 clear hn hv hx hc0 hc1 hng hln
 rw [HR.out]
 by_cases h0:0≤x
 ·have hd0:decide (c0 ≥ 0)=true:=by rw [HC0.out];simpa using h0
  have hl0:decide (0≤x)=true:=by simpa using h0
  rw [hl0,Bool.true_and,← HC1.out]
  clear h0 hl0
  go_enter Tryz.func68,Tryz.ntmps68
  go_wp2
  refine wRS [([0,1],[0]),([2,3,4,5,6,7],[5]),([8,9,10,11],[])] (by kernel_rfl) (by kernel_rfl) ?_
  (simp only [wpSegs,pick,Array.getD_eq_getD_getElem?,List.getElem?_toArray,List.getElem?_cons_succ,List.getElem?_cons_zero,Option.getD_some])
  go_wp2_with fail
  refine (RFrom_z (by decide) (by decide)).mono ?_
  rintro e w1 ⟨v1,rfl,hb1,hf1⟩
  have hx_:=(hf1.block (w.heap.size) (by first|(simp;done)|(simp;omega)) (by simp)).trans (show _=some (.cells #[.bool ng,.slice a ln c] 27 (0,0)) by (repeat first|rw [if_pos (by omega)]|rw [if_neg (by omega)]|rw [hDR]|rw [hDN]|rw [hAz]|rw [hSz]|rw [hAC]|rw [hSC]|rw [oMS]|rw [uPC]|rw [lSZ]|rw [lSS]|rfl))
  have x0:=hEC hx_ 0
  have x1:=hEC hx_ 1
  have xl:=lBk hx_
  have Hx:=Lib.hid hx_
  clear hx_
  have HB1:=Lib.hid hb1
  have HF1:=Lib.hid (Fr.trans0 (by (repeat first|exact Fr.refl _ _|assumption|apply Fr.n|apply Fr.d|apply Fr.a|refine Fr.s ?_ (.inr (by simp;try omega)) _):Fr [] w _) hf1)
  clear hb1 hf1
  go_wp2
  refine Mid.intro ⟨⟨aGR (T:=27) (cs:=[.bool ng,.slice a ln c]) rfl rfl rfl Tryz.underlying27 rfl (by kernel_rfl) (fun j v hj=>?rngA) rfl,trivial⟩,?_⟩
  case rngA =>
   rw [Nat.zero_add,hEC Hx.out,← hj]
   exact (Array.getElem?_toList (xs:=#[Value.bool ng,.slice a ln c])).symm
  go_wp2_with fail
  refine (RCompare_z (HV.out.fr0 (HF1.out.trans0 (by (repeat first|exact Fr.refl _ _|assumption|apply Fr.n|apply Fr.d|apply Fr.a|refine Fr.s ?_ (.inr (by simp;try omega)) _)))) (HB1.out.fr0 (by (repeat first|exact Fr.refl _ _|assumption|apply Fr.n|apply Fr.d|apply Fr.a|refine Fr.s ?_ (.inr (by simp;try omega)) _))) HX.out (zok_int (by decide) (by decide))).mono ?_
  rw [E0.out]
  rintro e w2 ⟨rfl,hf2⟩
  (try clear x0)
  (try clear x1)
  (try clear xl)
  have hx_:=(hf2.block _ (lBk Hx.out) (by simp)).trans Hx.out
  clear Hx
  have x0:=hEC hx_ 0
  have x1:=hEC hx_ 1
  have xl:=lBk hx_
  have Hx:=Lib.hid hx_
  clear hx_
  have HF2:=Lib.hid (HF1.out.trans0 (Fr.trans0 (by (repeat first|exact Fr.refl _ _|assumption|apply Fr.n|apply Fr.d|apply Fr.a|refine Fr.s ?_ (.inr (by simp;try omega)) _)) hf2))
  clear hf2 HF1 HB1
  go_wp2_with fail
  refine (Rpower_h (Has.nil (Fr.refl [] _)) HN.out).mono ?_
  rintro e w3 ⟨a3,c3,rfl,h3⟩
  (try clear x0)
  (try clear x1)
  (try clear xl)
  have hx_:=(h3.fr.block _ (lBk Hx.out) (by simp)).trans Hx.out
  clear Hx
  have x0:=hEC hx_ 0
  have x1:=hEC hx_ 1
  have xl:=lBk hx_
  have Hx:=Lib.hid hx_
  clear hx_
  have HB3:=Lib.hid (show BigZ w3 (fun _=>True) (.agg #[.bool false,.slice a3 (zd ((2 ^ n:Nat):Int)).length c3]) ((2 ^ n:Nat):Int) from by
   obtain⟨G,hG,_⟩:=h3.head
   exact in_z hG)
  have HF3:=Lib.hid (HF2.out.trans0 (Fr.trans0 (by (repeat first|exact Fr.refl _ _|assumption|apply Fr.n|apply Fr.d|apply Fr.a|refine Fr.s ?_ (.inr (by simp;try omega)) _)) h3.fr))
  clear h3 HF2
  go_wp2
  refine Mid.intro ⟨⟨aGR (T:=27) (cs:=[.bool ng,.slice a ln c]) rfl rfl rfl Tryz.underlying27 rfl (by kernel_rfl) (fun j v hj=>?rngB) rfl,trivial⟩,?_⟩
  case rngB =>
   rw [Nat.zero_add,hEC Hx.out,← hj]
   exact (Array.getElem?_toList (xs:=#[Value.bool ng,.slice a ln c])).symm
  go_wp2_with fail
  refine (RCompare_z (HV.out.fr0 (HF3.out.trans0 (by (repeat first|exact Fr.refl _ _|assumption|apply Fr.n|apply Fr.d|apply Fr.a|refine Fr.s ?_ (.inr (by simp;try omega)) _)))) (HB3.out.fr0 (by (repeat first|exact Fr.refl _ _|assumption|apply Fr.n|apply Fr.d|apply Fr.a|refine Fr.s ?_ (.inr (by simp;try omega)) _))) HX.out (zok_pow HN.out)).mono ?_
  rw [E1.out]
  rintro e w4 ⟨rfl,hf4⟩
  have HF4:=Lib.hid (HF3.out.trans0 (Fr.trans0 (by (repeat first|exact Fr.refl _ _|assumption|apply Fr.n|apply Fr.d|apply Fr.a|refine Fr.s ?_ (.inr (by simp;try omega)) _)) hf4))
  clear hf4 HF3 HB3
  go_wp2
  refine Mid.intro ⟨trivial,Strict.intro rfl ?_⟩
  go_wp2
  go_ret
  exact⟨rfl,HF4.out.trans0 (by (repeat first|exact Fr.refl _ _|assumption|apply Fr.n|apply Fr.d|apply Fr.a|refine Fr.s ?_ (.inr (by simp;try omega)) _))⟩
 ·have hd0:decide (c0 ≥ 0)=false:=by rw [HC0.out];simpa using h0
  have hl0:decide (0≤x)=false:=by simpa using h0
  rw [hl0,Bool.false_and]
  clear h0 hl0
  go_enter Tryz.func68,Tryz.ntmps68
  go_wp2
  refine wRS [([0,1],[0]),([2,3,4,5,6,7],[5]),([8,9,10,11],[])] (by kernel_rfl) (by kernel_rfl) ?_
  (simp only [wpSegs,pick,Array.getD_eq_getD_getElem?,List.getElem?_toArray,List.getElem?_cons_succ,List.getElem?_cons_zero,Option.getD_some])
  go_wp2_with fail
  refine (RFrom_z (by decide) (by decide)).mono ?_
  rintro e w1 ⟨v1,rfl,hb1,hf1⟩
  have hx_:=(hf1.block (w.heap.size) (by first|(simp;done)|(simp;omega)) (by simp)).trans (show _=some (.cells #[.bool ng,.slice a ln c] 27 (0,0)) by (repeat first|rw [if_pos (by omega)]|rw [if_neg (by omega)]|rw [hDR]|rw [hDN]|rw [hAz]|rw [hSz]|rw [hAC]|rw [hSC]|rw [oMS]|rw [uPC]|rw [lSZ]|rw [lSS]|rfl))
  have x0:=hEC hx_ 0
  have x1:=hEC hx_ 1
  have xl:=lBk hx_
  have Hx:=Lib.hid hx_
  clear hx_
  have HB1:=Lib.hid hb1
  have HF1:=Lib.hid (Fr.trans0 (by (repeat first|exact Fr.refl _ _|assumption|apply Fr.n|apply Fr.d|apply Fr.a|refine Fr.s ?_ (.inr (by simp;try omega)) _):Fr [] w _) hf1)
  clear hb1 hf1
  go_wp2
  refine Mid.intro ⟨⟨aGR (T:=27) (cs:=[.bool ng,.slice a ln c]) rfl rfl rfl Tryz.underlying27 rfl (by kernel_rfl) (fun j v hj=>?rngC) rfl,trivial⟩,?_⟩
  case rngC =>
   rw [Nat.zero_add,hEC Hx.out,← hj]
   exact (Array.getElem?_toList (xs:=#[Value.bool ng,.slice a ln c])).symm
  go_wp2_with fail
  refine (RCompare_z (HV.out.fr0 (HF1.out.trans0 (by (repeat first|exact Fr.refl _ _|assumption|apply Fr.n|apply Fr.d|apply Fr.a|refine Fr.s ?_ (.inr (by simp;try omega)) _)))) (HB1.out.fr0 (by (repeat first|exact Fr.refl _ _|assumption|apply Fr.n|apply Fr.d|apply Fr.a|refine Fr.s ?_ (.inr (by simp;try omega)) _))) HX.out (zok_int (by decide) (by decide))).mono ?_
  rw [E0.out]
  rintro e w2 ⟨rfl,hf2⟩
  have HF2:=Lib.hid (HF1.out.trans0 (Fr.trans0 (by (repeat first|exact Fr.refl _ _|assumption|apply Fr.n|apply Fr.d|apply Fr.a|refine Fr.s ?_ (.inr (by simp;try omega)) _)) hf2))
  clear hf2 HF1 HB1
  go_wp2
  refine Mid.intro ⟨⟨fun o ho hw=>by obtain rfl:=Option.some.inj ho;exact absurd hw (by simp [Region.wanted,yielded]),trivial⟩,?_⟩
  go_wp2
  refine Mid.intro ⟨trivial,Strict.intro rfl ?_⟩
  go_wp2
  go_ret
  exact⟨rfl,HF2.out.trans0 (by (repeat first|exact Fr.refl _ _|assumption|apply Fr.n|apply Fr.d|apply Fr.a|refine Fr.s ?_ (.inr (by simp;try omega)) _))⟩
end Go.Proofs.YtdanghnadbkhfaaGreat
end
section
namespace Go.Proofs.YtdanghnadbkhfaaGreat
open Go Go.RowKit Rg Mp Hp Qs Ev Bn
structure SV where
 X:BV
 Y:BV
 st:Int
def SV.spot (e:SV):Spot:=⟨e.X.1,e.Y.1,e.st⟩
def svE (e:SV):List Value:=[.bool false,.slice e.X.2.1 (zd (e.X.1:Int)).length e.X.2.2,.bool false,.slice e.Y.2.1 (zd (e.Y.1:Int)).length e.Y.2.2,.int .i64 e.st]
def svs (l:List SV):List Value:=l.flatMap svE
structure SpAt (w:World) (F:List Nat) (v:Value) (E:List SV):Prop where
 rd:Reads w v E.length 5 (svs E)
 off:E≠[]→∀ x,v.ownBlock=some x→x∉F
 el:∀ e∈E,BvOff w F e.X∧BvOff w F e.Y
theorem SpAt.step {w w':World} {F F':List Nat} {v:Value} {E:List SV} (h:SpAt w F v E) (hf:Fr F w w') (hs:∀ x∈F',x∈F∨w.heap.size≤x):SpAt w' F' v E:=by
 refine⟨?_,fun hE x hx hm=>?_,fun e he=>⟨(h.el e he).1.step hf hs,(h.el e he).2.step hf hs⟩⟩
 ·rcases E with _|⟨e,E⟩
  ·obtain⟨h1,a,c,rfl,_⟩:=h.rd
   exact⟨h1,a,c,rfl,fun h=>by simp at h⟩
  ·exact h.rd.keep fun x hx hl=>hf.block x hl (h.off (by simp) x hx)
 ·rcases hs x hm with h5|h5
  ·exact h.off hE x hx h5
  ·obtain⟨_,a,c,rfl,h2⟩:=h.rd
   obtain⟨g,o,rfl,hg,_⟩:=h2 (List.length_pos_iff.2 hE)
   cases hx
   have h6:w.heap.size≤g:=h5
   omega
theorem SpAt.fr {w w':World} {F:List Nat} {v:Value} {E:List SV} (h:SpAt w F v E) (hf:Fr [] w w'):SpAt w' F v E:=⟨h.rd.fr hf,h.off,fun e he=>⟨(h.el e he).1.fr hf,(h.el e he).2.fr hf⟩⟩
theorem map_spot_len (E:List SV):(E.map SV.spot).length=E.length:=List.length_map _
theorem part_take {E:List SV} {i:Nat} {e:SV} (hi:E[i]?=some e) {H k:Nat}:partQ H k ((E.take (i+1)).map SV.spot)=partQ H k ((E.take i).map SV.spot)++if quadOf H e.spot=k then [intoQ H e.spot] else []:=by
 rw [List.take_add_one,hi,List.map_append]
 show partQ H k (_++[e.spot])=_
 rw [partQ_snoc]
end Go.Proofs.YtdanghnadbkhfaaGreat
end
section
namespace Go.Proofs.YtdanghnadbkhfaaGreat
open Go Go.RowKit Rg Mp Hp Qs Ev Bn
structure PSt (w wr:World) (F:List Nat) (E:List SV) (H k:Nat) (x7:Nat) (ha:Option Addr) (hc:Nat) (i:Nat) (v:Value) (E':List SV) (L:List BV):Prop where
 le:i≤E.length
 mp:E'.map SV.spot=partQ H k ((E.take i).map SV.spot)
 el:∀ e∈E',(BvOff w F e.X∨e.X∈L)∧(BvOff w F e.Y∨e.Y∈L)
 has:Has w wr [Hp.row 117 5 v E'.length (svs E'),poolR L,Hp.blk x7 (.cells #[.bool false,.slice ha (zd (H:Int)).length hc] 27 (0,0)),bigR false (zd (H:Int)) ha hc]
theorem PSt.skip {w wr w2:World} {F:List Nat} {E:List SV} {H k x7:Nat} {ha:Option Addr} {hc i:Nat} {v:Value} {E':List SV} {L:List BV} {e:SV} (h:PSt w wr F E H k x7 ha hc i v E' L) (hp:E[i]?=some e) (hq:quadOf H e.spot≠k)
  (hw:Has w w2 [Hp.row 117 5 v E'.length (svs E'),poolR L,Hp.blk x7 (.cells #[.bool false,.slice ha (zd (H:Int)).length hc] 27 (0,0)),bigR false (zd (H:Int)) ha hc]):PSt w w2 F E H k x7 ha hc (i+1) v E' L :=
 ⟨(List.getElem?_eq_some_iff.1 hp).1,by rw [part_take hp,if_neg hq,List.append_nil];exact h.mp,h.el,hw⟩
theorem PSt.add {w wr w2:World} {F:List Nat} {E:List SV} {H k x7:Nat} {ha:Option Addr} {hc i:Nat} {v v2:Value} {E':List SV} {L L2:List BV} {e e2:SV} (h:PSt w wr F E H k x7 ha hc i v E' L) (hp:E[i]?=some e) (hq:quadOf H e.spot=k) (hs:e2.spot=intoQ H e.spot)
  (hL:∀ x∈L,x∈L2) (he:(BvOff w F e2.X∨e2.X∈L2)∧(BvOff w F e2.Y∨e2.Y∈L2))
  (hw:Has w w2 [Hp.row 117 5 v2 (E'++[e2]).length (svs (E'++[e2])),poolR L2,Hp.blk x7 (.cells #[.bool false,.slice ha (zd (H:Int)).length hc] 27 (0,0)),bigR false (zd (H:Int)) ha hc]):PSt w w2 F E H k x7 ha hc (i+1) v2 (E'++[e2]) L2 :=
 ⟨(
  List.getElem?_eq_some_iff.1 hp).1,by rw [part_take hp,if_pos hq,List.map_append,h.mp,← hs];rfl,fun x hx=>by
  rw [List.mem_append] at hx
  rcases hx with hx|hx
  ·exact⟨(h.el x hx).1.imp_right (hL _),(h.el x hx).2.imp_right (hL _)⟩
  ·rw [List.mem_singleton] at hx;subst hx;exact he,hw⟩
theorem PSt.len {w wr:World} {F:List Nat} {E:List SV} {H k x7:Nat} {ha:Option Addr} {hc i:Nat} {v:Value} {E':List SV} {L:List BV} (h:PSt w wr F E H k x7 ha hc i v E' L):E'.length≤E.length:=by
 have:=congrArg List.length h.mp
 rw [map_spot_len] at this
 rw [this]
 unfold partQ
 rw [List.length_map]
 refine Nat.le_trans (List.length_filter_le _ _) ?_
 rw [map_spot_len,List.length_take]
 omega
def PartPost (w:World) (F:List Nat) (E:List SV) (H k:Nat) (e:Ending) (w':World):Prop :=
 ∃ a c E',e=.returned (.slice a (List.length E') c)∧SpAt w' F (.slice a E'.length c) E'∧E'.map SV.spot=partQ H k (E.map SV.spot)∧Fr [] w w'
theorem has_mem_new {W w:World} {P:Res}:∀ {Ps:List Res},Has W w Ps→P∈Ps→∃ G,P.holds w G∧∀ x∈G,W.heap.size≤x:=by
 intro Ps h hm
 obtain⟨As,Bs,rfl⟩:=List.append_of_mem hm
 have h2:Has W w (P::(As++Bs)):=h.perm List.perm_middle
 obtain⟨F,⟨F1,F2,h1,h3,h4,h5,h6⟩,hf,hF⟩:=h2
 exact⟨F1,h1,fun x hx=>hF x (by simp_all)⟩
theorem PSt.done {w wr:World} {F:List Nat} {E:List SV} {H k x7:Nat} {ha:Option Addr} {hc:Nat} {v a:Value} {E':List SV} {L:List BV} (hs:SpAt w F a E) (hF:∀ x∈F,x<w.heap.size) (h:PSt w wr F E H k x7 ha hc E.length v E' L):PartPost w F E H k (.returned v) wr:=by
 have hw:=h.has
 obtain⟨av,cv,rfl,_,_⟩:=oFM hw.row
 have hpool:∀ e∈L,BvOff wr F e:=fun e he=>by
  obtain⟨G,⟨h1,h2⟩,h3⟩:=has_mem_new (P:=poolR L) hw (by simp)
  exact⟨(h1 e he).1,fun x hx hm=>by have:=h3 x ((h1 e he).2 x hx);have:=hF x hm;omega⟩
 refine⟨av,cv,E',rfl,⟨Reads.of_owns hw.row,fun _ x hx hm=>?_,fun e he=>?_⟩,?_,hw.fr⟩
 ·obtain⟨G,⟨h1,h2⟩,h3⟩:=has_mem_new (P:=Hp.row 117 5 (.slice av E'.length cv) E'.length (svs E')) hw (by simp)
  have:=h3 x (by rw [h2,hx];simp)
  have:=hF x hm
  omega
 ·obtain⟨h1,h2⟩:=h.el e he
  exact⟨h1.elim (fun h=>h.fr hw.fr) (hpool _),h2.elim (fun h=>h.fr hw.fr) (hpool _)⟩
 ·have:=h.mp
  rwa [List.take_length] at this
end Go.Proofs.YtdanghnadbkhfaaGreat
end
section
namespace Go.Proofs.YtdanghnadbkhfaaGreat
open Go Go.RowKit Rg Mp Hp Qs
def RTwo (w:World) (b:Nat) (s:Int) (r:(Int×Int)×List K4) (F:List Nat) (e:Ending) (w':World):Prop :=
 e=.returned (.tuple #[.int .i64 r.1.1,.int .i64 r.1.2])∧∃ F',RefAt w' b s r.2 F'∧Fr F w w'∧(∀ x∈F',x∈F∨w.heap.size≤x)
theorem RTwo.same {w w':World} {b:Nat} {s:Int} {ns:List K4} {F:List Nat} {r e:Int} {t:(Int×Int)×List K4} (hS:RefAt w b s ns F) (hf:Fr [] w w') (ht:t=((r,e),ns)):RTwo w b s t F (.returned (.tuple #[.int .i64 r,.int .i64 e])) w':=by
 subst ht
 exact⟨rfl,F,hS.fr hf (by simp),hf.mono (by simp),fun x hx=>.inl hx⟩
set_option maxHeartbeats 16000000 in
set_option maxRecDepth 100000 in
theorem RJoin_calls {w:World} {b:Nat} {s:Int} {ns:List K4} {F:List Nat} (hS:RefAt w b s ns F) (hlen:ns.length<90000) (x:K4) :
  Calls Tryz.prog 76 #[.pointer (some ⟨b,0,none⟩),.int .i64 x.a,.int .i64 x.b,.int .i64 x.c,.int .i64 x.d] w (RTwo w b s (join s ns x) F):=by
 have HS:=Lib.hid hS
 have Hlen:=Lib.hid hlen
 clear hlen
 obtain⟨hgood,nv,hI,rfl⟩:=hS
 obtain⟨na,nc,rfl,_,_⟩:=oFM hI.nodes
 have hs1:2≤s:=hgood.1
 have hs2:s≤8:=hgood.2.1
 have Hgood:=Lib.hid hgood
 have HI:=Lib.hid hI
 clear hgood hI
 have hblt:b<w.heap.size:=lBk HI.out.blk
 obtain⟨la,hla⟩:∃ la,la=lvl s (levs s ns) x.a:=⟨_,rfl⟩
 obtain⟨lb,hlb⟩:∃ lb,lb=lvl s (levs s ns) x.b:=⟨_,rfl⟩
 obtain⟨lc,hlc⟩:∃ lc,lc=lvl s (levs s ns) x.c:=⟨_,rfl⟩
 obtain⟨ld,hld⟩:∃ ld,ld=lvl s (levs s ns) x.d:=⟨_,rfl⟩
 obtain⟨fi,hfi⟩:∃ fi,fi=findR ns x:=⟨_,rfl⟩
 have Hla:=Lib.hid hla
 have Hlb:=Lib.hid hlb
 have Hlc:=Lib.hid hlc
 have Hld:=Lib.hid hld
 have Hfi:=Lib.hid hfi
 clear hla hlb hlc hld hfi
 have hj1:(la<0∨lb<0∨lc<0∨ld<0)→join s ns x=((0,13),ns):=fun h=>by
  rw [Hla.out,Hlb.out,Hlc.out,Hld.out] at h
  unfold join;rw [if_pos h]
 have hj2:¬ (la<0∨lb<0∨lc<0∨ld<0)→¬ (la<256∧lb=la∧lc=la∧ld=la)→join s ns x=((0,18),ns):=fun h h'=>by
  rw [Hla.out,Hlb.out,Hlc.out,Hld.out] at h
  rw [Hla.out,Hlb.out,Hlc.out,Hld.out] at h'
  unfold join;rw [if_neg h,if_pos fun hf=>h' ⟨hf.2.1,hf.2.2.1,hf.2.2.2.1,hf.2.2.2.2⟩]
 have hj3:0≤la→la<256→lb=la→lc=la→ld=la→Fits s ns x∧join s ns x=joinIn s ns x:=fun h0 h1 h2 h3 h4=>by
  have ha:=Hla.out
  have hb:=Hlb.out
  have hc:=Hlc.out
  have hd:=Hld.out
  have hfit:Fits s ns x:=⟨by omega,by omega,by omega,by omega,by omega⟩
  refine⟨hfit,?_⟩
  unfold join;rw [if_neg (by omega),if_neg fun hn=>hn hfit]
 have Hj1:=Lib.hid hj1
 have Hj2:=Lib.hid hj2
 have Hj3:=Lib.hid hj3
 clear hj1 hj2 hj3
 go_enter Tryz.func76,Tryz.ntmps76
 go_wp2
 have hk3:(w.alloc (.cells #[.int .i64 x.a,.int .i64 x.b,.int .i64 x.c,.int .i64 x.d] 81)).heap[w.heap.size]?=some (.cells #[.int .i64 x.a,.int .i64 x.b,.int .i64 x.c,.int .i64 x.d] 81 (0,0)):=by (repeat first|rw [if_pos (by omega)]|rw [if_neg (by omega)]|rw [hDR]|rw [hDN]|rw [hAz]|rw [hSz]|rw [hAC]|rw [hSC]|rw [oMS]|rw [uPC]|rw [lSZ]|rw [lSS]|rfl)
 have hf3:Fr [] w (w.alloc (.cells #[.int .i64 x.a,.int .i64 x.b,.int .i64 x.c,.int .i64 x.d] 81)):=by (repeat first|exact Fr.refl _ _|assumption|apply Fr.n|apply Fr.d|apply Fr.a|refine Fr.s ?_ (.inr (by simp;try omega)) _)
 generalize w.alloc (.cells #[.int .i64 x.a,.int .i64 x.b,.int .i64 x.c,.int .i64 x.d] 81)=w3 at *
 have hcells:∀ w',Fr [] w3 w'→w'.cell? ⟨b,0,none⟩=some (.int .i64 s)∧w'.cell? ⟨b,1,none⟩=some (.slice na ns.length nc)∧w'.cell? ⟨w.heap.size,0,none⟩=some (.int .i64 x.a)∧w'.cell? ⟨w.heap.size,1,none⟩=some (.int .i64 x.b) ∧
   w'.cell? ⟨w.heap.size,2,none⟩=some (.int .i64 x.c)∧w'.cell? ⟨w.heap.size,3,none⟩=some (.int .i64 x.d):=fun w' hf'=>by
  have hp:=((hf3.trans0 hf').block _ (lBk HI.out.blk) (by simp)).trans HI.out.blk
  have hq:=(hf'.block _ (lBk hk3) (by simp)).trans hk3
  exact⟨hEC hp 0,hEC hp 1,hEC hq 0,hEC hq 1,hEC hq 2,hEC hq 3⟩
 have hR:∀ w1,Fr [] w3 w1→Reads w1 (.slice na ns.length nc) ns.length 4 (flat ns):=fun w1 hf1=>(Reads.of_owns HI.out.nodes).fr (hf3.trans0 hf1)
 have hLev:∀ (w1:World) (id l:Int),l=lvl s (levs s ns) id→Fr [] w3 w1→Calls Tryz.prog 78 #[.agg #[.int .i64 s,.slice na ns.length nc],.int .i64 id] w1 fun e w'=>e=.returned (.int .i64 l)∧Fr [] w3 w'∧w'.cell? ⟨b,0,none⟩=some (.int .i64 s)∧w'.cell? ⟨b,1,none⟩=some (.slice na ns.length nc)∧w'.cell? ⟨w.heap.size,0,none⟩=some (.int .i64 x.a)∧w'.cell? ⟨w.heap.size,1,none⟩=some (.int .i64 x.b) ∧
   w'.cell? ⟨w.heap.size,2,none⟩=some (.int .i64 x.c)∧w'.cell? ⟨w.heap.size,3,none⟩=some (.int .i64 x.d):=fun w1 id l hl1 hf1=>by
  refine (level_ref Hgood.out (hR w1 hf1) id).mono ?_
  rintro e w' ⟨rfl,o,rfl⟩
  exact⟨by rw [hl1],hf1.alloc o,hcells _ (hf1.alloc o)⟩
 have hFind:∀ (w1:World),Fr [] w3 w1→Calls Tryz.prog 79 #[.agg #[.int .i64 s,.slice na ns.length nc],.agg #[.int .i64 x.a,.int .i64 x.b,.int .i64 x.c,.int .i64 x.d]] w1 fun e w'=>e=.returned (.int .i64 fi)∧Fr [] w3 w'∧w'.cell? ⟨b,0,none⟩=some (.int .i64 s)∧w'.cell? ⟨b,1,none⟩=some (.slice na ns.length nc)∧w'.cell? ⟨w.heap.size,0,none⟩=some (.int .i64 x.a)∧w'.cell? ⟨w.heap.size,1,none⟩=some (.int .i64 x.b) ∧
   w'.cell? ⟨w.heap.size,2,none⟩=some (.int .i64 x.c)∧w'.cell? ⟨w.heap.size,3,none⟩=some (.int .i64 x.d):=fun w1 hf1=>by
  refine (find_ref (s:=s) (by have:=Hlen.out;omega) (hR w1 hf1) x).mono ?_
  rintro e w' ⟨rfl,o1,o2,n,rfl⟩
  exact⟨by rw [Hfi.out],((hf1.alloc o1).alloc o2).drewN n,hcells _ (((hf1.alloc o1).alloc o2).drewN n)⟩
 have hcs:=hcells w3 (Fr.refl _ _)
 have HLev:=Lib.hid hLev
 have HFind:=Lib.hid hFind
 have Hf3:=Lib.hid hf3
 have Hk3:=Lib.hid hk3
 clear hLev hFind hcells hf3 hk3 hR
 obtain⟨b0,b1,k0,k1,k2,k3⟩:=hcs
 refine wp_loop_rounds 5 ?_
 rw [rounds_succ]
 go_wp2
 (refine wRT (by kernel_rfl) (by kernel_rfl) ?_)
 go_wp2_with fail
 clear b0 b1 k0 k1 k2 k3
 refine (HLev.out _ _ _ Hla.out (Fr.refl _ _).drew).mono ?_
 rintro e w4 ⟨rfl,hf,b0,b1,k0,k1,k2,k3⟩
 have Hf_w4:=Lib.hid hf
 clear hf
 go_wp2
 refine Strict.intro rfl ?_
 go_wp2
 any_goals (go_ret2;exact RTwo.same HS.out (Hf3.out.trans0 Hf_w4.out) (Hj1.out (by omega)))
 rw [rounds_succ]
 go_wp2
 (refine wRT (by kernel_rfl) (by kernel_rfl) ?_)
 go_wp2_with fail
 clear b0 b1 k0 k1 k2 k3
 refine (HLev.out _ _ _ Hlb.out Hf_w4.out.drew).mono ?_
 rintro e w5 ⟨rfl,hf,b0,b1,k0,k1,k2,k3⟩
 have Hf_w5:=Lib.hid hf
 clear hf
 go_wp2
 refine Strict.intro rfl ?_
 go_wp2
 any_goals (go_ret2;exact RTwo.same HS.out (Hf3.out.trans0 Hf_w5.out) (Hj1.out (by omega)))
 rw [rounds_succ]
 go_wp2
 (refine wRT (by kernel_rfl) (by kernel_rfl) ?_)
 go_wp2_with fail
 clear b0 b1 k0 k1 k2 k3
 refine (HLev.out _ _ _ Hlc.out Hf_w5.out.drew).mono ?_
 rintro e w6 ⟨rfl,hf,b0,b1,k0,k1,k2,k3⟩
 have Hf_w6:=Lib.hid hf
 clear hf
 go_wp2
 refine Strict.intro rfl ?_
 go_wp2
 any_goals (go_ret2;exact RTwo.same HS.out (Hf3.out.trans0 Hf_w6.out) (Hj1.out (by omega)))
 rw [rounds_succ]
 go_wp2
 (refine wRT (by kernel_rfl) (by kernel_rfl) ?_)
 go_wp2_with fail
 clear b0 b1 k0 k1 k2 k3
 refine (HLev.out _ _ _ Hld.out Hf_w6.out.drew).mono ?_
 rintro e w7 ⟨rfl,hf,b0,b1,k0,k1,k2,k3⟩
 have Hf_w7:=Lib.hid hf
 clear hf
 go_wp2
 refine Strict.intro rfl ?_
 go_wp2
 any_goals (go_ret2;exact RTwo.same HS.out (Hf3.out.trans0 Hf_w7.out) (Hj1.out (by omega)))
 rw [rounds_succ]
 go_wp2_with fail
 clear b0 b1 k0 k1 k2 k3
 refine (HLev.out _ _ _ Hla.out Hf_w7.out).mono ?_
 rintro e w8 ⟨rfl,hf,b0,b1,k0,k1,k2,k3⟩
 have Hf_w8:=Lib.hid hf
 clear hf
 go_wp2_with fail
 any_goals (go_ret2;exact RTwo.same HS.out (Hf3.out.trans0 Hf_w8.out) (Hj2.out (by omega) (by omega)))
 clear b0 b1 k0 k1 k2 k3
 refine (HLev.out _ _ _ Hlb.out Hf_w8.out).mono ?_
 rintro e w9 ⟨rfl,hf,b0,b1,k0,k1,k2,k3⟩
 have Hf_w9:=Lib.hid hf
 clear hf
 go_wp2_with fail
 any_goals (go_ret2;exact RTwo.same HS.out (Hf3.out.trans0 Hf_w9.out) (Hj2.out (by omega) (by omega)))
 clear b0 b1 k0 k1 k2 k3
 refine (HLev.out _ _ _ Hlc.out Hf_w9.out).mono ?_
 rintro e w10 ⟨rfl,hf,b0,b1,k0,k1,k2,k3⟩
 have Hf_w10:=Lib.hid hf
 clear hf
 go_wp2_with fail
 any_goals (go_ret2;exact RTwo.same HS.out (Hf3.out.trans0 Hf_w10.out) (Hj2.out (by omega) (by omega)))
 clear b0 b1 k0 k1 k2 k3
 refine (HLev.out _ _ _ Hld.out Hf_w10.out).mono ?_
 rintro e w11 ⟨rfl,hf,b0,b1,k0,k1,k2,k3⟩
 have Hf_w11:=Lib.hid hf
 clear hf
 go_wp2_with fail
 any_goals (go_ret2;exact RTwo.same HS.out (Hf3.out.trans0 Hf_w11.out) (Hj2.out (by omega) (by (first|omega|(simp only [bne_iff_ne,ne_eq,beq_iff_eq,bne_eq_false_iff_eq,beq_eq_false_iff_ne,decide_eq_true_eq,decide_eq_false_iff_not] at *;omega)))))
 have h9:la<256∧(ld != la)=false:=by assumption
 have h8:ld=la:=by simpa using h9.2
 obtain⟨hfit,hjoin⟩:=Hj3.out (by omega) h9.1 (by assumption) (by assumption) h8
 clear h9
 have H8:=Lib.hid h8
 clear h8
 have Hfit:=Lib.hid hfit
 have Hjoin:=Lib.hid hjoin
 clear hfit hjoin Hj1 Hj2 Hj3
 (refine wRT (by kernel_rfl) (by kernel_rfl) ?_)
 go_wp2_with fail
 clear b0 b1 k0 k1 k2 k3
 refine (HFind.out _ Hf_w11.out.drew).mono ?_
 rintro e w12 ⟨rfl,hf,b0,b1,k0,k1,k2,k3⟩
 have Hf12:=Lib.hid hf
 clear hf
 go_wp2
 refine Strict.intro rfl ?_
 have hhit:0≤fi→join s ns x=((s+fi,0),ns)∧fi<90000:=fun h=>by
  have h1:=Hfi.out
  unfold findR at h1
  cases hfind:ns.idxOf? x with
  | some i =>
   rw [hfind] at h1
   simp only at h1
   rw [List.idxOf?_eq_some_iff] at hfind
   have:=hfind.1
   have:=Hlen.out
   refine⟨?_,by omega⟩
   rw [Hjoin.out,joinIn_hit (i:=i),h1]
   rw [List.idxOf?_eq_some_iff];exact hfind
  | none=>rw [hfind] at h1;simp only at h1;omega
 have hmiss:fi<0→join s ns x=((s+ns.length,0),ns++[x])∧x∉ns:=fun h=>by
  have h1:=Hfi.out
  unfold findR at h1
  cases hfind:ns.idxOf? x with
  | some i=>rw [hfind] at h1;simp only at h1;omega
  | none =>
   have:=Hlen.out
   exact⟨by rw [Hjoin.out,joinIn_new hfind (by omega)],by simpa using hfind⟩
 have hd:decide ((100000:Int)≤↑ns.length)=false:=by have:=Hlen.out;simp;omega
 obtain⟨i0,hi0,hi1,hi2,hi3⟩:=info_parts info_quad
 have hblk:=((Hf3.out.trans0 Hf12.out).block _ (lBk HI.out.blk) (by simp)).trans HI.out.blk
 have p1:=hEF hblk 1
 have hown:=oOB HI.out.nodes fun y hy=>(Hf3.out.trans0 Hf12.out).block y (oLT HI.out.nodes hy) (by simp)
 have hb12:b<w12.heap.size:=lBk hblk
 have Hblk:=Lib.hid hblk
 have Hown:=Lib.hid hown
 have Hhit:=Lib.hid hhit
 have Hmiss:=Lib.hid hmiss
 clear hblk hown hhit hmiss
 by_cases hfi:0≤fi
 ·obtain⟨hj,hlt⟩:=Hhit.out hfi
  have Hj:=Lib.hid hj
  clear hj
  go_wp2
  go_ret2
  exact RTwo.same HS.out (by have:=Hf3.out.trans0 Hf12.out;(repeat first|exact Fr.refl _ _|assumption|apply Fr.n|apply Fr.d|apply Fr.a|refine Fr.s ?_ (.inr (by simp;try omega)) _)) Hj.out
 ·obtain⟨hj,hnew⟩:=Hmiss.out (by omega)
  have Hj:=Lib.hid hj
  have Hnew:=Lib.hid hnew
  clear hj hnew
  go_wp2
  (refine wRT (by kernel_rfl) (by kernel_rfl) ?_)
  go_wp2_with (at_builtin;refine append_quad (k:=x) (n:=ns.length) (base:=0) (xs:=flat ns) rfl rfl rfl ?e1 rfl ?e2 ?e3 ?e4 ?_)
  case e1=>exact oOB Hown.out fun y hy=>by simp only [hDR];exact hAE _ _ _ (oLT Hown.out hy)
  case e2=>(repeat first|rw [if_pos (by omega)]|rw [if_neg (by omega)]|rw [hDR]|rw [hDN]|rw [hAz]|rw [hSz]|rw [hAC]|rw [hSC]|rw [oMS]|rw [uPC]|rw [lSZ]|rw [lSS]|rfl)
  case e3=>have:=Hlen.out;omega
  case e4=>omega
  intro g cap w9 hown1 hW1 hF1 hloc1 hg1
  have hb9:w9.heap[b]?=some (.cells #[.int .i64 s,.slice na ns.length nc] 141 (0,0)):=by
   rw [hW1 b (by omega) HI.out.ne]
   show (World.alloc _ _).heap[b]?=_
   rw [hAE _ _ _ hb12]
   exact Hblk.out
  have o0:=hEC hb9 0
  have o1:=hEC hb9 1
  have q1:=hEF hb9 1
  have hlt9:=lBk hb9
  have Hown1:=Lib.hid hown1
  have HW1:=Lib.hid hW1
  have HF1:=Lib.hid hF1
  have Hloc:=Lib.hid hloc1
  have Hb9:=Lib.hid hb9
  have hl9:ns.length<90000:=Hlen.out
  have hgb:g≠b:=fun e=>by
   rcases hloc1 with h|h
   ·rw [e] at h;exact HI.out.ne h
   ·omega
  clear hown1 hW1 hF1 hloc1 hb9
  go_wp2
  refine Strict.intro rfl ?_
  go_wp2
  (refine wRT (by kernel_rfl) (by kernel_rfl) ?_)
  go_wp2
  refine Strict.intro rfl ?_
  go_wp2
  go_ret2
  refine⟨?_,b::[g],⟨?_,.slice (some ⟨g,0,none⟩) (ns.length+1) cap,⟨?_,?_,?_⟩,rfl⟩,?_,?_⟩
  ·rw [Hj.out]
   show Ending.returned (.tuple #[.int .i64 _,.int .i64 0])=Ending.returned (.tuple #[.int .i64 (s+ns.length),.int .i64 0])
   congr;omega
  ·rw [Hj.out]
   exact Hgood.out.snoc Hfit.out Hnew.out (by omega)
  ·(repeat first|rw [if_pos (by omega)]|rw [if_neg (by omega)]|rw [hDR]|rw [hDN]|rw [hAz]|rw [hSz]|rw [hAC]|rw [hSC]|rw [oMS]|rw [uPC]|rw [lSZ]|rw [lSS]|rfl)
   rw [Hb9.out];rfl
  ·rw [Hj.out]
   show World.ownsRow _ _ _ _ _ (ns++[x]).length (flat (ns++[x]))
   rw [flat_snoc,List.length_append]
   refine oOB Hown1.out fun y hy=>?_
   have:g=y:=by simpa [Value.ownBlock] using hy
   rw [hDR,hSC,if_neg (by omega)]
  ·intro e
   have:g=b:=by simpa [Value.ownBlock] using e
   exact hgb this
  ·have h1:Fr (b::(Value.slice na ns.length nc).ownBlock.toList) w w12:=(Hf3.out.trans0 Hf12.out).mono (by simp)
   have h2:=(h1.alloc (.cells #[.int .i64 x.a,.int .i64 x.b,.int .i64 x.c,.int .i64 x.d] 105)).drew.trans HF1.out (fun y hy=>.inl (by simp [hy]))
   repeat (first|exact h2|apply Fr.drewN|apply Fr.drew|refine Fr.setCell ?_ (.inl (by simp)) _)
  ·intro y hy
   simp only [List.mem_cons,List.mem_nil_iff,or_false] at hy
   rcases hy with rfl|rfl
   ·exact .inl (by simp)
   ·rcases Hloc.out with h|h
    ·exact .inl (by simp [h])
    ·right
     have:=(Hf3.out.trans0 Hf12.out).size
     omega
end Go.Proofs.YtdanghnadbkhfaaGreat
end
section
namespace Go.Proofs.YtdanghnadbkhfaaGreat
open Go Go.RowKit Rg Mp Hp Qs
theorem node_down {s:Int} {ns:List K4} (h:GoodQ s ns) {j:Nat} {k:K4} (hj:ns[j]?=some k) :
  ∃ L,1≤L∧L≤256∧lvl s (levs s ns) (s+j)=L∧lvl s (levs s ns) k.a=L - 1∧lvl s (levs s ns) k.b=L - 1∧lvl s (levs s ns) k.c=L - 1∧lvl s (levs s ns) k.d=L - 1∧join s ns k=((s+j,0),ns):=by
 have hs:2≤s:=h.1
 have hlt:j<ns.length:=(List.getElem?_eq_some_iff.1 hj).1
 obtain⟨h0,h1,h2,h3,h4⟩:=h.2.2.2.2 j k hj
 have hlen:(levs s (ns.take j)).length=j:=by rw [levs_length,List.length_take];omega
 have up:∀ id,0≤lvl s (levs s (ns.take j)) id→lvl s (levs s (ns.take j)) id=lvl s (levs s ns) id:=fun id hid=>by
  have:=lvl_known hid
  exact lvl_take (by omega) (by omega)
 have ea:=up k.a h0
 have eb:=up k.b (by omega)
 have ec:=up k.c (by omega)
 have ed:=up k.d (by omega)
 have hd:=(kid_down h hj).2.2
 rw [ea] at h0 h1 h2 h3 h4
 rw [eb] at h2
 rw [ec] at h3
 rw [ed] at h4
 refine⟨_,?_,?_,rfl,?_,?_,?_,?_,?_⟩
 ·omega
 ·omega
 ·omega
 ·omega
 ·omega
 ·omega
 ·unfold join
  rw [if_neg (by omega),if_neg (fun hn=>hn ⟨h0,h1,h2,h3,h4⟩)]
  refine joinIn_hit ?_
  rw [List.idxOf?_eq_some_iff]
  have hk:ns[j]=k:=(List.getElem?_eq_some_iff.1 hj).2
  refine⟨hlt,by simpa using hk,fun i hi=>?_⟩
  intro he
  have he':ns[i]=ns[j]:=by rw [hk];simpa using he
  have:=(List.getElem_inj h.2.2.2.1).1 he'
  omega
end Go.Proofs.YtdanghnadbkhfaaGreat
end
section
namespace Go.Proofs.YtdanghnadbkhfaaGreat
open Go Go.RowKit Rg Mp Hp Qs
theorem climb_grow {s:Int} {ns:List K4} (hg:GoodQ s ns):∀ (m:Nat) (id:Int) (n:Nat),n≤(climb s ns m id n).2∧grow s m id ns=grow s (m - ((climb s ns m id n).2 - n)) (climb s ns m id n).1 ns
 | 0,id,n=>⟨Nat.le_refl _,by simp [climb]⟩
 | m+1,id,n=>by
  unfold climb
  cases hi:ns.idxOf? (four id) with
  | none=>exact⟨Nat.le_refl _,by simp⟩
  | some i =>
   obtain⟨L,_,_,_,_,_,_,_,hj⟩:=node_down hg (idx_get hi)
   obtain⟨h1,h2⟩:=climb_grow hg m (s+i) (n+1)
   refine⟨by show n≤(climb s ns m (s+i) (n+1)).2;omega,?_⟩
   show grow s (m+1) id ns=grow s (m+1 - ((climb s ns m (s+i) (n+1)).2 - n)) (climb s ns m (s+i) (n+1)).1 ns
   rw [show m+1 - ((climb s ns m (s+i) (n+1)).2 - n)=m - ((climb s ns m (s+i) (n+1)).2 - (n+1)) by omega,← h2]
   show grow s m (join s ns (four id)).1.1 (join s ns (four id)).2=_
   rw [hj]
theorem grow_snoc (s:Int):∀ (m:Nat) (id:Int) (ns:List K4),grow s (m+1) id ns=((join s (grow s m id ns).2 (four (grow s m id ns).1)).1.1,(join s (grow s m id ns).2 (four (grow s m id ns).1)).2)
 | 0,_,_=>rfl
 | m+1,id,ns=>by
  show grow s (m+1) (join s ns (four id)).1.1 (join s ns (four id)).2=_
  rw [grow_snoc s m]
  rfl
theorem empty_grow {s:Int} {ns:List K4} (hg:GoodQ s ns) {L:Nat} (hL:L≤256) (hl:ns.length+L≤100000):emptyQ s ns L=(((grow s L 0 ns).1,0),(grow s L 0 ns).2):=by
 obtain⟨_,h⟩:=climb_grow hg L 0 0
 have hk:=climb_le (s:=s) (ns:=ns) L 0 0
 unfold emptyQ
 rw [if_neg (by omega),show (L:Int).toNat=L by omega,if_neg (by omega),h]
 rfl
theorem grow_len (s:Int):∀ (m:Nat) (id:Int) (ns:List K4),(grow s m id ns).2.length≤ns.length+m
 | 0,_,_=>Nat.le_refl _
 | m+1,id,ns=>by
  have h1:=grow_len s m (join s ns (four id)).1.1 (join s ns (four id)).2
  have h2:=join_len s ns (four id)
  show (grow s m (join s ns (four id)).1.1 (join s ns (four id)).2).2.length≤_
  omega
theorem empty_low {s:Int} {ns:List K4} {l:Int} (h:l<0):emptyQ s ns l=((0,18),ns):=by
 unfold emptyQ
 rw [if_pos (.inl h)]
theorem grow_next {s:Int} {ns:List K4} (hg:GoodQ s ns) {i:Nat} (hi:i<256) (hl:ns.length+256≤100000) :
  (∃ j:Nat,(grow s i 0 ns).2.idxOf? (four (grow s i 0 ns).1)=some j∧j<(grow s i 0 ns).2.length∧grow s (i+1) 0 ns=(s+j,(grow s i 0 ns).2)) ∨
  ((grow s i 0 ns).2.idxOf? (four (grow s i 0 ns).1)=none∧grow s (i+1) 0 ns=(s+(grow s i 0 ns).2.length,(grow s i 0 ns).2++[four (grow s i 0 ns).1])):=by
 obtain⟨h1,h2⟩:=grow_chain i (id:=0) (n:=0) hg rfl (by omega) (by omega)
 have hlen:=grow_len s i 0 ns
 have hlv:=Chain_level h1 h2
 rw [grow_snoc]
 have hfit:Fits s (grow s i 0 ns).2 (four (grow s i 0 ns).1):=⟨by show 0≤lvl _ _ (grow s i 0 ns).1;omega,by show lvl _ _ (grow s i 0 ns).1<256;omega,rfl,rfl,rfl⟩
 have hj:join s (grow s i 0 ns).2 (four (grow s i 0 ns).1)=joinIn s (grow s i 0 ns).2 (four (grow s i 0 ns).1):=by
  unfold join
  have h0:0≤lvl s (levs s (grow s i 0 ns).2) (grow s i 0 ns).1:=by omega
  rw [if_neg (by show ¬ (lvl s (levs s (grow s i 0 ns).2) (grow s i 0 ns).1<0∨lvl s (levs s (grow s i 0 ns).2) (grow s i 0 ns).1<0∨lvl s (levs s (grow s i 0 ns).2) (grow s i 0 ns).1<0∨lvl s (levs s (grow s i 0 ns).2) (grow s i 0 ns).1<0);omega),if_neg (fun hh=>hh hfit)]
 rw [hj]
 cases hi2:(grow s i 0 ns).2.idxOf? (four (grow s i 0 ns).1) with
 | some j =>
  left
  refine⟨j,rfl,?_,by rw [joinIn_hit hi2]⟩
  rw [List.idxOf?_eq_some_iff] at hi2
  exact hi2.1
 | none =>
  right
  exact⟨rfl,by rw [joinIn_new hi2 (by omega)]⟩
set_option maxHeartbeats 8000000 in
set_option maxRecDepth 100000 in
theorem REmpty_calls {w:World} {b:Nat} {s:Int} {ns:List K4} {F:List Nat} (hS:RefAt w b s ns F) (hlen:ns.length+256≤90000) (level:Int) :
  Calls Tryz.prog 77 #[.pointer (some ⟨b,0,none⟩),.int .i64 level] w (RTwo w b s (emptyQ s ns level) F):=by
 by_cases hneg:level<0
 ·have hE:=empty_low (s:=s) (ns:=ns) hneg
  have HE:=Lib.hid hE
  have HS:=Lib.hid hS
  clear hE hS hlen
  go_enter Tryz.func77,Tryz.ntmps77
  go_wp2
  go_ret2
  exact RTwo.same HS.out (Fr.refl _ _) HE.out
 by_cases hbig:256<level
 ·have hE:=empty_high (s:=s) (ns:=ns) hbig
  have HE:=Lib.hid hE
  have HS:=Lib.hid hS
  clear hE hS hlen
  go_enter Tryz.func77,Tryz.ntmps77
  go_wp2
  go_ret2
  exact RTwo.same HS.out (Fr.refl _ _) HE.out
 obtain⟨L,rfl⟩:∃ L:Nat,level=L:=⟨level.toNat,by omega⟩
 have hL:L≤256:=by omega
 have hE:=empty_grow hS.1 hL (by omega)
 have HE:=Lib.hid hE
 have HS:=Lib.hid hS
 have Hlen:=Lib.hid hlen
 clear hE hlen hneg hbig
 obtain⟨hgood,nv,hI,rfl⟩:=hS
 obtain⟨na,nc,rfl,_,_⟩:=oFM hI.nodes
 have b0:=hEC hI.blk 0
 have b1:=hEC hI.blk 1
 have hs1:2≤s:=hgood.1
 have hs2:s≤8:=hgood.2.1
 have hb:b<w.heap.size:=lBk hI.blk
 have HI:=Lib.hid hI
 have Hgood:=Lib.hid hgood
 clear hI hgood
 obtain⟨i0,hi0,hi1,hi2,hi3⟩:=info_parts info_quad
 go_enter Tryz.func77,Tryz.ntmps77
 go_wp2_with fail
 refine (copied_ref (s:=s) (by have:=Hlen.out;omega) (Reads.of_owns HI.out.nodes)).mono ?_
 rintro e w2 ⟨v,rfl,ho,hf⟩
 obtain⟨va,vc,rfl,_,_⟩:=oFM ho
 have hsz2:=hf.size
 have Ho:=Lib.hid ho
 have Hf:=Lib.hid hf
 clear ho hf b0 b1
 go_wp2
 go_loopw [8,7] (fun x y wr=>∃ (i:Nat) (nv:Value),x=.int .i64 i∧y=.int .i64 (grow s i 0 ns).1∧i≤L∧Fr [] w wr∧wr.heap[w2.heap.size]?=some (.cells #[.int .i64 s,nv] 24 (0,0)) ∧
   wr.ownsRow w.heap.size 105 4 nv (grow s i 0 ns).2.length (flat (grow s i 0 ns).2)∧nv.ownBlock≠some w2.heap.size) (fun x _ _=>L - (intOf x).toNat)
 case atStart =>
  refine⟨0,_,rfl,rfl,by omega,Hf.out.alloc _,by (repeat first|rw [if_pos (by omega)]|rw [if_neg (by omega)]|rw [hDR]|rw [hDN]|rw [hAz]|rw [hSz]|rw [hAC]|rw [hSC]|rw [oMS]|rw [uPC]|rw [lSZ]|rw [lSS]|rfl),oOB Ho.out fun x hx=>hAE _ _ _ (oLT Ho.out hx),fun h=>?_⟩
  have:=oLT Ho.out h
  omega
 case round =>
  obtain⟨i,nv,rfl,rfl,hi,hf,hq,hown,hne⟩:=hrel
  have q0:=hEC hq 0
  have q1:=hEC hq 1
  have p1:=hEF hq 1
  have hqlt:w2.heap.size<wr.heap.size:=lBk hq
  have hgl:=grow_len s i 0 ns
  have hnb:∀ x,nv.ownBlock=some x→w.heap.size≤x:=fun x hx=>owns_ge hown hx
  obtain⟨ma,mc,rfl,_,_⟩:=oFM hown
  by_cases hlt:i<L
  ·have hnext:=grow_next Hgood.out (i:=i) (by omega) (by have:=Hlen.out;omega)
   obtain⟨G,hG⟩:∃ G,G=grow s i 0 ns:=⟨_,rfl⟩
   rw [← hG] at hnext hown q1 hgl hq hne hnb
   rw [← hG]
   obtain⟨id,ms⟩:=G
   simp only at hnext hown q1 hgl hq hne hnb
   have hml:ms.length≤1048576:=by have:=Hlen.out;omega
   have Hf':=Lib.hid hf
   have Hq:=Lib.hid hq
   have Hown:=Lib.hid hown
   have Hne:=Lib.hid hne
   have Hgl:=Lib.hid hgl
   have Hnb:=Lib.hid hnb
   have Hnext:=Lib.hid hnext
   clear hf hq hown hne hgl hnb hnext hG
   have hF:∀ w1 fi,fi=findR ms (four id)→Fr [] wr w1→Calls Tryz.prog 79 #[.agg #[.int .i64 s,.slice ma ms.length mc],.agg #[.int .i64 id,.int .i64 id,.int .i64 id,.int .i64 id]] w1 fun e w'=>e=.returned (.int .i64 fi)∧Fr [] w1 w':=fun w1 fi hfi hf1=>by
    subst hfi
    refine (find_ref (s:=s) (by omega) ((Reads.of_owns Hown.out).fr hf1) (four id)).mono ?_
    rintro e w' ⟨rfl,o1,o2,n,rfl⟩
    exact⟨rfl,(((Fr.refl [] w1).alloc o1).alloc o2).drewN n⟩
   have HF:=Lib.hid hF
   clear hF
   have hfacts:∀ w3,Fr [] (wr.alloc (.cells #[.int .i64 id,.int .i64 id,.int .i64 id,.int .i64 id] 81)) w3→Fr [] w w3∧wr.heap.size<w3.heap.size∧w3.heap[w2.heap.size]?=some (.cells #[.int .i64 s,.slice ma ms.length mc] 24 (0,0)) ∧
     w3.heap[wr.heap.size]?=some (.cells #[.int .i64 id,.int .i64 id,.int .i64 id,.int .i64 id] 81 (0,0))∧w3.ownsRow w.heap.size 105 4 (.slice ma ms.length mc) ms.length (flat ms):=fun w3 hf3=>by
    have hsz:=hf3.size
    rw [hAz] at hsz
    refine⟨((Hf'.out.alloc _).trans0 hf3),by omega,?_,?_,?_⟩
    ·rw [hf3.block _ (by rw [hAz];omega) (by simp),hAE _ _ _ hqlt];exact Hq.out
    ·rw [hf3.block _ (by rw [hAz];omega) (by simp)];(repeat first|rw [if_pos (by omega)]|rw [if_neg (by omega)]|rw [hDR]|rw [hDN]|rw [hAz]|rw [hSz]|rw [hAC]|rw [hSC]|rw [oMS]|rw [uPC]|rw [lSZ]|rw [lSS]|rfl)
    ·exact oOB Hown.out fun y hy=>by
      have:=oLT Hown.out hy
      rw [hf3.block _ (by rw [hAz];omega) (by simp),hAE _ _ _ this]
   have Hfacts:=Lib.hid hfacts
   clear hfacts
   rcases Hnext.out with ⟨j,hj,hjl,hG⟩|⟨hn,hG⟩
   ·have HG:=Lib.hid hG
    have hfi:(j:Int)=findR ms (four id):=by unfold findR;rw [hj]
    have Hfi:=Lib.hid hfi
    clear hG hj hfi Hnext
    go_wp2_with fail
    refine (HF.out _ _ Hfi.out ((Fr.refl _ _).alloc _)).mono ?_
    rintro e w3 ⟨rfl,hf3⟩
    obtain⟨g1,g2,g3,g4,g5⟩:=Hfacts.out w3 hf3
    have q0:=hEC g3 0
    have q1:=hEC g3 1
    have G1:=Lib.hid g1
    have G3:=Lib.hid g3
    have G5:=Lib.hid g5
    clear g1 g3 g4 g5 hf3
    go_wp2
    go_roundw
    case rel=>exact⟨i+1,_,by go_num,by rw [HG.out],by omega,G1.out,G3.out,by rw [HG.out];exact G5.out,Hne.out⟩
    case measure=>simp [intOf];omega
   ·have HG:=Lib.hid hG
    have hfi:(-1:Int)=findR ms (four id):=by unfold findR;rw [hn]
    have Hfi:=Lib.hid hfi
    clear hG hn hfi Hnext
    go_wp2_with fail
    refine (HF.out _ _ Hfi.out ((Fr.refl _ _).alloc _)).mono ?_
    rintro e w3 ⟨rfl,hf3⟩
    obtain⟨g1,g2,g3,g4,g5⟩:=Hfacts.out w3 hf3
    have q0:=hEC g3 0
    have q1:=hEC g3 1
    have p1:=hEF g3 1
    have k0:=hEC g4 0
    have k1:=hEC g4 1
    have k2:=hEC g4 2
    have k3:=hEC g4 3
    have hq3:=lBk g3
    have G1:=Lib.hid g1
    have G3:=Lib.hid g3
    have G5:=Lib.hid g5
    clear g1 g3 g4 g5 hf3
    go_wp2_with (at_builtin;refine append_quad (k:=four id) (n:=ms.length) (base:=w.heap.size) (xs:=flat ms) rfl rfl rfl ?e1 rfl ?e2 ?e3 ?e4 ?_)
    case e1=>exact oOB G5.out fun y hy=>hAE _ _ _ (oLT G5.out hy)
    case e2=>(repeat first|rw [if_pos (by omega)]|rw [if_neg (by omega)]|rw [hDR]|rw [hDN]|rw [hAz]|rw [hSz]|rw [hAC]|rw [hSC]|rw [oMS]|rw [uPC]|rw [lSZ]|rw [lSS]|rfl)
    case e3=>omega
    case e4=>have:=G1.out.size;simp;omega
    intro g cap w9 hown1 hW1 hF1 hloc1 hg1
    have hsz3:=G1.out.size
    have hb9:w9.heap[w2.heap.size]?=some (.cells #[.int .i64 s,.slice ma ms.length mc] 24 (0,0)):=by
     rw [hW1 _ (by omega) Hne.out]
     show (World.alloc _ _).heap[_]?=_
     rw [hAE _ _ _ hq3];exact G3.out
    have o0:=hEC hb9 0
    have o1:=hEC hb9 1
    have r1:=hEF hb9 1
    have hlt9:=lBk hb9
    have hgq:g≠w2.heap.size:=fun e=>by
     rcases hloc1 with h|h
     ·rw [e] at h;exact Hne.out h
     ·omega
    have hgw:w.heap.size≤g:=owns_ge hown1 rfl
    have HF9:=Lib.hid ((G1.out.alloc _).trans hF1 (fun y hy=>.inr (Hnb.out y (by simpa using hy))))
    have Hown1:=Lib.hid hown1
    have Hb9:=Lib.hid hb9
    have Hgw:=Lib.hid hgw
    clear hown1 hW1 hF1 hloc1 hb9 hsz3 hgw
    go_wp2
    go_roundw
    case rel =>
     refine⟨i+1,.slice (some ⟨g,0,none⟩) (ms.length+1) cap,by go_num,?_,by omega,?_,?_,?_,?_⟩
     ·rw [HG.out]
     ·exact HF9.out.setCell (.inr (by show w.heap.size≤w2.heap.size;omega)) _
     ·(repeat first|rw [if_pos (by omega)]|rw [if_neg (by omega)]|rw [hDR]|rw [hDN]|rw [hAz]|rw [hSz]|rw [hAC]|rw [hSC]|rw [oMS]|rw [uPC]|rw [lSZ]|rw [lSS]|rfl)
      rw [Hb9.out];rfl
     ·rw [HG.out]
      show World.ownsRow _ _ _ _ _ (ms++[four id]).length (flat (ms++[four id]))
      rw [flat_snoc,List.length_append]
      refine oOB Hown1.out fun y hy=>?_
      have:g=y:=by simpa [Value.ownBlock] using hy
      rw [hSC,if_neg (by omega)]
     ·intro e
      have:g=w2.heap.size:=by simpa [Value.ownBlock] using e
      exact hgq this
    case measure=>simp [intOf];omega
  ·obtain rfl:i=L:=by omega
   have hbr:wr.heap[b]?=some (.cells #[.int .i64 s,.slice na ns.length nc] 141 (0,0)):=(hf.block b hb (by simp)).trans HI.out.blk
   have c0:=hEC hbr 0
   have c1:=hEC hbr 1
   have d0:=hEF hbr 0
   have d1:=hEF hbr 1
   obtain⟨h1,_⟩:=grow_chain i (id:=0) (n:=0) Hgood.out rfl (by omega) (by have:=Hlen.out;omega)
   have hgood:GoodQ s (grow s i 0 ns).2:=h1
   have hd:decide ((100000:Int)<↑(grow s i 0 ns).2.length)=false:=by have:=Hlen.out;simp;omega
   have Hbr:=Lib.hid hbr
   have Hf':=Lib.hid hf
   have Hown:=Lib.hid hown
   have Hgd:=Lib.hid hgood
   clear hbr hf hown hgood h1 hgl
   obtain⟨G,hG⟩:∃ G,G=grow s i 0 ns:=⟨_,rfl⟩
   rw [← hG] at hd q1
   rw [← hG]
   have HG:=Lib.hid hG
   clear hG
   go_wp2
   go_ret2
   have hE:=HE.out
   rw [← HG.out] at hE
   have hO:=Hown.out
   rw [← HG.out] at hO
   rw [← HG.out] at hnb
   have hgd:=Hgd.out
   rw [← HG.out] at hgd
   rw [hE]
   refine⟨rfl,b::(Value.slice ma G.2.length mc).ownBlock.toList,⟨hgd,.slice ma G.2.length mc,⟨?_,?_,?_⟩,rfl⟩,?_,?_⟩
   ·(repeat first|rw [if_pos (by omega)]|rw [if_neg (by omega)]|rw [hDR]|rw [hDN]|rw [hAz]|rw [hSz]|rw [hAC]|rw [hSC]|rw [oMS]|rw [uPC]|rw [lSZ]|rw [lSS]|rfl)
    rw [Hbr.out];rfl
   ·refine oOB (owns_base hO (Nat.zero_le _)) fun y hy=>?_
    have:=hnb y hy
    rw [heap_setCell2 _ _ _ _ _ _ (by omega)]
   ·intro e;have:=hnb _ e;omega
   ·have h1:Fr (b::(Value.slice na ns.length nc).ownBlock.toList) w wr:=Hf'.out.mono (by simp)
    repeat (first|exact h1|apply Fr.drewN|apply Fr.drew|refine Fr.setCell ?_ (.inl (by simp)) _)
   ·intro y hy
    simp only [List.mem_cons,Option.mem_toList] at hy
    rcases hy with rfl|hy
    ·exact .inl (by simp)
    ·exact .inr (hnb y hy)
end Go.Proofs.YtdanghnadbkhfaaGreat
end
section
namespace Go.Proofs.YtdanghnadbkhfaaGreat
open Go Go.RowKit Rg Mp Hp Qs Ev Bn
def dumT:Tr:=.node (.leaf 100) (.leaf 100) (.leaf 100) (.leaf 100)
def dums:List Tr:=List.replicate 300 dumT
structure RbSt (w wr:World) (b:Nat) (s:Int) (ns:List K4) (L:List Tr) (F:List Nat) (E:List SV) (n kb q:Nat) (ids:List Int) (ms:List K4) (F':List Nat):Prop where
 krr:kr (fun ms k=>buildQ s n ms (partQ (2 ^ n) k (E.map SV.spot))) q ns=(0,ids,ms)
 ref:RefAt wr b s ms F'
 fr:Fr F w wr
 sub:∀ x∈F',x∈F∨w.heap.size≤x
 off:kb∉F'
 blk:wr.heap[kb]?=some (.cells (iv (mixL ⟨0,0,0,0⟩ ids)).toArray 81 (0,0))
 low:w.heap.size≤kb
 room:Qs.room s ms (dums++L)
theorem mix_set {ids:List Int} {q:Nat} {id:Int} (h:ids.length=q) (hq:q<4):(iv (mixL ⟨0,0,0,0⟩ ids)).toArray.setIfInBounds q (.int .i64 id)=(iv (mixL ⟨0,0,0,0⟩ (ids++[id]))).toArray:=by
 subst h
 rw [show ∀ (I:List Int) (m:Nat) (v:Int),(iv I).toArray.setIfInBounds m (.int .i64 v)=(iv (I.set m v)).toArray from fun I m v=>by rw [← iv_set];simp]
 congr 2
 have:ids.length=0∨ids.length=1∨ids.length=2∨ids.length=3:=by omega
 rcases this with h|h|h|h
 ·obtain rfl:=List.length_eq_zero_iff.1 h;rfl
 ·obtain⟨i0,rfl⟩:=List.length_eq_one_iff.1 h;rfl
 ·obtain⟨i0,i1,rfl⟩:=len2 h;rfl
 ·obtain⟨i0,i1,i2,rfl⟩:=len3 h;rfl
theorem RbSt.put {w wr w1 w2:World} {b:Nat} {s:Int} {ns:List K4} {L:List Tr} {F:List Nat} {E:List SV} {n kb q:Nat} {ids:List Int} {ms:List K4} {F':List Nat} (h:RbSt w wr b s ns L F E n kb q ids ms F') (hq:q<4)
  (hf:Fr [] wr w1) {id:Int} {ms2:List K4} {F2:List Nat} (h2:RefAt w2 b s ms2 F2) (hf2:Fr F' w1 w2) (hs2:∀ x∈F2,x∈F'∨w1.heap.size≤x) (hr:Qs.room s ms2 (dums++L)) (hb:buildQ s n ms (partQ (2 ^ n) q (E.map SV.spot))=((id,0),ms2)) :
  RbSt w (w2.setCell ⟨kb,q,none⟩ (.int .i64 id)) b s ns L F E n kb (q+1) (ids++[id]) ms2 F2:=by
 have hkl:=lBk h.blk
 have hk1:kb<w1.heap.size:=by have:=hf.size;omega
 have hoff:kb∉F2:=fun hx=>by rcases hs2 kb hx with h9|h9;exact h.off h9;omega
 have hb1:=(hf.block kb hkl (by simp)).trans h.blk
 have hb2:=(hf2.block kb hk1 h.off).trans hb1
 have hset:∀ z,z≠kb→(w2.setCell ⟨kb,q,none⟩ (.int .i64 id)).heap[z]?=w2.heap[z]?:=fun z hz=>heap_setCell_else _ _ _ _ hz
 have hfr2:Fr F w w2:=(h.fr.trans0 hf).trans hf2 fun x hx=>by
  rcases h.sub x hx with h9|h9
  ·exact .inl h9
  ·exact .inr h9
 have hsub2:∀ x∈F2,x∈F∨w.heap.size≤x:=fun x hx=>by
  rcases hs2 x hx with h9|h9
  ·exact h.sub x h9
  ·have:=h.fr.size;have:=hf.size;exact .inr (by omega)
 refine⟨kr_ok h.krr hb,h2.keep fun x hx=>hset x (fun e=>hoff (e▸hx)),hfr2.setCell (.inr h.low) _,hsub2,hoff,?_,h.low,hr⟩
 rw [heap_setCell_here hb2]
 congr 2
 exact mix_set (kr_len h.krr) hq
end Go.Proofs.YtdanghnadbkhfaaGreat
end
