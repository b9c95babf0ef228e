/- Own texts of this claim, part 27: no condition. -/
import Derived.IntWalk
import Derived.Deep.RegionHeld3
import Derived.Deep.DeepCutAuto
import Derived.Test.YtdanghnadbkhfaaGreatZR25
import Derived.Test.YtdanghnadbkhfaaGreatZR12
import Derived.Test.YtdanghnadbkhfaaGreatZR17
import Derived.Test.YtdanghnadbkhfaaGreatZR5
import Derived.Test.YtdanghnadbkhfaaGreatZR14
import Derived.Test.YtdanghnadbkhfaaGreatZR13
import Derived.Test.YtdanghnadbkhfaaGreatZR4
import Derived.Test.YtdanghnadbkhfaaGreatZR16
import Derived.Test.YtdanghnadbkhfaaGreatZR19
set_option linter.unusedVariables false
set_option linter.unusedSimpArgs false
section
namespace Go.Proofs.YtdanghnadbkhfaaGreat
open Go Go.RowKit Rg Mp Hp Qs Ev Bn
def BvOff (w:World) (F:List Nat) (e:BV):Prop:=BigIn w false (zd (e.1:Int)) e.2.1 e.2.2∧∀ x∈bvF e,x∉F
theorem BvOff.step {w w':World} {F F':List Nat} {e:BV} (h:BvOff w F e) (hf:Fr F w w') (hs:∀ x∈F',x∈F∨w.heap.size≤x):BvOff w' F' e:=by
 have hl:=big_lt h.1
 refine⟨big_keep h.1 fun x hx=>hf.block x (hl x hx) (h.2 x hx),fun x hx hm=>?_⟩
 rcases hs x hm with h5|h5
 ·exact h.2 x hx h5
 ·have:=hl x hx
  omega
theorem BvOff.fr {w w':World} {F:List Nat} {e:BV} (h:BvOff w F e) (hf:Fr [] w w'):BvOff w' F e:=⟨h.1.fr hf,h.2⟩
theorem Rpower_h {W w:World} {Ps:List Res} (h:Has W w Ps) {n:Nat} (hn:n≤2047) :
  Calls Tryz.prog 51 #[.int .i64 n] w fun e w'=>∃ a c,e=.returned (.agg #[.bool false,.slice a (zd ((2 ^ n:Nat):Int)).length c])∧Has W w' (bigR false (zd ((2 ^ n:Nat):Int)) a c::Ps):=by
 have HN:=Lib.hid hn
 have h1:=hAL h #[.bool false,.slice none 0 0] 27
 obtain⟨r4,hr4⟩:∃ r4,w.heap.size=r4:=⟨_,rfl⟩
 rw [hr4] at h1
 have H1:=Lib.hid h1
 obtain⟨V,hV⟩:∃ V,2 ^ n=V:=⟨_,rfl⟩
 rw [hV]
 have HV:=Lib.hid hV
 clear hn h h1 hV
 go_enter Tryz.func51,Tryz.ntmps51
 go_wp2_with fail
 refine (RFrom_z (by decide) (by decide)).mono ?_
 rintro e w1 ⟨v1,rfl,hb1,hf1⟩
 have H2:=Lib.hid (H1.out.step hf1)
 have HB1:=Lib.hid hb1
 clear hb1 hf1 H1
 go_wp2_with fail
 refine (RShift_z HB1.out HN.out).mono ?_
 rintro e w2 ⟨v2,rfl,hb2,hf2⟩
 obtain⟨a,c,rfl,h3⟩:=has_big H2.out hf2 hb2 (zok_pow HN.out)
 rw [HV.out] at h3 ⊢
 rw [show decide (((V:Nat):Int)<0)=false by simp] at h3 ⊢
 have h3:=h3.swap
 have hr:=h3.blk
 have r0:=hEC hr 0
 have r1:=hEC hr 1
 have rz0:=hEF hr 0
 have rz1:=hEF hr 1
 have rl:=lBk hr
 clear hr
 have H3:=Lib.hid h3
 clear hb2 hf2 h3 H2 HB1
 go_wp2
 have H5:=Lib.hid (hAL (hST (hST H3.out 0 (.bool false)) 1 (.slice a (zd (V:Int)).length c)) #[.bool false,.slice a (zd (V:Int)).length c] 27).swap
 refine bodyPost_ret (big_result1 rfl (b:=r4) (x:=.bool false) (y:=.slice a (zd (V:Int)).length c) rfl ?_) rfl ⟨a,c,rfl,?_⟩
 ·exact H5.out.blk
 ·exact H5.out.drop.drop
def lessB (x:Int) (n:Nat):Bool:=decide (0≤x∧x<((2 ^ n:Nat):Int))
theorem Rless_z {w:World} {v:Value} {x:Int} {A:Nat→Prop} (hv:BigZ w A v x) (hx:Zok x) {n:Nat} (hn:n≤2047):Calls Tryz.prog 68 #[v,.int .i64 n] w fun e w'=>e=.returned (.bool (lessB x n))∧Fr [] w w':=by
 have hv':=hv
 obtain⟨a,c,rfl,_,_,_⟩:=hv'
 have HN:=Lib.hid hn
 have HV:=Lib.hid hv
 have HX:=Lib.hid hx
 have HC0:=Lib.hid (show (decide (cmpI x 0 ≥ 0)=decide (0≤x)) from by unfold cmpI;rw [decide_eq_decide];split<;>(try split)<;>omega)
 have HC1:=Lib.hid (show (decide (cmpI x ((2 ^ n:Nat):Int)<0)=decide (x<((2 ^ n:Nat):Int))) from by unfold cmpI;rw [decide_eq_decide];split<;>(try split)<;>omega)
 have HR:=Lib.hid (show lessB x n=(decide (0≤x) && decide (x<((2 ^ n:Nat):Int))) from by unfold lessB;rw [Bool.decide_and])
 obtain⟨c0,hc0⟩:∃ c0,cmpI x 0=c0:=⟨_,rfl⟩
 obtain⟨c1,hc1⟩:∃ c1,cmpI x ((2 ^ n:Nat):Int)=c1:=⟨_,rfl⟩
 rw [hc0] at HC0
 rw [hc1] at HC1
 have E0:=Lib.hid hc0
 have E1:=Lib.hid hc1
 obtain⟨ng,hng⟩:∃ ng,decide (x<0)=ng:=⟨_,rfl⟩
 obtain⟨ln,hln⟩:∃ ln,(zd x).length=ln:=⟨_,rfl⟩
 rw [hng,hln] at HV ⊢
 clear hn hv hx hc0 hc1 hng hln
 rw [HR.out]
 by_cases h0:0≤x
 ·have hd0:decide (c0 ≥ 0)=true:=by rw [HC0.out];simpa using h0
  have hl0:decide (0≤x)=true:=by simpa using h0
  rw [hl0,Bool.true_and,← HC1.out]
  clear h0 hl0
  go_enter Tryz.func68,Tryz.ntmps68
  go_wp2
  refine wRS [([0,1],[0]),([2,3,4,5,6,7],[5]),([8,9,10,11],[])] (by kernel_rfl) (by kernel_rfl) ?_
  (simp only [wpSegs,pick,Array.getD_eq_getD_getElem?,List.getElem?_toArray,List.getElem?_cons_succ,List.getElem?_cons_zero,Option.getD_some])
  go_wp2_with fail
  refine (RFrom_z (by decide) (by decide)).mono ?_
  rintro e w1 ⟨v1,rfl,hb1,hf1⟩
  have hx_:=(hf1.block (w.heap.size) (by first|(simp;done)|(simp;omega)) (by simp)).trans (show _=some (.cells #[.bool ng,.slice a ln c] 27 (0,0)) by (repeat first|rw [if_pos (by omega)]|rw [if_neg (by omega)]|rw [hDR]|rw [hDN]|rw [hAz]|rw [hSz]|rw [hAC]|rw [hSC]|rw [oMS]|rw [uPC]|rw [lSZ]|rw [lSS]|rfl))
  have x0:=hEC hx_ 0
  have x1:=hEC hx_ 1
  have xl:=lBk hx_
  have Hx:=Lib.hid hx_
  clear hx_
  have HB1:=Lib.hid hb1
  have HF1:=Lib.hid (Fr.trans0 (by (repeat first|exact Fr.refl _ _|assumption|apply Fr.n|apply Fr.d|apply Fr.a|refine Fr.s ?_ (.inr (by simp;try omega)) _):Fr [] w _) hf1)
  clear hb1 hf1
  go_wp2
  refine Mid.intro ⟨⟨aGR (T:=27) (cs:=[.bool ng,.slice a ln c]) rfl rfl rfl Tryz.underlying27 rfl (by kernel_rfl) (fun j v hj=>?rngA) rfl,trivial⟩,?_⟩
  case rngA =>
   rw [Nat.zero_add,hEC Hx.out,← hj]
   exact (Array.getElem?_toList (xs:=#[Value.bool ng,.slice a ln c])).symm
  go_wp2_with fail
  refine (RCompare_z (HV.out.fr0 (HF1.out.trans0 (by (repeat first|exact Fr.refl _ _|assumption|apply Fr.n|apply Fr.d|apply Fr.a|refine Fr.s ?_ (.inr (by simp;try omega)) _)))) (HB1.out.fr0 (by (repeat first|exact Fr.refl _ _|assumption|apply Fr.n|apply Fr.d|apply Fr.a|refine Fr.s ?_ (.inr (by simp;try omega)) _))) HX.out (zok_int (by decide) (by decide))).mono ?_
  rw [E0.out]
  rintro e w2 ⟨rfl,hf2⟩
  (try clear x0)
  (try clear x1)
  (try clear xl)
  have hx_:=(hf2.block _ (lBk Hx.out) (by simp)).trans Hx.out
  clear Hx
  have x0:=hEC hx_ 0
  have x1:=hEC hx_ 1
  have xl:=lBk hx_
  have Hx:=Lib.hid hx_
  clear hx_
  have HF2:=Lib.hid (HF1.out.trans0 (Fr.trans0 (by (repeat first|exact Fr.refl _ _|assumption|apply Fr.n|apply Fr.d|apply Fr.a|refine Fr.s ?_ (.inr (by simp;try omega)) _)) hf2))
  clear hf2 HF1 HB1
  go_wp2_with fail
  refine (Rpower_h (Has.nil (Fr.refl [] _)) HN.out).mono ?_
  rintro e w3 ⟨a3,c3,rfl,h3⟩
  (try clear x0)
  (try clear x1)
  (try clear xl)
  have hx_:=(h3.fr.block _ (lBk Hx.out) (by simp)).trans Hx.out
  clear Hx
  have x0:=hEC hx_ 0
  have x1:=hEC hx_ 1
  have xl:=lBk hx_
  have Hx:=Lib.hid hx_
  clear hx_
  have HB3:=Lib.hid (show BigZ w3 (fun _=>True) (.agg #[.bool false,.slice a3 (zd ((2 ^ n:Nat):Int)).length c3]) ((2 ^ n:Nat):Int) from by
   obtain⟨G,hG,_⟩:=h3.head
   exact in_z hG)
  have HF3:=Lib.hid (HF2.out.trans0 (Fr.trans0 (by (repeat first|exact Fr.refl _ _|assumption|apply Fr.n|apply Fr.d|apply Fr.a|refine Fr.s ?_ (.inr (by simp;try omega)) _)) h3.fr))
  clear h3 HF2
  go_wp2
  refine Mid.intro ⟨⟨aGR (T:=27) (cs:=[.bool ng,.slice a ln c]) rfl rfl rfl Tryz.underlying27 rfl (by kernel_rfl) (fun j v hj=>?rngB) rfl,trivial⟩,?_⟩
  case rngB =>
   rw [Nat.zero_add,hEC Hx.out,← hj]
   exact (Array.getElem?_toList (xs:=#[Value.bool ng,.slice a ln c])).symm
  go_wp2_with fail
  refine (RCompare_z (HV.out.fr0 (HF3.out.trans0 (by (repeat first|exact Fr.refl _ _|assumption|apply Fr.n|apply Fr.d|apply Fr.a|refine Fr.s ?_ (.inr (by simp;try omega)) _)))) (HB3.out.fr0 (by (repeat first|exact Fr.refl _ _|assumption|apply Fr.n|apply Fr.d|apply Fr.a|refine Fr.s ?_ (.inr (by simp;try omega)) _))) HX.out (zok_pow HN.out)).mono ?_
  rw [E1.out]
  rintro e w4 ⟨rfl,hf4⟩
  have HF4:=Lib.hid (HF3.out.trans0 (Fr.trans0 (by (repeat first|exact Fr.refl _ _|assumption|apply Fr.n|apply Fr.d|apply Fr.a|refine Fr.s ?_ (.inr (by simp;try omega)) _)) hf4))
  clear hf4 HF3 HB3
  go_wp2
  refine Mid.intro ⟨trivial,Strict.intro rfl ?_⟩
  go_wp2
  go_ret
  exact⟨rfl,HF4.out.trans0 (by (repeat first|exact Fr.refl _ _|assumption|apply Fr.n|apply Fr.d|apply Fr.a|refine Fr.s ?_ (.inr (by simp;try omega)) _))⟩
 ·have hd0:decide (c0 ≥ 0)=false:=by rw [HC0.out];simpa using h0
  have hl0:decide (0≤x)=false:=by simpa using h0
  rw [hl0,Bool.false_and]
  clear h0 hl0
  go_enter Tryz.func68,Tryz.ntmps68
  go_wp2
  refine wRS [([0,1],[0]),([2,3,4,5,6,7],[5]),([8,9,10,11],[])] (by kernel_rfl) (by kernel_rfl) ?_
  (simp only [wpSegs,pick,Array.getD_eq_getD_getElem?,List.getElem?_toArray,List.getElem?_cons_succ,List.getElem?_cons_zero,Option.getD_some])
  go_wp2_with fail
  refine (RFrom_z (by decide) (by decide)).mono ?_
  rintro e w1 ⟨v1,rfl,hb1,hf1⟩
  have hx_:=(hf1.block (w.heap.size) (by first|(simp;done)|(simp;omega)) (by simp)).trans (show _=some (.cells #[.bool ng,.slice a ln c] 27 (0,0)) by (repeat first|rw [if_pos (by omega)]|rw [if_neg (by omega)]|rw [hDR]|rw [hDN]|rw [hAz]|rw [hSz]|rw [hAC]|rw [hSC]|rw [oMS]|rw [uPC]|rw [lSZ]|rw [lSS]|rfl))
  have x0:=hEC hx_ 0
  have x1:=hEC hx_ 1
  have xl:=lBk hx_
  have Hx:=Lib.hid hx_
  clear hx_
  have HB1:=Lib.hid hb1
  have HF1:=Lib.hid (Fr.trans0 (by (repeat first|exact Fr.refl _ _|assumption|apply Fr.n|apply Fr.d|apply Fr.a|refine Fr.s ?_ (.inr (by simp;try omega)) _):Fr [] w _) hf1)
  clear hb1 hf1
  go_wp2
  refine Mid.intro ⟨⟨aGR (T:=27) (cs:=[.bool ng,.slice a ln c]) rfl rfl rfl Tryz.underlying27 rfl (by kernel_rfl) (fun j v hj=>?rngC) rfl,trivial⟩,?_⟩
  case rngC =>
   rw [Nat.zero_add,hEC Hx.out,← hj]
   exact (Array.getElem?_toList (xs:=#[Value.bool ng,.slice a ln c])).symm
  go_wp2_with fail
  refine (RCompare_z (HV.out.fr0 (HF1.out.trans0 (by (repeat first|exact Fr.refl _ _|assumption|apply Fr.n|apply Fr.d|apply Fr.a|refine Fr.s ?_ (.inr (by simp;try omega)) _)))) (HB1.out.fr0 (by (repeat first|exact Fr.refl _ _|assumption|apply Fr.n|apply Fr.d|apply Fr.a|refine Fr.s ?_ (.inr (by simp;try omega)) _))) HX.out (zok_int (by decide) (by decide))).mono ?_
  rw [E0.out]
  rintro e w2 ⟨rfl,hf2⟩
  have HF2:=Lib.hid (HF1.out.trans0 (Fr.trans0 (by (repeat first|exact Fr.refl _ _|assumption|apply Fr.n|apply Fr.d|apply Fr.a|refine Fr.s ?_ (.inr (by simp;try omega)) _)) hf2))
  clear hf2 HF1 HB1
  go_wp2
  refine Mid.intro ⟨⟨fun o ho hw=>by obtain rfl:=Option.some.inj ho;exact absurd hw (by simp [Region.wanted,yielded]),trivial⟩,?_⟩
  go_wp2
  refine Mid.intro ⟨trivial,Strict.intro rfl ?_⟩
  go_wp2
  go_ret
  exact⟨rfl,HF2.out.trans0 (by (repeat first|exact Fr.refl _ _|assumption|apply Fr.n|apply Fr.d|apply Fr.a|refine Fr.s ?_ (.inr (by simp;try omega)) _))⟩
end Go.Proofs.YtdanghnadbkhfaaGreat
end
section
namespace Go.Proofs.YtdanghnadbkhfaaGreat
open Go Go.RowKit Rg Mp Hp Qs Ev Bn
theorem owns_nil0 (w:World) (base e size:Nat):w.ownsRow base e size (.slice none 0 0) 0 []:=⟨by simp,.inl ⟨rfl,rfl⟩⟩
structure SV where
 X:BV
 Y:BV
 st:Int
def SV.spot (e:SV):Spot:=⟨e.X.1,e.Y.1,e.st⟩
def svE (e:SV):List Value:=[.bool false,.slice e.X.2.1 (zd (e.X.1:Int)).length e.X.2.2,.bool false,.slice e.Y.2.1 (zd (e.Y.1:Int)).length e.Y.2.2,.int .i64 e.st]
def svs (l:List SV):List Value:=l.flatMap svE
structure SpAt (w:World) (F:List Nat) (v:Value) (E:List SV):Prop where
 rd:Reads w v E.length 5 (svs E)
 off:E≠[]→∀ x,v.ownBlock=some x→x∉F
 el:∀ e∈E,BvOff w F e.X∧BvOff w F e.Y
theorem SpAt.step {w w':World} {F F':List Nat} {v:Value} {E:List SV} (h:SpAt w F v E) (hf:Fr F w w') (hs:∀ x∈F',x∈F∨w.heap.size≤x):SpAt w' F' v E:=by
 refine⟨?_,fun hE x hx hm=>?_,fun e he=>⟨(h.el e he).1.step hf hs,(h.el e he).2.step hf hs⟩⟩
 ·rcases E with _|⟨e,E⟩
  ·obtain⟨h1,a,c,rfl,_⟩:=h.rd
   exact⟨h1,a,c,rfl,fun h=>by simp at h⟩
  ·exact h.rd.keep fun x hx hl=>hf.block x hl (h.off (by simp) x hx)
 ·rcases hs x hm with h5|h5
  ·exact h.off hE x hx h5
  ·obtain⟨_,a,c,rfl,h2⟩:=h.rd
   obtain⟨g,o,rfl,hg,_⟩:=h2 (List.length_pos_iff.2 hE)
   cases hx
   have h6:w.heap.size≤g:=h5
   omega
theorem SpAt.fr {w w':World} {F:List Nat} {v:Value} {E:List SV} (h:SpAt w F v E) (hf:Fr [] w w'):SpAt w' F v E:=⟨h.rd.fr hf,h.off,fun e he=>⟨(h.el e he).1.fr hf,(h.el e he).2.fr hf⟩⟩
theorem map_spot_len (E:List SV):(E.map SV.spot).length=E.length:=List.length_map _
theorem part_take {E:List SV} {i:Nat} {e:SV} (hi:E[i]?=some e) {H k:Nat}:partQ H k ((E.take (i+1)).map SV.spot)=partQ H k ((E.take i).map SV.spot)++if quadOf H e.spot=k then [intoQ H e.spot] else []:=by
 rw [List.take_add_one,hi,List.map_append]
 show partQ H k (_++[e.spot])=_
 rw [partQ_snoc]
end Go.Proofs.YtdanghnadbkhfaaGreat
end
section
namespace Go.Proofs.YtdanghnadbkhfaaGreat
open Go Go.RowKit Rg Mp Hp Qs Ev Bn
theorem big_mem9 {W w:World} {Ps:List Res} {neg:Bool} {ds:List Nat} {a:Option Addr} {c:Nat} (h:Has W w Ps) (hm:bigR neg ds a c∈Ps):BigIn w neg ds a c:=by
 obtain⟨G,h1,_⟩:=has_mem h hm
 exact h1
structure PSt (w wr:World) (F:List Nat) (E:List SV) (H k:Nat) (x7:Nat) (ha:Option Addr) (hc:Nat) (i:Nat) (v:Value) (E':List SV) (L:List BV):Prop where
 le:i≤E.length
 mp:E'.map SV.spot=partQ H k ((E.take i).map SV.spot)
 el:∀ e∈E',(BvOff w F e.X∨e.X∈L)∧(BvOff w F e.Y∨e.Y∈L)
 has:Has w wr [Hp.row 117 5 v E'.length (svs E'),poolR L,Hp.blk x7 (.cells #[.bool false,.slice ha (zd (H:Int)).length hc] 27 (0,0)),bigR false (zd (H:Int)) ha hc]
theorem PSt.skip {w wr w2:World} {F:List Nat} {E:List SV} {H k x7:Nat} {ha:Option Addr} {hc i:Nat} {v:Value} {E':List SV} {L:List BV} {e:SV} (h:PSt w wr F E H k x7 ha hc i v E' L) (hp:E[i]?=some e) (hq:quadOf H e.spot≠k)
  (hw:Has w w2 [Hp.row 117 5 v E'.length (svs E'),poolR L,Hp.blk x7 (.cells #[.bool false,.slice ha (zd (H:Int)).length hc] 27 (0,0)),bigR false (zd (H:Int)) ha hc]):PSt w w2 F E H k x7 ha hc (i+1) v E' L :=
 ⟨(List.getElem?_eq_some_iff.1 hp).1,by rw [part_take hp,if_neg hq,List.append_nil];exact h.mp,h.el,hw⟩
theorem PSt.add {w wr w2:World} {F:List Nat} {E:List SV} {H k x7:Nat} {ha:Option Addr} {hc i:Nat} {v v2:Value} {E':List SV} {L L2:List BV} {e e2:SV} (h:PSt w wr F E H k x7 ha hc i v E' L) (hp:E[i]?=some e) (hq:quadOf H e.spot=k) (hs:e2.spot=intoQ H e.spot)
  (hL:∀ x∈L,x∈L2) (he:(BvOff w F e2.X∨e2.X∈L2)∧(BvOff w F e2.Y∨e2.Y∈L2))
  (hw:Has w w2 [Hp.row 117 5 v2 (E'++[e2]).length (svs (E'++[e2])),poolR L2,Hp.blk x7 (.cells #[.bool false,.slice ha (zd (H:Int)).length hc] 27 (0,0)),bigR false (zd (H:Int)) ha hc]):PSt w w2 F E H k x7 ha hc (i+1) v2 (E'++[e2]) L2 :=
 ⟨(
  List.getElem?_eq_some_iff.1 hp).1,by rw [part_take hp,if_pos hq,List.map_append,h.mp,← hs];rfl,fun x hx=>by
  rw [List.mem_append] at hx
  rcases hx with hx|hx
  ·exact⟨(h.el x hx).1.imp_right (hL _),(h.el x hx).2.imp_right (hL _)⟩
  ·rw [List.mem_singleton] at hx;subst hx;exact he,hw⟩
theorem PSt.len {w wr:World} {F:List Nat} {E:List SV} {H k x7:Nat} {ha:Option Addr} {hc i:Nat} {v:Value} {E':List SV} {L:List BV} (h:PSt w wr F E H k x7 ha hc i v E' L):E'.length≤E.length:=by
 have:=congrArg List.length h.mp
 rw [map_spot_len] at this
 rw [this]
 unfold partQ
 rw [List.length_map]
 refine Nat.le_trans (List.length_filter_le _ _) ?_
 rw [map_spot_len,List.length_take]
 omega
def PartPost (w:World) (F:List Nat) (E:List SV) (H k:Nat) (e:Ending) (w':World):Prop :=
 ∃ a c E',e=.returned (.slice a (List.length E') c)∧SpAt w' F (.slice a E'.length c) E'∧E'.map SV.spot=partQ H k (E.map SV.spot)∧Fr [] w w'
theorem has_mem_new {W w:World} {P:Res}:∀ {Ps:List Res},Has W w Ps→P∈Ps→∃ G,P.holds w G∧∀ x∈G,W.heap.size≤x:=by
 intro Ps h hm
 obtain⟨As,Bs,rfl⟩:=List.append_of_mem hm
 have h2:Has W w (P::(As++Bs)):=h.perm List.perm_middle
 obtain⟨F,⟨F1,F2,h1,h3,h4,h5,h6⟩,hf,hF⟩:=h2
 exact⟨F1,h1,fun x hx=>hF x (by simp_all)⟩
theorem PSt.done {w wr:World} {F:List Nat} {E:List SV} {H k x7:Nat} {ha:Option Addr} {hc:Nat} {v a:Value} {E':List SV} {L:List BV} (hs:SpAt w F a E) (hF:∀ x∈F,x<w.heap.size) (h:PSt w wr F E H k x7 ha hc E.length v E' L):PartPost w F E H k (.returned v) wr:=by
 have hw:=h.has
 obtain⟨av,cv,rfl,_,_⟩:=oFM hw.row
 have hpool:∀ e∈L,BvOff wr F e:=fun e he=>by
  obtain⟨G,⟨h1,h2⟩,h3⟩:=has_mem_new (P:=poolR L) hw (by simp)
  exact⟨(h1 e he).1,fun x hx hm=>by have:=h3 x ((h1 e he).2 x hx);have:=hF x hm;omega⟩
 refine⟨av,cv,E',rfl,⟨Reads.of_owns hw.row,fun _ x hx hm=>?_,fun e he=>?_⟩,?_,hw.fr⟩
 ·obtain⟨G,⟨h1,h2⟩,h3⟩:=has_mem_new (P:=Hp.row 117 5 (.slice av E'.length cv) E'.length (svs E')) hw (by simp)
  have:=h3 x (by rw [h2,hx];simp)
  have:=hF x hm
  omega
 ·obtain⟨h1,h2⟩:=h.el e he
  exact⟨h1.elim (fun h=>h.fr hw.fr) (hpool _),h2.elim (fun h=>h.fr hw.fr) (hpool _)⟩
 ·have:=h.mp
  rwa [List.take_length] at this
end Go.Proofs.YtdanghnadbkhfaaGreat
end
section
namespace Go.Proofs.YtdanghnadbkhfaaGreat
open Go Go.RowKit Rg Mp Hp Qs
def RTwo (w:World) (b:Nat) (s:Int) (r:(Int×Int)×List K4) (F:List Nat) (e:Ending) (w':World):Prop :=
 e=.returned (.tuple #[.int .i64 r.1.1,.int .i64 r.1.2])∧∃ F',RefAt w' b s r.2 F'∧Fr F w w'∧(∀ x∈F',x∈F∨w.heap.size≤x)
theorem RTwo.same {w w':World} {b:Nat} {s:Int} {ns:List K4} {F:List Nat} {r e:Int} {t:(Int×Int)×List K4} (hS:RefAt w b s ns F) (hf:Fr [] w w') (ht:t=((r,e),ns)):RTwo w b s t F (.returned (.tuple #[.int .i64 r,.int .i64 e])) w':=by
 subst ht
 exact⟨rfl,F,hS.fr hf (by simp),hf.mono (by simp),fun x hx=>.inl hx⟩
end Go.Proofs.YtdanghnadbkhfaaGreat
end
section
namespace Go.Proofs.YtdanghnadbkhfaaGreat
open Go Go.RowKit Rg Mp Hp Qs
end Go.Proofs.YtdanghnadbkhfaaGreat
end
section
namespace Go.Proofs.YtdanghnadbkhfaaGreat
open Go Go.RowKit Rg Mp Hp Qs
end Go.Proofs.YtdanghnadbkhfaaGreat
end
section
namespace Go.Proofs.YtdanghnadbkhfaaGreat
open Go Go.RowKit Rg Mp Hp Qs Ev Bn
def dumT:Tr:=.node (.leaf 100) (.leaf 100) (.leaf 100) (.leaf 100)
def dums:List Tr:=List.replicate 300 dumT
structure RbSt (w wr:World) (b:Nat) (s:Int) (ns:List K4) (L:List Tr) (F:List Nat) (E:List SV) (n kb q:Nat) (ids:List Int) (ms:List K4) (F':List Nat):Prop where
 krr:kr (fun ms k=>buildQ s n ms (partQ (2 ^ n) k (E.map SV.spot))) q ns=(0,ids,ms)
 ref:RefAt wr b s ms F'
 fr:Fr F w wr
 sub:∀ x∈F',x∈F∨w.heap.size≤x
 off:kb∉F'
 blk:wr.heap[kb]?=some (.cells (iv (mixL ⟨0,0,0,0⟩ ids)).toArray 81 (0,0))
 low:w.heap.size≤kb
 room:Qs.room s ms (dums++L)
theorem mix_set {ids:List Int} {q:Nat} {id:Int} (h:ids.length=q) (hq:q<4):(iv (mixL ⟨0,0,0,0⟩ ids)).toArray.setIfInBounds q (.int .i64 id)=(iv (mixL ⟨0,0,0,0⟩ (ids++[id]))).toArray:=by
 subst h
 rw [show ∀ (I:List Int) (m:Nat) (v:Int),(iv I).toArray.setIfInBounds m (.int .i64 v)=(iv (I.set m v)).toArray from fun I m v=>by rw [← iv_set];simp]
 congr 2
 have:ids.length=0∨ids.length=1∨ids.length=2∨ids.length=3:=by omega
 rcases this with h|h|h|h
 ·obtain rfl:=List.length_eq_zero_iff.1 h;rfl
 ·obtain⟨i0,rfl⟩:=List.length_eq_one_iff.1 h;rfl
 ·obtain⟨i0,i1,rfl⟩:=len2 h;rfl
 ·obtain⟨i0,i1,i2,rfl⟩:=len3 h;rfl
theorem RbSt.put {w wr w1 w2:World} {b:Nat} {s:Int} {ns:List K4} {L:List Tr} {F:List Nat} {E:List SV} {n kb q:Nat} {ids:List Int} {ms:List K4} {F':List Nat} (h:RbSt w wr b s ns L F E n kb q ids ms F') (hq:q<4)
  (hf:Fr [] wr w1) {id:Int} {ms2:List K4} {F2:List Nat} (h2:RefAt w2 b s ms2 F2) (hf2:Fr F' w1 w2) (hs2:∀ x∈F2,x∈F'∨w1.heap.size≤x) (hr:Qs.room s ms2 (dums++L)) (hb:buildQ s n ms (partQ (2 ^ n) q (E.map SV.spot))=((id,0),ms2)) :
  RbSt w (w2.setCell ⟨kb,q,none⟩ (.int .i64 id)) b s ns L F E n kb (q+1) (ids++[id]) ms2 F2:=by
 have hkl:=lBk h.blk
 have hk1:kb<w1.heap.size:=by have:=hf.size;omega
 have hoff:kb∉F2:=fun hx=>by rcases hs2 kb hx with h9|h9;exact h.off h9;omega
 have hb1:=(hf.block kb hkl (by simp)).trans h.blk
 have hb2:=(hf2.block kb hk1 h.off).trans hb1
 have hset:∀ z,z≠kb→(w2.setCell ⟨kb,q,none⟩ (.int .i64 id)).heap[z]?=w2.heap[z]?:=fun z hz=>heap_setCell_else _ _ _ _ hz
 have hfr2:Fr F w w2:=(h.fr.trans0 hf).trans hf2 fun x hx=>by
  rcases h.sub x hx with h9|h9
  ·exact .inl h9
  ·exact .inr h9
 have hsub2:∀ x∈F2,x∈F∨w.heap.size≤x:=fun x hx=>by
  rcases hs2 x hx with h9|h9
  ·exact h.sub x h9
  ·have:=h.fr.size;have:=hf.size;exact .inr (by omega)
 refine⟨kr_ok h.krr hb,h2.keep fun x hx=>hset x (fun e=>hoff (e▸hx)),hfr2.setCell (.inr h.low) _,hsub2,hoff,?_,h.low,hr⟩
 rw [heap_setCell_here hb2]
 congr 2
 exact mix_set (kr_len h.krr) hq
end Go.Proofs.YtdanghnadbkhfaaGreat
end
section
namespace Go.Proofs.YtdanghnadbkhfaaGreat
open Go Go.RowKit Rg Mp Hp Qs
set_option maxHeartbeats 2000000 in
theorem RLevel_calls {w:World} {b:Nat} {s:Int} {ns:List K4} {F:List Nat} (hS:RefAt w b s ns F) (id:Int) :
  Calls Tryz.prog 43 #[.pointer (some ⟨b,0,none⟩),.int .i64 id] w fun e w'=>e=.returned (.int .i64 (lvl s (levs s ns) id))∧Fr [] w w':=by
 obtain⟨hgood,nv,hI,rfl⟩:=hS
 obtain⟨na,nc,rfl,_,_⟩:=oFM hI.nodes
 have b0:=hEC hI.blk 0
 have b1:=hEC hI.blk 1
 have HI:=Lib.hid hI
 have Hgood:=Lib.hid hgood
 clear hI hgood
 go_enter Tryz.func43,Tryz.ntmps43
 go_wp2_with fail
 refine (level_ref Hgood.out (Reads.of_owns HI.out.nodes) id).mono ?_
 rintro e w' ⟨rfl,o,rfl⟩
 go_wp2
 go_ret
 exact⟨rfl,by (repeat first|exact Fr.refl _ _|assumption|apply Fr.n|apply Fr.d|apply Fr.a|refine Fr.s ?_ (.inr (by simp;try omega)) _)⟩
set_option maxHeartbeats 2000000 in
theorem RKids_calls {w:World} {b:Nat} {s:Int} {ns:List K4} {F:List Nat} (hS:RefAt w b s ns F) (id:Int) :
  Calls Tryz.prog 44 #[.pointer (some ⟨b,0,none⟩),.int .i64 id] w fun e w'=>e=.returned (.tuple #[kv (kidsOf s ns id).1,.bool (kidsOf s ns id).2])∧Fr [] w w':=by
 obtain⟨hgood,nv,hI,rfl⟩:=hS
 obtain⟨na,nc,rfl,hna,_⟩:=oFM hI.nodes
 have b0:=hEC hI.blk 0
 have b1:=hEC hI.blk 1
 have hb:=lBk hI.blk
 have hs1:2≤s:=hgood.1
 have hs2:s≤8:=hgood.2.1
 have hn:ns.length≤1048576:=by have:=hgood.2.2.1;omega
 have HI:=Lib.hid hI
 have Hna:=Lib.hid hna
 clear hI hgood hna
 unfold kidsOf
 by_cases hst:id<s
 ·rw [if_pos hst]
  unfold kv
  go_enter Tryz.func44,Tryz.ntmps44
  go_wp2
  (refine wRT (by kernel_rfl) (by kernel_rfl) ?_)
  go_wp2
  refine Strict.intro rfl ?_
  go_wp2
  exact bodyPost_ret (v:=.tuple #[.agg #[.int .i64 0,.int .i64 0,.int .i64 0,.int .i64 0],.bool false]) (by simp [results,Tryz.results44,go_sem]) rfl ⟨rfl,by (repeat first|exact Fr.refl _ _|assumption|apply Fr.n|apply Fr.d|apply Fr.a|refine Fr.s ?_ (.inr (by simp;try omega)) _)⟩
 ·rw [if_neg hst]
  by_cases hfar:s+ns.length≤id
  ·rw [List.getElem?_eq_none (by omega)]
   unfold kv
   go_enter Tryz.func44,Tryz.ntmps44
   go_wp2
   (refine wRT (by kernel_rfl) (by kernel_rfl) ?_)
   go_wp2
   refine Strict.intro rfl ?_
   go_wp2
   exact bodyPost_ret (v:=.tuple #[.agg #[.int .i64 0,.int .i64 0,.int .i64 0,.int .i64 0],.bool false]) (by simp [results,Tryz.results44,go_sem]) rfl ⟨rfl,by (repeat first|exact Fr.refl _ _|assumption|apply Fr.n|apply Fr.d|apply Fr.a|refine Fr.s ?_ (.inr (by simp;try omega)) _)⟩
  ·obtain⟨i,rfl⟩:∃ i:Nat,id=s+i:=⟨(id - s).toNat,by omega⟩
   have hi:i<ns.length:=by omega
   rw [show (s+(i:Int) - s).toNat=i by omega,List.getElem?_eq_getElem hi]
   obtain⟨g,rfl⟩:=Hna.out (by omega)
   obtain⟨f0,f1,f2,f3⟩:=flat_get (List.getElem?_eq_getElem hi)
   rw [Nat.mul_comm] at f0 f1 f2 f3
   obtain⟨k,hk⟩:∃ k,k=ns[i]:=⟨_,rfl⟩
   rw [← hk] at f0 f1 f2 f3 ⊢
   have e0:=owns_cell HI.out.nodes rfl f0
   have e1:=owns_cell HI.out.nodes rfl f1
   have e2:=owns_cell HI.out.nodes rfl f2
   have e3:=owns_cell HI.out.nodes rfl f3
   have hg:=oLT HI.out.nodes rfl
   have hw1:IntKind.i64.wrap (s+↑i - s)=↑i:=IntWalk.i64_in _ (by omega) |>.trans (by omega)
   clear f0 f1 f2 f3 hk hst hfar
   unfold kv
   go_enter Tryz.func44,Tryz.ntmps44
   go_wp2
   (refine wRT (by kernel_rfl) (by kernel_rfl) ?_)
   go_wp2
   refine Strict.intro rfl ?_
   go_wp2
   (refine wRT (by kernel_rfl) (by kernel_rfl) ?_)
   go_wp2
   refine Strict.intro rfl ?_
   go_wp2
   exact bodyPost_ret (v:=.tuple #[.agg #[.int .i64 k.a,.int .i64 k.b,.int .i64 k.c,.int .i64 k.d],.bool true]) (by simp [results,Tryz.results44,go_sem]) rfl ⟨rfl,by (repeat first|exact Fr.refl _ _|assumption|apply Fr.n|apply Fr.d|apply Fr.a|refine Fr.s ?_ (.inr (by simp;try omega)) _)⟩
set_option maxHeartbeats 2000000 in
theorem RData_calls {w:World} {b:Nat} {s:Int} {ns:List K4} {F:List Nat} (hS:RefAt w b s ns F) :
  Calls Tryz.prog 24 #[.pointer (some ⟨b,0,none⟩)] w (CopyPost w s ns):=by
 obtain⟨hgood,nv,hI,rfl⟩:=hS
 obtain⟨na,nc,rfl,_,_⟩:=oFM hI.nodes
 have b0:=hEC hI.blk 0
 have b1:=hEC hI.blk 1
 have hb:=lBk hI.blk
 have HI:=Lib.hid hI
 have Hgood:=Lib.hid hgood
 clear hI hgood
 go_enter Tryz.func24,Tryz.ntmps24
 go_wp2_with fail
 refine (copied_ref (s:=s) (by have:=Hgood.out.2.2.1;omega) ((Reads.of_owns HI.out.nodes).fr (by (repeat first|exact Fr.refl _ _|assumption|apply Fr.n|apply Fr.d|apply Fr.a|refine Fr.s ?_ (.inr (by simp;try omega)) _)))).mono ?_
 rintro e w1 ⟨v,rfl,ho,hf⟩
 have hl:w1.heap[w.heap.size]?=some (.cells #[.int .i64 0,.slice none 0 0] 24 (0,0)):=(hf.block _ (by rw [hAz];omega) (by simp)).trans (by (repeat first|rw [if_pos (by omega)]|rw [if_neg (by omega)]|rw [hDR]|rw [hDN]|rw [hAz]|rw [hSz]|rw [hAC]|rw [hSC]|rw [oMS]|rw [uPC]|rw [lSZ]|rw [lSS]|rfl))
 have l0:=hEC hl 0
 have l1:=hEC hl 1
 have g0:=hEF hl 0
 have g1:=hEF hl 1
 obtain⟨va,vc,rfl,hva,hvn⟩:=oFM ho
 have hne:(Value.slice va ns.length vc).ownBlock≠some w.heap.size:=fun e=>by
  have:=owns_ge ho e;rw [hAz] at this;omega
 have Ho:=Lib.hid ho
 have Hne:=Lib.hid hne
 have Hf:=Lib.hid (((Fr.refl [] w).alloc _).trans0 hf)
 clear ho hva hvn hf hl hne
 go_wp2
 exact bodyPost_ret (v:=.agg #[.int .i64 s,.slice va ns.length vc]) (by simp [results,Tryz.results24,go_sem,l0,l1]) rfl
  ⟨_,rfl,oOB (base:=w.heap.size) (owns_base Ho.out (by rw [hAz];omega)) fun x hx=>heap_setCell2 _ _ _ _ _ _ (fun e=>Hne.out (by rw [hx,e])),by repeat (first|exact Hf.out|apply Fr.drewN|apply Fr.drew|apply Fr.alloc|refine Fr.setCell ?_ (Or.inr (by simp)) _)⟩
end Go.Proofs.YtdanghnadbkhfaaGreat
end
section
namespace Go.Proofs.YtdanghnadbkhfaaGreat
open Go Go.RowKit Rg Mp Hp Qs Ev
def refR (b:Nat) (s:Int) (ns:List K4):Res where
 holds w F:=RefAt w b s ns F
 keep:=fun h hk=>h.keep hk
 lt:=fun h=>h.lt
def LoadedPost (w:World) (s:Int) (ns:List K4) (e:Ending) (w':World):Prop :=
 (ns.length≤100∧GoodQ s ns→∃ b r,e=.returned (.tuple #[.pointer (some ⟨b,0,none⟩),.pointer (some ⟨r,0,none⟩),.bool true])∧Has w w' [sTR b s ns,refR r s ns]) ∧
 (¬ (ns.length≤100∧GoodQ s ns)→e=.returned (.tuple #[.pointer none,.pointer none,.bool false])∧Fr [] w w')
set_option maxHeartbeats 4000000 in
theorem loaded_q {w:World} {s:Int} {ns:List K4} {v:Value} (hv:Reads w v ns.length 4 (flat ns)) :
  Calls Tryz.prog 7 #[.agg #[.int .i64 s,v]] w (LoadedPost w s ns):=by
 have hvk:=hv
 obtain⟨_,a,c,rfl,_⟩:=hv
 have Hv:=Lib.hid hvk
 clear hvk
 by_cases hl:100<ns.length
 ·have hd:decide ((100:Int)<↑ns.length)=true:=by simp;omega
  have hd2:decide (100<ns.length)=true:=by simpa using hl
  have Hl:=Lib.hid hl
  clear hl
  go_enter Tryz.func7,Tryz.ntmps7
  go_wp2
  go_ret3
  exact⟨fun h=>by have:=Hl.out;omega,fun _=>⟨rfl,by (repeat first|exact Fr.refl _ _|assumption|apply Fr.n|apply Fr.d|apply Fr.a|refine Fr.s ?_ (.inr (by simp;try omega)) _)⟩⟩
 have hd:decide ((100:Int)<↑ns.length)=false:=by simp;omega
 have hd2:decide (100<ns.length)=false:=by simpa using hl
 have Hl:=Lib.hid hl
 clear hl
 by_cases hg:GoodQ s ns
 ·have Hg:=Lib.hid hg
  clear hg
  go_enter Tryz.func7,Tryz.ntmps7
  go_wp2_with fail
  refine (R25Right_calls (s:=s) (by have:=Hl.out;omega) (Hv.out.fr (by (repeat first|exact Fr.refl _ _|assumption|apply Fr.n|apply Fr.d|apply Fr.a|refine Fr.s ?_ (.inr (by simp;try omega)) _)))).mono ?_
  rintro e w1 ⟨rfl,hf⟩
  rw [decide_eq_true Hg.out]
  have hb:=(hf.block w.heap.size (by simp) (by simp)).trans (show _=some (.cells #[.int .i64 s,.slice a ns.length c] 24 (0,0)) by (repeat first|rw [if_pos (by omega)]|rw [if_neg (by omega)]|rw [hDR]|rw [hDN]|rw [hAz]|rw [hSz]|rw [hAC]|rw [hSC]|rw [oMS]|rw [uPC]|rw [lSZ]|rw [lSS]|rfl))
  have c0:=hEC hb 0
  have c1:=hEC hb 1
  have hbl:=lBk hb
  have Hb:=Lib.hid hb
  have Hf:=Lib.hid (Fr.trans0 (by (repeat first|exact Fr.refl _ _|assumption|apply Fr.n|apply Fr.d|apply Fr.a|refine Fr.s ?_ (.inr (by simp;try omega)) _):Fr [] w _) hf)
  clear hf hb
  go_wp2_with fail
  refine (Load_calls (s:=s) (by have:=Hl.out;omega) (Hv.out.fr Hf.out)).mono ?_
  rintro e w2 ⟨h1,_⟩
  obtain⟨b,F,rfl,hS,hf,hF⟩:=h1 Hg.out
  have h2:Has w w2 [sTR b s ns]:=(Has.nil Hf.out).new hf hS hF
  have hb:=(hf.block _ (lBk Hb.out) (by simp)).trans Hb.out
  clear c0 c1 hbl
  have c0:=hEC hb 0
  have c1:=hEC hb 1
  have hbl:=lBk hb
  have H2:=Lib.hid h2
  clear h1 hS hf hF h2 hb
  go_wp2_with fail
  refine (RLoad_calls (s:=s) (by have:=Hl.out;omega) (Hv.out.fr H2.out.fr)).mono ?_
  rintro e w3 ⟨h1,_⟩
  obtain⟨r,G,rfl,hR,hf,hG⟩:=h1 Hg.out
  have H3:=Lib.hid (show Has w w3 [refR r s ns,sTR b s ns] from H2.out.new hf hR hG)
  clear h1 hR hf hG c0 c1 hbl
  go_wp2
  go_ret3
  exact⟨fun _=>⟨b,r,rfl,H3.out.swap⟩,fun h=>absurd ⟨by have:=Hl.out;omega,Hg.out⟩ h⟩
 ·have Hg:=Lib.hid hg
  clear hg
  go_enter Tryz.func7,Tryz.ntmps7
  go_wp2_with fail
  refine (R25Right_calls (s:=s) (by have:=Hl.out;omega) (Hv.out.fr (by (repeat first|exact Fr.refl _ _|assumption|apply Fr.n|apply Fr.d|apply Fr.a|refine Fr.s ?_ (.inr (by simp;try omega)) _)))).mono ?_
  rintro e w1 ⟨rfl,hf⟩
  rw [decide_eq_false Hg.out]
  have Hf:=Lib.hid (Fr.trans0 (by (repeat first|exact Fr.refl _ _|assumption|apply Fr.n|apply Fr.d|apply Fr.a|refine Fr.s ?_ (.inr (by simp;try omega)) _):Fr [] w _) hf)
  clear hf
  go_wp2
  go_ret3
  exact⟨fun h=>absurd h.2 Hg.out,fun _=>⟨rfl,Hf.out⟩⟩
end Go.Proofs.YtdanghnadbkhfaaGreat
end
section
namespace Go.Proofs.YtdanghnadbkhfaaGreat
open Go Go.RowKit Rg Hp Pt
end Go.Proofs.YtdanghnadbkhfaaGreat
end
section
namespace Go.Proofs.Hp
open Go Go.RowKit
theorem Seps.join {w:World}:∀ {Qs Ps:List Res} {G F:List Nat},Seps w Qs G→Seps w Ps F→(∀ x∈G,x∉F)→Seps w (Qs++Ps) (G++F)
 | [],_,_,_,h,k,_=>by rw [show _=[] from h];exact k
 | Q::Qs,Ps,G,F,⟨G1,G2,h1,h2,h3,h4⟩,k,hd=>by
  subst h4
  refine⟨G1,G2++F,h1,Seps.join h2 k fun x hx=>hd x (by simp [hx]),fun x hx hm=>?_,List.append_assoc _ _ _⟩
  rw [List.mem_append] at hm
  rcases hm with hm|hm
  ·exact h3 x hx hm
  ·exact hd x (by simp [hx]) hm
theorem has_join {W w w':World} {Ps Qs:List Res} (h:Has W w Ps) (k:Has w w' Qs):Has W w' (Qs++Ps):=by
 obtain⟨F,h1,h2,h3⟩:=h
 obtain⟨G,k1,k2,k3⟩:=k
 refine⟨G++F,Seps.join k1 (h1.keep fun x hx=>k2.block x (h1.lt x hx) (by simp)) fun x hx hm=>?_,h2.trans0 k2,fun x hx=>?_⟩
 ·have:=k3 x hx;have:=h1.lt x hm;omega
 ·rw [List.mem_append] at hx
  rcases hx with hx|hx
  ·have:=k3 x hx;have:=h2.size;omega
  ·exact h3 x hx
end Go.Proofs.Hp
namespace Go.Proofs.YtdanghnadbkhfaaGreat
open Go Go.RowKit Rg Mp Hp Qs Ev Bn Pt
section
variable {W w:World} {b:Nat} {s:Int} {ns:List K4} {Ps:List Res}
theorem ref_good (h:Has W w (refR b s ns::Ps)):GoodQ s ns:=by obtain⟨F,hS⟩:=h.head;exact hS.1
theorem RLevel_has (h:Has W w (refR b s ns::Ps)) (id:Int) :
  Calls Tryz.prog 43 #[.pointer (some ⟨b,0,none⟩),.int .i64 id] w fun e w'=>e=.returned (.int .i64 (lvl s (levs s ns) id))∧Fr [] w w':=by
 obtain⟨F,hS⟩:=h.head
 exact RLevel_calls hS id
theorem RKids_has (h:Has W w (refR b s ns::Ps)) (id:Int) :
  Calls Tryz.prog 44 #[.pointer (some ⟨b,0,none⟩),.int .i64 id] w fun e w'=>e=.returned (.tuple #[kv (kidsOf s ns id).1,.bool (kidsOf s ns id).2])∧Fr [] w w':=by
 obtain⟨F,hS⟩:=h.head
 exact RKids_calls hS id
theorem RData_has (h:Has W w (refR b s ns::Ps)) :
  Calls Tryz.prog 24 #[.pointer (some ⟨b,0,none⟩)] w fun e w'=>∃ v,e=.returned (.agg #[.int .i64 s,v])∧Has W w' (Hp.row 105 4 v ns.length (flat ns)::refR b s ns::Ps):=by
 obtain⟨F,hS⟩:=h.head
 refine (RData_calls hS).mono ?_
 rintro e w' ⟨v,rfl,ho,hf⟩
 exact⟨v,rfl,h.newRow hf ho⟩
end
end Go.Proofs.YtdanghnadbkhfaaGreat
end
