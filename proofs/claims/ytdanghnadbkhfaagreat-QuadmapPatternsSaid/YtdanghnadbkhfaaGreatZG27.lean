/- Own texts of this claim, part 28: no condition. -/
import Derived.IntWalk
import Derived.Test.YtdanghnadbkhfaaGreatZG26
import Derived.Test.YtdanghnadbkhfaaGreatZG13
import Derived.Test.YtdanghnadbkhfaaGreatZG18
import Derived.Test.YtdanghnadbkhfaaGreatZG5
set_option linter.unusedVariables false
set_option linter.unusedSimpArgs false
section
namespace Go.Proofs.YtdanghnadbkhfaaGreat
open Go Go.RowKit Rg Mp Hp Qs
structure RefIn (w:World) (b:Nat) (s:Int) (ns:List K4) (nv:Value):Prop where
 blk:w.heap[b]?=some (.cells #[.int .i64 s,nv] 141 (0,0))
 nodes:w.ownsRow 0 105 4 nv ns.length (flat ns)
 ne:nv.ownBlock≠some b
def RefAt (w:World) (b:Nat) (s:Int) (ns:List K4) (F:List Nat):Prop:=GoodQ s ns∧∃ nv,RefIn w b s ns nv∧F=b::nv.ownBlock.toList
theorem RefAt.keep {w w':World} {b:Nat} {s:Int} {ns:List K4} {F:List Nat} (h:RefAt w b s ns F) (hk:∀ x∈F,w'.heap[x]?=w.heap[x]?):RefAt w' b s ns F:=by
 obtain⟨hg,nv,hI,rfl⟩:=h
 exact⟨hg,nv,⟨(hk b (by simp)).trans hI.blk,oOB hI.nodes fun g hg=>hk g (by simp [hg]),hI.ne⟩,rfl⟩
theorem RefAt.lt {w:World} {b:Nat} {s:Int} {ns:List K4} {F:List Nat} (h:RefAt w b s ns F):∀ x∈F,x<w.heap.size:=by
 obtain⟨_,nv,hI,rfl⟩:=h
 intro x hx
 simp only [List.mem_cons,Option.mem_toList] at hx
 rcases hx with rfl|hx
 ·exact lBk hI.blk
 ·exact oLT hI.nodes hx
theorem RefAt.fr {w w':World} {b:Nat} {s:Int} {ns:List K4} {F G:List Nat} (h:RefAt w b s ns F) (hf:Fr G w w') (hd:∀ x∈F,x∉G):RefAt w' b s ns F:=h.keep fun x hx=>hf.block x (h.lt x hx) (hd x hx)
def RLoadPost (w:World) (s:Int) (ns:List K4) (e:Ending) (w':World):Prop :=
 (GoodQ s ns→∃ b F,e=.returned (.tuple #[.pointer (some ⟨b,0,none⟩),.int .i64 0])∧RefAt w' b s ns F∧Fr [] w w'∧∀ x∈F,w.heap.size≤x) ∧
 (¬ GoodQ s ns→e=.returned (.tuple #[.pointer none,.int .i64 2])∧Fr [] w w')
set_option maxHeartbeats 4000000 in
theorem RLoad_calls {w:World} {s:Int} {ns:List K4} {v:Value} (hl:ns.length≤90000) (hv:Reads w v ns.length 4 (flat ns)) :
  Calls Tryz.prog 33 #[.agg #[.int .i64 s,v]] w (RLoadPost w s ns):=by
 have hvk:=hv
 obtain⟨_,a,c,rfl,hav⟩:=hv
 have Hvk:=Lib.hid hvk
 have Hl:=Lib.hid hl
 clear hav hvk hl
 go_enter Tryz.func33,Tryz.ntmps33
 go_wp2_with fail
 have hbx:(w.alloc (.cells #[.int .i64 s,.slice a ns.length c] 24)).heap[w.heap.size]?=some (.cells #[.int .i64 s,.slice a ns.length c] 24 (0,0)):=by (repeat first|rw [if_pos (by omega)]|rw [if_neg (by omega)]|rw [hDR]|rw [hDN]|rw [hAz]|rw [hSz]|rw [hAC]|rw [hSC]|rw [oMS]|rw [uPC]|rw [lSZ]|rw [lSS]|rfl)
 have hf0:Fr [] w (w.alloc (.cells #[.int .i64 s,.slice a ns.length c] 24)):=by (repeat first|exact Fr.refl _ _|assumption|apply Fr.n|apply Fr.d|apply Fr.a|refine Fr.s ?_ (.inr (by simp;try omega)) _)
 generalize w.alloc (.cells #[.int .i64 s,.slice a ns.length c] 24)=w0 at *
 refine (R25Right_calls (by have:=Hl.out;omega) (Hvk.out.fr hf0)).mono ?_
 rintro e w1 ⟨rfl,hf1⟩
 have hb1:=(hf1.block _ (lBk hbx) (by simp)).trans hbx
 have c0:=hEC hb1 0
 have c1:=hEC hb1 1
 simp at c0 c1
 have Hf1:=Lib.hid (hf0.trans0 hf1)
 clear hb1 hbx hf0 hf1
 by_cases hg:GoodQ s ns
 ·rw [decide_eq_true hg]
  have Hg:=Lib.hid hg
  clear hg
  go_wp2_with fail
  refine (copied_ref (by have:=Hl.out;omega) (Hvk.out.fr Hf1.out)).mono ?_
  rintro e w2 ⟨v,rfl,ho,hf2⟩
  obtain⟨va,vc,rfl,_⟩:=oFM ho
  have Ho:=Lib.hid ho
  have Hf2:=Lib.hid hf2
  clear ho hf2
  go_wp2
  go_ret2
  refine⟨fun _=>⟨w2.heap.size,w2.heap.size::(Value.slice va ns.length vc).ownBlock.toList,rfl,⟨Hg.out,_,⟨by (repeat first|rw [if_pos (by omega)]|rw [if_neg (by omega)]|rw [hDR]|rw [hDN]|rw [hAz]|rw [hSz]|rw [hAC]|rw [hSC]|rw [oMS]|rw [uPC]|rw [lSZ]|rw [lSS]|rfl),?_,?_⟩,rfl⟩,(Hf1.out.trans0 Hf2.out).alloc _,?_⟩,fun h=>absurd Hg.out h⟩
  ·exact oOB (owns_base Ho.out (by omega)) fun x hx=>hAE _ _ _ (oLT Ho.out hx)
  ·intro h
   have:=oLT Ho.out h
   omega
  ·intro x hx
   simp only [List.mem_cons,Option.mem_toList] at hx
   have h1:=Hf1.out.size
   have h2:=Hf2.out.size
   rcases hx with rfl|hx
   ·omega
   ·have:=owns_ge Ho.out hx;omega
 ·rw [decide_eq_false hg]
  have Hg:=Lib.hid hg
  clear hg
  go_wp2
  go_ret2
  exact⟨fun h=>absurd h Hg.out,fun _=>⟨rfl,Hf1.out⟩⟩
end Go.Proofs.YtdanghnadbkhfaaGreat
end
section
namespace Go.Proofs.YtdanghnadbkhfaaGreat
open Go Go.RowKit Rg Mp Hp Qs Ev Bn
def BvOff (w:World) (F:List Nat) (e:BV):Prop:=BigIn w false (zd (e.1:Int)) e.2.1 e.2.2∧∀ x∈bvF e,x∉F
theorem BvOff.step {w w':World} {F F':List Nat} {e:BV} (h:BvOff w F e) (hf:Fr F w w') (hs:∀ x∈F',x∈F∨w.heap.size≤x):BvOff w' F' e:=by
 have hl:=big_lt h.1
 refine⟨big_keep h.1 fun x hx=>hf.block x (hl x hx) (h.2 x hx),fun x hx hm=>?_⟩
 rcases hs x hm with h5|h5
 ·exact h.2 x hx h5
 ·have:=hl x hx
  omega
theorem BvOff.fr {w w':World} {F:List Nat} {e:BV} (h:BvOff w F e) (hf:Fr [] w w'):BvOff w' F e:=⟨h.1.fr hf,h.2⟩
theorem zok_small {z:Int} (h1:-36893488147419103232≤z) (h2:z≤36893488147419103232):Zok z:=by
 unfold Zok
 have:(36893488147419103232:Nat)<4294967296 ^ 64:=by
  rw [show (64:Nat)=3+61 from rfl,Nat.pow_add]
  have h1:=Nat.one_le_pow 61 4294967296 (by omega)
  have:=Nat.mul_le_mul_left (4294967296 ^ 3) h1
  omega
 omega
theorem Rpower_h {W w:World} {Ps:List Res} (h:Has W w Ps) {n:Nat} (hn:n≤2047) :
  Calls Tryz.prog 51 #[.int .i64 n] w fun e w'=>∃ a c,e=.returned (.agg #[.bool false,.slice a (zd ((2 ^ n:Nat):Int)).length c])∧Has W w' (bigR false (zd ((2 ^ n:Nat):Int)) a c::Ps):=by
 have HN:=Lib.hid hn
 have h1:=hAL h #[.bool false,.slice none 0 0] 27
 obtain⟨r4,hr4⟩:∃ r4,w.heap.size=r4:=⟨_,rfl⟩
 rw [hr4] at h1
 have H1:=Lib.hid h1
 obtain⟨V,hV⟩:∃ V,2 ^ n=V:=⟨_,rfl⟩
 rw [hV]
 have HV:=Lib.hid hV
 clear hn h h1 hV
 go_enter Tryz.func51,Tryz.ntmps51
 go_wp2_with fail
 refine (RFrom_z (by decide) (by decide)).mono ?_
 rintro e w1 ⟨v1,rfl,hb1,hf1⟩
 have H2:=Lib.hid (H1.out.step hf1)
 have HB1:=Lib.hid hb1
 clear hb1 hf1 H1
 go_wp2_with fail
 refine (RShift_z HB1.out HN.out).mono ?_
 rintro e w2 ⟨v2,rfl,hb2,hf2⟩
 obtain⟨a,c,rfl,h3⟩:=has_big H2.out hf2 hb2 (zok_pow HN.out)
 rw [HV.out] at h3 ⊢
 rw [show decide (((V:Nat):Int)<0)=false by simp] at h3 ⊢
 have h3:=h3.swap
 have hr:=h3.blk
 have r0:=hEC hr 0
 have r1:=hEC hr 1
 have rz0:=hEF hr 0
 have rz1:=hEF hr 1
 have rl:=lBk hr
 clear hr
 have H3:=Lib.hid h3
 clear hb2 hf2 h3 H2 HB1
 go_wp2
 have H5:=Lib.hid (hAL (hST (hST H3.out 0 (.bool false)) 1 (.slice a (zd (V:Int)).length c)) #[.bool false,.slice a (zd (V:Int)).length c] 27).swap
 refine bodyPost_ret (big_result1 rfl (b:=r4) (x:=.bool false) (y:=.slice a (zd (V:Int)).length c) rfl ?_) rfl ⟨a,c,rfl,?_⟩
 ·exact H5.out.blk
 ·exact H5.out.drop.drop
def lessB (x:Int) (n:Nat):Bool:=decide (0≤x∧x<((2 ^ n:Nat):Int))
theorem Rless_z {w:World} {v:Value} {x:Int} {A:Nat→Prop} (hv:BigZ w A v x) (hx:Zok x) {n:Nat} (hn:n≤2047):Calls Tryz.prog 68 #[v,.int .i64 n] w fun e w'=>e=.returned (.bool (lessB x n))∧Fr [] w w':=by
 have hv':=hv
 obtain⟨a,c,rfl,_,_,_⟩:=hv'
 have HN:=Lib.hid hn
 have HV:=Lib.hid hv
 have HX:=Lib.hid hx
 have HC0:=Lib.hid (show (decide (cmpI x 0 ≥ 0)=decide (0≤x)) from by unfold cmpI;rw [decide_eq_decide];split<;>(try split)<;>omega)
 have HC1:=Lib.hid (show (decide (cmpI x ((2 ^ n:Nat):Int)<0)=decide (x<((2 ^ n:Nat):Int))) from by unfold cmpI;rw [decide_eq_decide];split<;>(try split)<;>omega)
 have HR:=Lib.hid (show lessB x n=(decide (0≤x) && decide (x<((2 ^ n:Nat):Int))) from by unfold lessB;rw [Bool.decide_and])
 obtain⟨c0,hc0⟩:∃ c0,cmpI x 0=c0:=⟨_,rfl⟩
 obtain⟨c1,hc1⟩:∃ c1,cmpI x ((2 ^ n:Nat):Int)=c1:=⟨_,rfl⟩
 rw [hc0] at HC0
 rw [hc1] at HC1
 have E0:=Lib.hid hc0
 have E1:=Lib.hid hc1
 obtain⟨ng,hng⟩:∃ ng,decide (x<0)=ng:=⟨_,rfl⟩
 obtain⟨ln,hln⟩:∃ ln,(zd x).length=ln:=⟨_,rfl⟩
 rw [hng,hln] at HV ⊢
 clear hn hv hx hc0 hc1 hng hln
 rw [HR.out]
 by_cases h0:0≤x
 ·have hd0:decide (c0 ≥ 0)=true:=by rw [HC0.out];simpa using h0
  have hl0:decide (0≤x)=true:=by simpa using h0
  rw [hl0,Bool.true_and,← HC1.out]
  clear h0 hl0
  go_enter Tryz.func68,Tryz.ntmps68
  go_wp2
  refine wRS [([0,1],[0]),([2,3,4,5,6,7],[5]),([8,9,10,11],[])] (by kernel_rfl) (by kernel_rfl) ?_
  (simp only [wpSegs,pick,Array.getD_eq_getD_getElem?,List.getElem?_toArray,List.getElem?_cons_succ,List.getElem?_cons_zero,Option.getD_some])
  go_wp2_with fail
  refine (RFrom_z (by decide) (by decide)).mono ?_
  rintro e w1 ⟨v1,rfl,hb1,hf1⟩
  have hx_:=(hf1.block (w.heap.size) (by first|(simp;done)|(simp;omega)) (by simp)).trans (show _=some (.cells #[.bool ng,.slice a ln c] 27 (0,0)) by (repeat first|rw [if_pos (by omega)]|rw [if_neg (by omega)]|rw [hDR]|rw [hDN]|rw [hAz]|rw [hSz]|rw [hAC]|rw [hSC]|rw [oMS]|rw [uPC]|rw [lSZ]|rw [lSS]|rfl))
  have x0:=hEC hx_ 0
  have x1:=hEC hx_ 1
  have xl:=lBk hx_
  have Hx:=Lib.hid hx_
  clear hx_
  have HB1:=Lib.hid hb1
  have HF1:=Lib.hid (Fr.trans0 (by (repeat first|exact Fr.refl _ _|assumption|apply Fr.n|apply Fr.d|apply Fr.a|refine Fr.s ?_ (.inr (by simp;try omega)) _):Fr [] w _) hf1)
  clear hb1 hf1
  go_wp2
  refine Mid.intro ⟨⟨aGR (T:=27) (cs:=[.bool ng,.slice a ln c]) rfl rfl rfl Tryz.underlying27 rfl (by kernel_rfl) (fun j v hj=>?rngA) rfl,trivial⟩,?_⟩
  case rngA =>
   rw [Nat.zero_add,hEC Hx.out,← hj]
   exact (Array.getElem?_toList (xs:=#[Value.bool ng,.slice a ln c])).symm
  go_wp2_with fail
  refine (RCompare_z (HV.out.fr0 (HF1.out.trans0 (by (repeat first|exact Fr.refl _ _|assumption|apply Fr.n|apply Fr.d|apply Fr.a|refine Fr.s ?_ (.inr (by simp;try omega)) _)))) (HB1.out.fr0 (by (repeat first|exact Fr.refl _ _|assumption|apply Fr.n|apply Fr.d|apply Fr.a|refine Fr.s ?_ (.inr (by simp;try omega)) _))) HX.out (zok_int (by decide) (by decide))).mono ?_
  rw [E0.out]
  rintro e w2 ⟨rfl,hf2⟩
  (try clear x0)
  (try clear x1)
  (try clear xl)
  have hx_:=(hf2.block _ (lBk Hx.out) (by simp)).trans Hx.out
  clear Hx
  have x0:=hEC hx_ 0
  have x1:=hEC hx_ 1
  have xl:=lBk hx_
  have Hx:=Lib.hid hx_
  clear hx_
  have HF2:=Lib.hid (HF1.out.trans0 (Fr.trans0 (by (repeat first|exact Fr.refl _ _|assumption|apply Fr.n|apply Fr.d|apply Fr.a|refine Fr.s ?_ (.inr (by simp;try omega)) _)) hf2))
  clear hf2 HF1 HB1
  go_wp2_with fail
  refine (Rpower_h (Has.nil (Fr.refl [] _)) HN.out).mono ?_
  rintro e w3 ⟨a3,c3,rfl,h3⟩
  (try clear x0)
  (try clear x1)
  (try clear xl)
  have hx_:=(h3.fr.block _ (lBk Hx.out) (by simp)).trans Hx.out
  clear Hx
  have x0:=hEC hx_ 0
  have x1:=hEC hx_ 1
  have xl:=lBk hx_
  have Hx:=Lib.hid hx_
  clear hx_
  have HB3:=Lib.hid (show BigZ w3 (fun _=>True) (.agg #[.bool false,.slice a3 (zd ((2 ^ n:Nat):Int)).length c3]) ((2 ^ n:Nat):Int) from by
   obtain⟨G,hG,_⟩:=h3.head
   exact in_z hG)
  have HF3:=Lib.hid (HF2.out.trans0 (Fr.trans0 (by (repeat first|exact Fr.refl _ _|assumption|apply Fr.n|apply Fr.d|apply Fr.a|refine Fr.s ?_ (.inr (by simp;try omega)) _)) h3.fr))
  clear h3 HF2
  go_wp2
  refine Mid.intro ⟨⟨aGR (T:=27) (cs:=[.bool ng,.slice a ln c]) rfl rfl rfl Tryz.underlying27 rfl (by kernel_rfl) (fun j v hj=>?rngB) rfl,trivial⟩,?_⟩
  case rngB =>
   rw [Nat.zero_add,hEC Hx.out,← hj]
   exact (Array.getElem?_toList (xs:=#[Value.bool ng,.slice a ln c])).symm
  go_wp2_with fail
  refine (RCompare_z (HV.out.fr0 (HF3.out.trans0 (by (repeat first|exact Fr.refl _ _|assumption|apply Fr.n|apply Fr.d|apply Fr.a|refine Fr.s ?_ (.inr (by simp;try omega)) _)))) (HB3.out.fr0 (by (repeat first|exact Fr.refl _ _|assumption|apply Fr.n|apply Fr.d|apply Fr.a|refine Fr.s ?_ (.inr (by simp;try omega)) _))) HX.out (zok_pow HN.out)).mono ?_
  rw [E1.out]
  rintro e w4 ⟨rfl,hf4⟩
  have HF4:=Lib.hid (HF3.out.trans0 (Fr.trans0 (by (repeat first|exact Fr.refl _ _|assumption|apply Fr.n|apply Fr.d|apply Fr.a|refine Fr.s ?_ (.inr (by simp;try omega)) _)) hf4))
  clear hf4 HF3 HB3
  go_wp2
  refine Mid.intro ⟨trivial,Strict.intro rfl ?_⟩
  go_wp2
  go_ret
  exact⟨rfl,HF4.out.trans0 (by (repeat first|exact Fr.refl _ _|assumption|apply Fr.n|apply Fr.d|apply Fr.a|refine Fr.s ?_ (.inr (by simp;try omega)) _))⟩
 ·have hd0:decide (c0 ≥ 0)=false:=by rw [HC0.out];simpa using h0
  have hl0:decide (0≤x)=false:=by simpa using h0
  rw [hl0,Bool.false_and]
  clear h0 hl0
  go_enter Tryz.func68,Tryz.ntmps68
  go_wp2
  refine wRS [([0,1],[0]),([2,3,4,5,6,7],[5]),([8,9,10,11],[])] (by kernel_rfl) (by kernel_rfl) ?_
  (simp only [wpSegs,pick,Array.getD_eq_getD_getElem?,List.getElem?_toArray,List.getElem?_cons_succ,List.getElem?_cons_zero,Option.getD_some])
  go_wp2_with fail
  refine (RFrom_z (by decide) (by decide)).mono ?_
  rintro e w1 ⟨v1,rfl,hb1,hf1⟩
  have hx_:=(hf1.block (w.heap.size) (by first|(simp;done)|(simp;omega)) (by simp)).trans (show _=some (.cells #[.bool ng,.slice a ln c] 27 (0,0)) by (repeat first|rw [if_pos (by omega)]|rw [if_neg (by omega)]|rw [hDR]|rw [hDN]|rw [hAz]|rw [hSz]|rw [hAC]|rw [hSC]|rw [oMS]|rw [uPC]|rw [lSZ]|rw [lSS]|rfl))
  have x0:=hEC hx_ 0
  have x1:=hEC hx_ 1
  have xl:=lBk hx_
  have Hx:=Lib.hid hx_
  clear hx_
  have HB1:=Lib.hid hb1
  have HF1:=Lib.hid (Fr.trans0 (by (repeat first|exact Fr.refl _ _|assumption|apply Fr.n|apply Fr.d|apply Fr.a|refine Fr.s ?_ (.inr (by simp;try omega)) _):Fr [] w _) hf1)
  clear hb1 hf1
  go_wp2
  refine Mid.intro ⟨⟨aGR (T:=27) (cs:=[.bool ng,.slice a ln c]) rfl rfl rfl Tryz.underlying27 rfl (by kernel_rfl) (fun j v hj=>?rngC) rfl,trivial⟩,?_⟩
  case rngC =>
   rw [Nat.zero_add,hEC Hx.out,← hj]
   exact (Array.getElem?_toList (xs:=#[Value.bool ng,.slice a ln c])).symm
  go_wp2_with fail
  refine (RCompare_z (HV.out.fr0 (HF1.out.trans0 (by (repeat first|exact Fr.refl _ _|assumption|apply Fr.n|apply Fr.d|apply Fr.a|refine Fr.s ?_ (.inr (by simp;try omega)) _)))) (HB1.out.fr0 (by (repeat first|exact Fr.refl _ _|assumption|apply Fr.n|apply Fr.d|apply Fr.a|refine Fr.s ?_ (.inr (by simp;try omega)) _))) HX.out (zok_int (by decide) (by decide))).mono ?_
  rw [E0.out]
  rintro e w2 ⟨rfl,hf2⟩
  have HF2:=Lib.hid (HF1.out.trans0 (Fr.trans0 (by (repeat first|exact Fr.refl _ _|assumption|apply Fr.n|apply Fr.d|apply Fr.a|refine Fr.s ?_ (.inr (by simp;try omega)) _)) hf2))
  clear hf2 HF1 HB1
  go_wp2
  refine Mid.intro ⟨⟨fun o ho hw=>by obtain rfl:=Option.some.inj ho;exact absurd hw (by simp [Region.wanted,yielded]),trivial⟩,?_⟩
  go_wp2
  refine Mid.intro ⟨trivial,Strict.intro rfl ?_⟩
  go_wp2
  go_ret
  exact⟨rfl,HF2.out.trans0 (by (repeat first|exact Fr.refl _ _|assumption|apply Fr.n|apply Fr.d|apply Fr.a|refine Fr.s ?_ (.inr (by simp;try omega)) _))⟩
theorem Rminus_h {W w:World} {Ps:List Res} (h:Has W w Ps) {x y:Int} (hx:-9223372036854775808≤x∧x<9223372036854775808) (hy:-9223372036854775808≤y∧y<9223372036854775808) :
  Calls Tryz.prog 67 #[.int .i64 x,.int .i64 y] w fun e w'=>∃ a c,e=.returned (.agg #[.bool (decide (x - y<0)),.slice a (zd (x - y)).length c])∧Has W w' (bigR (decide (x - y<0)) (zd (x - y)) a c::Ps):=by
 have HA:=Lib.hid hx
 have HB:=Lib.hid hy
 have h1:=hAL h #[.bool false,.slice none 0 0] 27
 obtain⟨r4,hr4⟩:∃ r4,w.heap.size=r4:=⟨_,rfl⟩
 rw [hr4] at h1
 have H1:=Lib.hid h1
 obtain⟨ng,hng⟩:∃ ng,decide (x - y<0)=ng:=⟨_,rfl⟩
 obtain⟨D,hD⟩:∃ D,zd (x - y)=D:=⟨_,rfl⟩
 rw [hng,hD]
 have HNG:=Lib.hid hng
 have HD:=Lib.hid hD
 clear hx hy h h1 hng hD
 go_enter Tryz.func67,Tryz.ntmps67
 go_wp2_with fail
 refine (RFrom_z HA.out.1 HA.out.2).mono ?_
 rintro e w1 ⟨v1,rfl,hb1,hf1⟩
 have H2:=Lib.hid (H1.out.step hf1)
 have HB1:=Lib.hid hb1
 clear hb1 hf1 H1
 go_wp2_with fail
 refine (RFrom_z HB.out.1 HB.out.2).mono ?_
 rintro e w2 ⟨v2,rfl,hb2,hf2⟩
 have H3:=Lib.hid (H2.out.step hf2)
 have HB2:=Lib.hid hb2
 have HF12:=Lib.hid hf2
 clear hb2 hf2 H2
 go_wp2_with fail
 refine (RNeg_z HB2.out (zok_int HB.out.1 HB.out.2)).mono ?_
 rintro e w3 ⟨v3,rfl,hb3,hf3⟩
 have H4:=Lib.hid (H3.out.step hf3)
 have HB3:=Lib.hid hb3
 have HF13:=Lib.hid (HF12.out.trans0 hf3)
 clear hb3 hf3 HB2 H3 HF12
 go_wp2_with fail
 refine (RAdd_z (HB1.out.fr0 HF13.out) HB3.out (zok_int HA.out.1 HA.out.2) (zok_small (by have:=HB.out;omega) (by have:=HB.out;omega)) (zok_small (by have:=HB.out;have:=HA.out;omega) (by have:=HB.out;have:=HA.out;omega))).mono ?_
 rw [← Int.sub_eq_add_neg]
 rintro e w4 ⟨v4,rfl,hb4,hf4⟩
 obtain⟨a,c,rfl,h5⟩:=has_big H4.out hf4 hb4 (zok_small (by have:=HB.out;have:=HA.out;omega) (by have:=HB.out;have:=HA.out;omega))
 rw [HNG.out,HD.out] at h5 ⊢
 have h5:=h5.swap
 have hr:=h5.blk
 have r0:=hEC hr 0
 have r1:=hEC hr 1
 have rz0:=hEF hr 0
 have rz1:=hEF hr 1
 have rl:=lBk hr
 clear hr
 have H5:=Lib.hid h5
 clear hb4 hf4 h5 H4 HB1 HB3 HF13
 go_wp2
 have H6:=Lib.hid (hAL (hST (hST H5.out 0 (.bool ng)) 1 (.slice a D.length c)) #[.bool ng,.slice a D.length c] 27).swap
 refine bodyPost_ret (big_result1 rfl (b:=r4) (x:=.bool ng) (y:=.slice a D.length c) rfl ?_) rfl ⟨a,c,rfl,?_⟩
 ·exact H6.out.blk
 ·exact H6.out.drop.drop
end Go.Proofs.YtdanghnadbkhfaaGreat
end
section
namespace Go.Proofs.YtdanghnadbkhfaaGreat
open Go Go.RowKit Rg Mp Hp Qs Ev Bn
theorem owns_nil0 (w:World) (base e size:Nat):w.ownsRow base e size (.slice none 0 0) 0 []:=⟨by simp,.inl ⟨rfl,rfl⟩⟩
structure SV where
 X:BV
 Y:BV
 st:Int
def SV.spot (e:SV):Spot:=⟨e.X.1,e.Y.1,e.st⟩
def svE (e:SV):List Value:=[.bool false,.slice e.X.2.1 (zd (e.X.1:Int)).length e.X.2.2,.bool false,.slice e.Y.2.1 (zd (e.Y.1:Int)).length e.Y.2.2,.int .i64 e.st]
def svs (l:List SV):List Value:=l.flatMap svE
theorem svs_get:∀ {l:List SV} {i:Nat} {c:SV},l[i]?=some c→∀ {j:Nat} {u:Value},(svE c)[j]?=some u→(svs l)[i*5+j]?=some u
 | [],i,c,h,_,_,_=>by simp at h
 | d::l,0,c,h,j,u,hu=>by
  simp only [List.getElem?_cons_zero,Option.some.injEq] at h
  subst h
  have e:svs (d::l)=svE d++svs l:=rfl
  rw [e,Nat.zero_mul,Nat.zero_add,List.getElem?_append_left (List.getElem?_eq_some_iff.1 hu).1]
  exact hu
 | d::l,i+1,c,h,j,u,hu=>by
  have:=svs_get (l:=l) (i:=i) (by simpa using h) hu
  have e:svs (d::l)=svE d++svs l:=rfl
  rw [e,List.getElem?_append_right (by simp [svE];omega),show (i+1)*5+j - (svE d).length=i*5+j by simp [svE];omega]
  exact this
theorem svs_snoc (l:List SV) (c:SV):svs l++[.bool false,.slice c.X.2.1 (zd (c.X.1:Int)).length c.X.2.2,.bool false,.slice c.Y.2.1 (zd (c.Y.1:Int)).length c.Y.2.2,.int .i64 c.st]=svs (l++[c]):=by simp [svs,svE]
theorem svs_cell {w:World} {a:Option Addr} {n c:Nat} {l:List SV} (h:Reads w (.slice a n c) l.length 5 (svs l)) {i:Nat} {p:SV} (hi:l[i]?=some p) :
  ∃ g off,a=some ⟨g,off,none⟩∧g<w.heap.size∧w.cell? ⟨g,off+i*5,none⟩=some (.bool false)∧w.cell? ⟨g,off+i*5+1,none⟩=some (.slice p.X.2.1 (zd (p.X.1:Int)).length p.X.2.2)∧w.cell? ⟨g,off+i*5+2,none⟩=some (.bool false)∧w.cell? ⟨g,off+i*5+3,none⟩=some (.slice p.Y.2.1 (zd (p.Y.1:Int)).length p.Y.2.2)∧w.cell? ⟨g,off+i*5+4,none⟩=some (.int .i64 p.st):=by
 obtain⟨_,a',c',he,h2⟩:=h
 cases he
 obtain⟨g,off,rfl,hg,hc⟩:=h2 (by have:=(List.getElem?_eq_some_iff.1 hi).1;omega)
 have q:∀ {j u},(svE p)[j]?=some u→w.cell? ⟨g,off+i*5+j,none⟩=some u:=fun hu=>by
  have:=hc _ _ (svs_get hi hu)
  rwa [← Nat.add_assoc] at this
 exact⟨g,off,rfl,hg,q (j:=0) rfl,q (j:=1) rfl,q (j:=2) rfl,q (j:=3) rfl,q (j:=4) rfl⟩
structure SpAt (w:World) (F:List Nat) (v:Value) (E:List SV):Prop where
 rd:Reads w v E.length 5 (svs E)
 off:E≠[]→∀ x,v.ownBlock=some x→x∉F
 el:∀ e∈E,BvOff w F e.X∧BvOff w F e.Y
theorem SpAt.step {w w':World} {F F':List Nat} {v:Value} {E:List SV} (h:SpAt w F v E) (hf:Fr F w w') (hs:∀ x∈F',x∈F∨w.heap.size≤x):SpAt w' F' v E:=by
 refine⟨?_,fun hE x hx hm=>?_,fun e he=>⟨(h.el e he).1.step hf hs,(h.el e he).2.step hf hs⟩⟩
 ·rcases E with _|⟨e,E⟩
  ·obtain⟨h1,a,c,rfl,_⟩:=h.rd
   exact⟨h1,a,c,rfl,fun h=>by simp at h⟩
  ·exact h.rd.keep fun x hx hl=>hf.block x hl (h.off (by simp) x hx)
 ·rcases hs x hm with h5|h5
  ·exact h.off hE x hx h5
  ·obtain⟨_,a,c,rfl,h2⟩:=h.rd
   obtain⟨g,o,rfl,hg,_⟩:=h2 (List.length_pos_iff.2 hE)
   cases hx
   have h6:w.heap.size≤g:=h5
   omega
theorem SpAt.fr {w w':World} {F:List Nat} {v:Value} {E:List SV} (h:SpAt w F v E) (hf:Fr [] w w'):SpAt w' F v E:=⟨h.rd.fr hf,h.off,fun e he=>⟨(h.el e he).1.fr hf,(h.el e he).2.fr hf⟩⟩
theorem info_sv:(Tryz.prog.info? 117).map (fun i=>(i.zero,i.size,i.bytes))=some (some (.agg #[.bool false,.slice none 0 0,.bool false,.slice none 0 0,.int .i64 0]),5,72):=by kernel_rfl
theorem append_sv {ops:Array Oper} {rest:List Oper} {o:Oper} {a:Act} {W:World} {Q:Exit→Act→World→Prop} (hgd:o.guard=none) {s x:Operand} (ho:o.op=.call { callee:=.builtin .append,args:=#[s,x],argTypes:=#[112,112] })
  {base:Nat} {v:Value} {n:Nat} {xs:List Value} (hs:a.eval s=v) (hown:W.ownsRow base 117 5 v n xs) {nb c:Nat} {y:SV} (hx:a.eval x=.slice (some ⟨nb,0,none⟩) 1 c)
  (hnb:W.heap[nb]?=some (.cells #[.bool false,.slice y.X.2.1 (zd (y.X.1:Int)).length y.X.2.2,.bool false,.slice y.Y.2.1 (zd (y.Y.1:Int)).length y.Y.2.2,.int .i64 y.st] 117 (0,0))) (hn:n≤1000000000000) (hbase:base≤W.heap.size)
  (h:∀ g cap w',w'.ownsRow base 117 5 (.slice (some ⟨g,0,none⟩) (n+1) cap) (n+1) (xs++[.bool false,.slice y.X.2.1 (zd (y.X.1:Int)).length y.X.2.2,.bool false,.slice y.Y.2.1 (zd (y.Y.1:Int)).length y.Y.2.2,.int .i64 y.st])→(∀ b,b<W.heap.size→v.ownBlock≠some b→w'.heap[b]?=W.heap[b]?)→Fr v.ownBlock.toList W w'→(v.ownBlock=some g∨g=W.heap.size)→g<w'.heap.size →
   wpList Tryz.prog ops Q rest (a.put o.dst (.slice (some ⟨g,0,none⟩) (n+1) cap)) w'):wpList Tryz.prog ops Q (o::rest) a W :=
 append_new hgd ho Tryz.underlying112 info_sv rfl (by decide) hs hown hx (news:=[.bool false,.slice y.X.2.1 (zd (y.X.1:Int)).length y.X.2.2,.bool false,.slice y.Y.2.1 (zd (y.Y.1:Int)).length y.Y.2.2,.int .i64 y.st]) hnb rfl (by intro u hu;simp at hu;rcases hu with rfl|rfl|rfl|rfl|rfl<;>rfl) (by unfold maxLen;omega) (by omega) hbase h
theorem map_spot_len (E:List SV):(E.map SV.spot).length=E.length:=List.length_map _
theorem part_take {E:List SV} {i:Nat} {e:SV} (hi:E[i]?=some e) {H k:Nat}:partQ H k ((E.take (i+1)).map SV.spot)=partQ H k ((E.take i).map SV.spot)++if quadOf H e.spot=k then [intoQ H e.spot] else []:=by
 rw [List.take_add_one,hi,List.map_append]
 show partQ H k (_++[e.spot])=_
 rw [partQ_snoc]
end Go.Proofs.YtdanghnadbkhfaaGreat
end
