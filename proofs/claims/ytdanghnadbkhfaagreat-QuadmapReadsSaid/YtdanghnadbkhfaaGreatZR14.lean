/- Own texts of this claim, part 15: no condition. -/
import Derived.Deep.RegionHeld3
import Derived.Deep.DeepCutAuto
import Derived.IntWalk
import Derived.Test.YtdanghnadbkhfaaGreatZR13
section
namespace Go.Proofs.YtdanghnadbkhfaaGreat
open Go Go.RowKit Rg Mp Hp Qs Ev Bn
set_option linter.unusedVariables false
set_option linter.unusedSimpArgs false
theorem index4_get (kk:K4) (q:Nat) (hq:q<4) (w:World):(Instr.index 81 (.agg #[.int .i64 kk.a,.int .i64 kk.b,.int .i64 kk.c,.int .i64 kk.d]) (.int .i64 (q:Nat))).run Tryz.prog w=.ok (.int .i64 (kk.get q)) w:=by
 have:q=0∨q=1∨q=2∨q=3:=by omega
 rcases this with rfl|rfl|rfl|rfl
 ·exact index4_0 w _ _ _ _
 ·exact index4_1 w _ _ _ _
 ·exact index4_2 w _ _ _ _
 ·exact index4_3 w _ _ _ _
def outq (n:Nat) (t:Tr):Nat→Option Frm
 | 0=>none
 | q+1=>joinF (outq n t q) (frT n (Tr.q t q)) (if q % 2=1 then ((2 ^ n:Nat):Int) else 0) (if 2≤q then ((2 ^ n:Nat):Int) else 0)
theorem outq_four {n:Nat} {t:Tr} (h:Full (n+1) t):frT (n+1) t=outq n t 4:=by
 cases t with
 | leaf v=>exact h.elim
 | node a b c d=>simp [outq,frT,Tr.q]
theorem outq_in {n:Nat} {t:Tr}:∀ (q:Nat) (f:Frm),outq n t q=some f→inF ((2 ^ n:Nat)+(2 ^ n:Nat):Int) f
 | 0,f,h=>by simp [outq] at h
 | q+1,f,h=>by
  have hp:=Nat.pow_pos (n:=n) (show 0<2 by omega)
  exact joinF_in (h:=((2 ^ n:Nat):Int)) (outq_in q) (frT_in (t:=Tr.q t q)) (by split<;>omega) (by split<;>omega) (by split<;>omega) (by split<;>omega) f h
theorem zok_lt {V k:Nat} (h:V<2 ^ k) (hk:k≤2047):Zok (V:Int):=zok_le (zok_pow hk) (by rw [Int.natAbs_natCast,Int.natAbs_natCast];omega)
structure InnerH (W:World) (b fb rb:Nat) (s:Int) (ns:List K4) (mm:List (Int×FV)) (x14:Nat) (Lb:List BV) (Ps:List Res) (wr:World) (y0 y1 y2 y3:BV) (L':List BV):Prop where
 has:Has W wr (frL b fb rb s ns L' mm (Hp.blk x14 (.cells (fCL (true,y0,y1,y2,y3)) 98 (0,0))::Ps))
 more:∀ x∈Lb,x∈L'
 inl:InL L' (true,y0,y1,y2,y3)
structure InnerF (W:World) (b fb rb:Nat) (s:Int) (ns:List K4) (mm:List (Int×FV)) (x14:Nat) (f:FV) (G:Frm) (Lb:List BV) (Ps:List Res) (i:Nat) (wr:World) (y0 y1 y2 y3:BV) (L':List BV):Prop where
 has:Has W wr (frL b fb rb s ns L' mm (Hp.blk x14 (.cells (fCL (true,y0,y1,y2,y3)) 98 (0,0))::Ps))
 more:∀ x∈Lb,x∈L'
 inl:InL L' (true,y0,y1,y2,y3)
 g0:if 0<i then (y0.1:Int)=G.1 else y0=f.2.1
 g1:if 1<i then (y1.1:Int)=G.2.1 else y1=f.2.2.1
 g2:if 2<i then (y2.1:Int)=G.2.2.1 else y2=f.2.2.2.1
 g3:if 3<i then (y3.1:Int)=G.2.2.2 else y3=f.2.2.2.2
theorem has_bigin {W w w':World} {Ps:List Res} {neg:Bool} {ds:List Nat} {a:Option Addr} {c:Nat} (h:Has W w Ps) (hf:Fr [] w w') (hb:BigIn w' neg ds a c∧∀ g,(Value.slice a ds.length c).ownBlock=some g→w.heap.size≤g):Has W w' (bigR neg ds a c::Ps) :=
 h.new hf (F:=if ds.length=0 then [] else (Value.slice a ds.length c).ownBlock.toList) ⟨hb.1,rfl⟩ fun x hx=>by
  split at hx
  ·cases hx
  ·exact hb.2 x (by simpa using hx)
theorem shift_in {n H:Nat} (hH:2 ^ n=H) (hn:n≤2047) {w:World} {v:Value} (hb:BigZ w (fun _=>True) v 1):Calls Tryz.prog 85 #[v,.int .i64 n] w fun e w'=>∃ a c,e=.returned (.tuple #[.agg #[.bool false,.slice a (zd (H:Int)).length c],.int .i64 0])∧(BigIn w' false (zd (H:Int)) a c∧∀ g,(Value.slice a (zd (H:Int)).length c).ownBlock=some g→w.heap.size≤g)∧Fr [] w w':=by
 refine (Shift_z hb hn).mono ?_
 rw [hH]
 rintro e w' ⟨v,rfl,⟨a,c,rfl,h1,h2,h3⟩,hf⟩
 refine⟨a,c,?_,⟨⟨h3,zd_dig _,h1,?_⟩,h2⟩,hf⟩
 ·rw [show decide (((H:Nat):Int)<0)=false by simp]
 ·have:=zd_len (z:=((2 ^ n:Nat):Int)) (zok_pow hn)
  rw [hH] at this;omega
theorem _root_.Go.Proofs.Hp.Has.blk_ne {W w:World} {a b:Nat} {o1 o2:Obj} {Ps:List Res} (h:Has W w (Hp.blk a o1::Hp.blk b o2::Ps)):a≠b:=by
 obtain⟨F,⟨F1,F2,h1,⟨G1,G2,g1,g2,g3,rfl⟩,h3,rfl⟩,hf,hge⟩:=h
 obtain⟨_,rfl⟩:=h1
 obtain⟨_,rfl⟩:=g1
 intro e
 exact h3 a (by simp) (by simp [e])
theorem fcells_store (f:FV) (ok:Bool) (u0 u1 u2 u3:BV):(((((((((fCL f).setIfInBounds 0 (.bool false)).setIfInBounds 1 (.slice u0.2.1 (zd (u0.1:Int)).length u0.2.2)).setIfInBounds 2 (.bool false)).setIfInBounds 3 (.slice u1.2.1 (zd (u1.1:Int)).length u1.2.2)).setIfInBounds 4 (.bool false)).setIfInBounds 5 (.slice u2.2.1 (zd (u2.1:Int)).length u2.2.2)).setIfInBounds 6 (.bool false)).setIfInBounds 7 (.slice u3.2.1 (zd (u3.1:Int)).length u3.2.2)).setIfInBounds 8 (.bool ok)=fCL (ok,u0,u1,u2,u3):=by
 simp [fCL]
theorem abs_k {K:Act→World→Prop} {a:Act} {w:World} (F:World→Prop) (h:F w) (k:∀ w,F w→K a w):K a w:=k w h
theorem joinF_co (o:Option Frm) (x:Frm) (dx dy:Int):joinF o (some x) dx dy=some (if o.isSome then min (x.1+dx) (coF o).1 else x.1+dx,if o.isSome then min (x.2.1+dy) (coF o).2.1 else x.2.1+dy,if o.isSome then max (x.2.2.1+dx) (coF o).2.2.1 else x.2.2.1+dx,if o.isSome then max (x.2.2.2+dy) (coF o).2.2.2 else x.2.2.2+dy):=by
 cases o<;>rfl
set_option maxHeartbeats 16000000 in
set_option maxRecDepth 100000 in
theorem frame_node {W:World} {b fb rb:Nat} {s:Int} {ns:List K4} {n:Nat} (hn:n+1≤256) (ih:FrameAt W b fb rb s ns n) {w:World} {Ps:List Res} {L:List BV} {mm:List (Int×FV)} {id:Int} {t:Tr} (h:Has W w (frL b fb rb s ns L mm Ps)) (hI:FInv s ns L mm) (hi:Is s ns (n+1) id t) (hg:get? mm id=none) :
  Calls Tryz.prog 50 #[.pointer (some ⟨fb,0,none⟩),.int .i64 id] w (FramePost W b fb rb s ns L (n+1) t Ps):=by
 have hgd:=has_good h.f3
 obtain⟨hs,_,hq⟩:=hi.node hgd
 have h2s:=hgd.1
 obtain⟨kk,hkk⟩:∃ kk,nodeOf s ns id=kk:=⟨_,rfl⟩
 have HQ:=Lib.hid (hkk▸hq)
 have HK:=Lib.hid (fun w1 Qs (h1:Has W w1 (sTR b s ns::Qs))=>hkk▸Kids_has h1 hi)
 have HL:=Lib.hid (fun w1 Qs (h1:Has W w1 (sTR b s ns::Qs))=>LevelIs_has h1 hi)
 have HT:=Lib.hid hi.2.1
 have HFu:=Lib.hid (full_ht (n+1) hi.2.2.1)
 have HFF:=Lib.hid hi.2.2.1
 have HI:=Lib.hid hI
 have HIH:=Lib.hid ih
 have hk:decide (id > 0)=true:=by simp;omega
 clear hi hs hq hgd h2s hkk ih hI
 obtain⟨hm,hml⟩:=fr_map h
 obtain⟨c0,c1,cl⟩:=fr_cells h
 have HM:=Lib.hid hm
 have HG:=Lib.hid hg
 have H:=Lib.hid h
 have c03:∀ o1 o2 o3,(((w.alloc o1).alloc o2).alloc o3).cell? ⟨fb,0,none⟩=some (.pointer (some ⟨b,0,none⟩)):=fun o1 o2 o3=>(Fr.cell (((((Fr.refl [] w).alloc o1).alloc o2).alloc o3)) (p:=⟨fb,0,none⟩) cl (by simp)).trans c0
 clear hm h hg c0
 go_enter Tryz.func50,Tryz.ntmps50
 go_wp2_with (at_lookup;refine wpList_lookup_miss (f:=Value.int .i64) (g:=fvV) (k:=id) (z:=fvV (zFV false)) rfl rfl rfl rfl (HM.out.of_block (hAE _ _ _ hml)) Tryz.underlying94 keysI (by kernel_rfl) HG.out ?_;simp only [fvV,fcells_zero])
 have h1:=hAL ((hAL H.out (fCL (zFV false)) 98).step ((Fr.refl [] _).alloc (.cells (fCL (zFV false)) 98))) (fCL (zFV true)) 98
 simp only [hAz,fcells_zero] at h1
 refine (HK.out _ _ h1.f5).mono ?_
 rintro e w2 ⟨rfl,h,hf⟩
 obtain⟨rq,hr4⟩:∃ rq,w.heap.size=rq:=⟨_,rfl⟩
 obtain⟨s7,hs7⟩:∃ s7,rq+1+1=s7:=⟨_,rfl⟩
 simp only [hr4,hs7] at h ⊢
 clear hf h1 c03 c1 cl hml H HM HG hr4 hs7 hk
 have hsb:=h.swap.blk
 have s0:=hEC hsb 0
 have s1:=hEC hsb 1
 have s2:=hEC hsb 2
 have s3:=hEC hsb 3
 have s4:=hEC hsb 4
 have s5:=hEC hsb 5
 have s6:=hEC hsb 6
 have s7':=hEC hsb 7
 have s8:=hEC hsb 8
 have sz0:=hEF hsb 0
 have sz1:=hEF hsb 1
 have sz2:=hEF hsb 2
 have sz3:=hEF hsb 3
 have sz4:=hEF hsb 4
 have sz5:=hEF hsb 5
 have sz6:=hEF hsb 6
 have sz7':=hEF hsb 7
 have sz8:=hEF hsb 8
 have sl:=lBk hsb
 have H2:=Lib.hid h
 clear h hsb
 go_wp2
 refine aBW (fun w'=>Has W w' (Hp.blk w2.heap.size (.cells #[.int .i64 kk.a,.int .i64 kk.b,.int .i64 kk.c,.int .i64 kk.d] 81 (0,0))::sTR b s ns::Hp.blk s7 (.cells (fCL (zFV false)) 98 (0,0))::Hp.blk rq (.cells (fCL (zFV false)) 98 (0,0))::poolR L::mapF rb mm::Hp.blk fb (.cells #[.pointer (some ⟨b,0,none⟩),.map (some rb)] 96 (0,0))::Ps)) ?hasw ?_
 case hasw =>
  rw [fcells_zero]
  have hz:=hST (hST (hST (hST (hST (hST (hST (hST (hST H2.out.swap 0 (.bool false)) 1 (.slice none 0 0)) 2 (.bool false)) 3 (.slice none 0 0)) 4 (.bool false)) 5 (.slice none 0 0)) 6 (.bool false)) 7 (.slice none 0 0)) 8 (.bool false)
  have hA:=hAL hz.swap #[.int .i64 kk.a,.int .i64 kk.b,.int .i64 kk.c,.int .i64 kk.d] 81
  rw [hSz,hSz,hSz,hSz,hSz,hSz,hSz,hSz,hSz] at hA
  exact hA
 clear s0 s1 s2 s3 s4 s5 s6 s7' s8 sl sz0 sz1 sz2 sz3 sz4 sz5 sz6 sz7' sz8 H2
 intro w3 h3
 obtain⟨H,hH⟩:∃ H,2 ^ n=H:=⟨_,rfl⟩
 have hfb:=h3.f6.blk
 have c0:=hEC hfb 0
 have cl:=lBk hfb
 have H3:=Lib.hid h3
 have HSh:=Lib.hid (fun w1 v (hb:BigZ w1 (fun _=>True) v 1)=>shift_in hH (by omega) hb)
 have HH:=Lib.hid hH
 clear h3 hfb hH
 have hwr:IntKind.i64.wrap ((n:Int)+1 - 1)=((n:Nat):Int):=by rw [Int.add_sub_cancel];exact IntWalk.i64_in ((n:Nat):Int) (by omega)
 have hwr3:IntKind.i64.wrap ((n:Nat):Int)=((n:Nat):Int):=IntWalk.i64_in ((n:Nat):Int) (by omega)
 have hwr2:IntKind.i64.wrap (((n+1:Nat):Int) - 1)=((n:Nat):Int):=by rw [Int.natCast_add];exact hwr
 have n30:=World.new_ne w3 _ c0
 go_upto_region 9 with fail
 go_cut [10] (fun s10 wx=>∃ (hb:Nat) (ha:Option Addr) (hc:Nat),s10=.pointer (some ⟨hb,0,none⟩)∧Hid (Has W wx (bigR false (zd (H:Int)) ha hc::Hp.blk hb (.cells #[.bool false,.slice ha (zd (H:Int)).length hc] 27 (0,0))::Hp.blk w2.heap.size (.cells #[.int .i64 kk.a,.int .i64 kk.b,.int .i64 kk.c,.int .i64 kk.d] 81 (0,0))::sTR b s ns::Hp.blk s7 (.cells (fCL (zFV false)) 98 (0,0))::Hp.blk rq (.cells (fCL (zFV false)) 98 (0,0))::poolR L::mapF rb mm::Hp.blk fb (.cells #[.pointer (some ⟨b,0,none⟩),.map (some rb)] 96 (0,0))::Ps)))
 case first =>
  go_region_held3 (fun w'=>w'.cell? ⟨fb,0,none⟩=some (.pointer (some ⟨b,0,none⟩))) (first|go_keep|exact kA0|exact kB0|exact kC0)
   (first|(go_at_call 54;refine (From_z (x:=1) (by omega) (by omega)).mono ?_;rintro e wA ⟨v1,rfl,hb1,hfA⟩;have h3A:Fr [] w3 wA:=Fr.trans0 (by (repeat first|exact Fr.refl _ _|assumption|apply Fr.n|apply Fr.d|apply Fr.a|refine Fr.s ?_ (.inl (by simp)) _)) hfA;have kA0:=(h3A.cell (p:=⟨fb,0,none⟩) cl (by simp)).trans c0;have nA0:=World.new_ne wA _ kA0;obtain⟨cA,zA⟩:=frcell hfA;(try (have sA:w3.heap.size<wA.heap.size:=by have h:=hfA.size;(try simp at h);omega)))|(go_at_call 39;refine (HL.out _ _ (H3.out.swap.step ?_)).mono ?_;(· refine Fr.trans0 h3A ?_;(repeat first|exact Fr.refl _ _|assumption|apply Fr.n|apply Fr.d|apply Fr.a|refine Fr.s ?_ (.inl (by simp)) _));rintro e wB ⟨rfl,_,hfB⟩;have hAB:Fr [] wA wB:=Fr.trans0 (by (repeat first|exact Fr.refl _ _|assumption|apply Fr.n|apply Fr.d|apply Fr.a|refine Fr.s ?_ (.inl (by simp)) _)) hfB;have h3B:Fr [] w3 wB:=Fr.trans0 h3A hAB;have kB0:=(h3B.cell (p:=⟨fb,0,none⟩) cl (by simp)).trans c0;have nB0:=World.new_ne wB _ kB0;obtain⟨cB,zB⟩:=frcell hfB;(try (have sB:wA.heap.size<wB.heap.size:=by have h:=hfB.size;(try simp at h);omega));(try (have sB2:w3.heap.size<wB.heap.size:=by have h:=hfB.size;(try simp at h);omega)))|(go_at_call 85;refine (HSh.out _ _ ((hb1.mono (fun _ _=>trivial)).fr0 ?_)).mono ?_;(· refine Fr.trans0 hAB ?_;(repeat first|exact Fr.refl _ _|assumption|apply Fr.n|apply Fr.d|apply Fr.a|refine Fr.s ?_ (.inl (by simp)) _));rintro e wC ⟨ha,hc,rfl,hb2,hfC⟩;have HB2:=Lib.hid hb2;clear hb2;have hBC:Fr [] wB wC:=Fr.trans0 (by (repeat first|exact Fr.refl _ _|assumption|apply Fr.n|apply Fr.d|apply Fr.a|refine Fr.s ?_ (.inl (by simp)) _)) hfC;have h3C:Fr [] w3 wC:=Fr.trans0 h3B hBC;have kC0:=(h3C.cell (p:=⟨fb,0,none⟩) cl (by simp)).trans c0;have nC0:=World.new_ne wC _ kC0;obtain⟨cC,zC⟩:=frcell hfC;(try (have sC:wB.heap.size<wC.heap.size:=by have h:=hfC.size;(try simp at h);omega));(try (have sC2:wA.heap.size<wC.heap.size:=by have h:=hfC.size;(try simp at h);omega));(try (have sC3:w3.heap.size<wC.heap.size:=by have h:=hfC.size;(try simp at h);omega))))
  ·go_wp2_with fail
   go_meet
   exact⟨_,ha,hc,rfl,Lib.hid (hAL (has_bigin (H3.out.step (Fr.trans0 h3B (by (repeat first|exact Fr.refl _ _|assumption|apply Fr.n|apply Fr.d|apply Fr.a|refine Fr.s ?_ (.inr (by simp;try omega)) _)))) hfC HB2.out) #[.bool false,.slice ha (zd (H:Int)).length hc] 27).swap⟩
  ·go_wp2_with fail
   go_meet
   exact⟨_,ha,hc,rfl,Lib.hid (hST (hST (has_bigin ((hAL (H3.out.step h3B) #[.bool false,.slice none 0 0] 27).step (by (repeat first|exact Fr.refl _ _|assumption|apply Fr.n|apply Fr.d|apply Fr.a|refine Fr.s ?_ (.inr (by simp;try omega)) _))) hfC HB2.out).swap 0 (.bool false)) 1 (.slice ha (zd (H:Int)).length hc)).swap⟩
  ·go_wp2_with fail
   go_meet
   exact⟨_,ha,hc,rfl,Lib.hid (hST (hST (has_bigin ((hAL (H3.out.step h3A) #[.bool false,.slice none 0 0] 27).step (Fr.trans0 (Fr.trans0 (by (repeat first|exact Fr.refl _ _|assumption|apply Fr.n|apply Fr.d|apply Fr.a|refine Fr.s ?_ (.inr (by simp;try omega)) _)) hfB) (by (repeat first|exact Fr.refl _ _|assumption|apply Fr.n|apply Fr.d|apply Fr.a|refine Fr.s ?_ (.inr (by simp;try omega)) _)))) hfC HB2.out).swap 0 (.bool false)) 1 (.slice ha (zd (H:Int)).length hc)).swap⟩
  ·go_wp2_with fail
   go_meet
   exact⟨_,ha,hc,rfl,Lib.hid (hST (hST (has_bigin ((hAL H3.out #[.bool false,.slice none 0 0] 27).step (Fr.trans0 (Fr.trans0 (Fr.trans0 (by (repeat first|exact Fr.refl _ _|assumption|apply Fr.n|apply Fr.d|apply Fr.a|refine Fr.s ?_ (.inr (by simp;try omega)) _)) hfA) hAB) (by (repeat first|exact Fr.refl _ _|assumption|apply Fr.n|apply Fr.d|apply Fr.a|refine Fr.s ?_ (.inr (by simp;try omega)) _)))) hfC HB2.out).swap 0 (.bool false)) 1 (.slice ha (zd (H:Int)).length hc)).swap⟩
 case rest =>
  obtain⟨hb,ha,hc,rfl,HC⟩:=hcut
  clear hwr hwr2 hwr3 n30 c0 cl H3 HSh HL HK
  have hk4:=HC.out.f2.blk
  have k0:=hEC hk4 0
  have k1:=hEC hk4 1
  have k2:=hEC hk4 2
  have k3:=hEC hk4 3
  have kl:=lBk hk4
  clear hk4
  have HIX:=Lib.hid (index4_get kk)
  go_wp2
  go_loopw [54] (fun x wr=>∃ q:Nat,x=.int .i64 (q:Nat)∧q≤4∧∃ (fo:FV) (L2:List BV) (mm2:List (Int×FV)),FrOk (outq n t q) fo∧InL L2 fo∧FInv s ns L2 mm2∧(∀ x∈L,x∈L2)∧Has W wr (frL b fb rb s ns L2 mm2 (bigR false (zd (H:Int)) ha hc::Hp.blk hb (.cells #[.bool false,.slice ha (zd (H:Int)).length hc] 27 (0,0))::Hp.blk s7 (.cells (fCL fo) 98 (0,0))::Hp.blk rq (.cells (fCL (zFV false)) 98 (0,0))::Ps))) (fun x _=>4 - (intOf x).toNat)
  case atStart =>
   refine⟨0,rfl,by omega,zFV false,zBV::L,mm,?_,?_,?_,fun x hx=>by simp [hx],?_⟩
   ·simp [FrOk,outq,coF,zFV,zBV]
   ·simp [InL,zFV]
   ·exact HI.out.mono fun x hx=>by simp [hx]
   ·exact z_in (HC.out.ord 9 [6,7,8,3,0,1,4,5])
  case round =>
   clear k0 k1 k2 k3 kl HC
   obtain⟨q,rfl,hq4,fo,L2,mm2,hok,hin,hinv,hmore,h⟩:=hrel
   by_cases hq:q<4
   ·have hqd:decide (((q:Nat):Int)<4)=true:=by simp;omega
    have hix:=fun w1=>HIX.out q hq w1
    have HW:=Lib.hid h
    have HINV:=Lib.hid hinv
    have HOK:=Lib.hid (And.intro hok hin)
    have HMORE:=Lib.hid hmore
    have hfb:=h.f2.blk
    have c0:=hEC hfb 0
    have cl:=lBk hfb
    clear h hfb hinv hok hin hmore
    go_wp2_with fail
    refine (HIH.out _ _ _ _ _ _ HW.out HINV.out (HQ.out q hq)).mono ?_
    rintro e w5 ⟨⟨ok,y0,y1,y2,y3⟩,L3,mm3,rfl,h5,hI5,hs5,hok5,hin5⟩
    clear c0 cl hix
    obtain⟨x14,hx14⟩:∃ x,w5.heap.size=x:=⟨_,rfl⟩
    have h6:=(hAL h5 (fCL (ok,y0,y1,y2,y3)) 98)
    rw [hx14] at h6
    have H6:=Lib.hid (h6.ord 5 [1,2,3,4,0])
    have HI5:=Lib.hid hI5
    have HIN5:=Lib.hid hin5
    have HS5:=Lib.hid hs5
    have HOK5:=Lib.hid hok5
    clear h5 h6 hI5 hin5 hs5 hok5
    simp only [fvV,fCL] at H6 ⊢
    cases ok with
    | false =>
     go_wp2
     go_roundw
     case rel =>
      have hn0:frT n (Tr.q t q)=none:=by
       have h:=HOK5.out.1
       cases hx:frT n (Tr.q t q) with
       | none=>rfl
       | some x=>rw [hx] at h;cases h
      refine⟨q+1,by rw [Int.natCast_add];rfl,by omega,fo,L3,mm3,?_,HOK.out.2.mono HS5.out,HI5.out,fun x hx=>HS5.out _ (HMORE.out x hx),?_⟩
      ·have e:outq n t (q+1)=outq n t q:=by rw [outq,hn0];rfl
       rw [e];exact HOK.out.1
      ·exact H6.out.ord 5 [0,1,2,3]
     case measure=>simp [intOf];omega
    | true =>
     obtain⟨okb,f0,f1,f2,f3⟩:=fo
     obtain⟨X,hX⟩:∃ X,frT n (Tr.q t q)=some X:=by
      cases hx:frT n (Tr.q t q) with
      | none=>have h:=HOK5.out.1;rw [hx] at h;cases h
      | some x=>exact⟨_,rfl⟩
     obtain⟨dx,hdx,hdx2⟩:∃ d:Bool,(((q:Nat):Int) % 2 == 1)=d∧(if q % 2=1 then (H:Int) else 0)=if d then (H:Int) else 0:=by
      by_cases hq2:q % 2=1
      ·exact⟨true,by simp;omega,by simp [hq2]⟩
      ·exact⟨false,by simp;omega,by simp [hq2]⟩
     obtain⟨dy,hdy,hdy2⟩:∃ d:Bool,decide (((q:Nat):Int) ≥ 2)=d∧(if 2≤q then (H:Int) else 0)=if d then (H:Int) else 0:=by
      by_cases hq2:2≤q
      ·exact⟨true,by simp;omega,by simp [hq2]⟩
      ·exact⟨false,by simp;omega,by simp [hq2]⟩
     have HH2:Hid (0<H∧True):=Lib.hid ⟨by rw [← HH.out];exact Nat.pow_pos (by omega),trivial⟩
     have HZ:=Lib.hid (fun (V:Nat) (hV:V<H+H)=>show Zok (V:Int) from zok_lt (k:=n+1) (by rw [Nat.pow_succ,HH.out];omega) (by omega))
     have hok1:=HOK.out.1
     have hok5:=HOK5.out
     rw [hX] at hok5
     simp only [FrOk,coF,Option.getD_some] at hok5
     have HYB:Hid (y0.1<H∧y1.1<H∧y2.1<H∧y3.1<H∧0<H):=Lib.hid (by
      have h1:=frT_in _ hX
      rw [HH.out] at h1
      simp only [inF] at h1
      have:=HH2.out.1
      omega)
     have HFB:Hid (f0.1<H+H∧f1.1<H+H∧f2.1<H+H∧f3.1<H+H):=Lib.hid (by
      have:=HH2.out.1
      cases ho:outq n t q with
      | none=>rw [ho] at hok1;simp only [FrOk,coF,Option.getD_none] at hok1;omega
      | some o =>
       have h1:=outq_in q o ho
       rw [HH.out] at h1
       rw [ho] at hok1
       simp only [FrOk,coF,Option.getD_some] at hok1
       simp only [inF] at h1
       omega)
     obtain⟨G,hG,HGV⟩:∃ G,outq n t (q+1)=some G∧Hid (G=(if okb then min ((y0.1:Int)+if dx then (H:Int) else 0) f0.1 else (y0.1:Int)+if dx then (H:Int) else 0,if okb then min ((y1.1:Int)+if dy then (H:Int) else 0) f1.1 else (y1.1:Int)+if dy then (H:Int) else 0,if okb then max ((y2.1:Int)+if dx then (H:Int) else 0) f2.1 else (y2.1:Int)+if dx then (H:Int) else 0,if okb then max ((y3.1:Int)+if dy then (H:Int) else 0) f3.1 else (y3.1:Int)+if dy then (H:Int) else 0)):=by
      rw [outq,hX,joinF_co,HH.out,hdx2,hdy2]
      refine⟨_,rfl,Lib.hid ?_⟩
      obtain⟨g1,g2,g3,g4,g5⟩:=hok1
      simp only at g1 g2 g3 g4 g5 hok5
      rw [← g1,hok5.2.1,hok5.2.2.1,hok5.2.2.2.1,hok5.2.2.2.2,g2,g3,g4,g5]
     have HG:=Lib.hid hG
     clear hG hok1 hok5 hdx2 hdy2 HH2
     go_wp2
     go_loopw [64] (fun x wr=>∃ z:Int,x=.int .i64 z∧At5 (fun i=>∃ u0 u1 u2 u3 L4,InnerF W b fb rb s ns mm3 x14 (true,y0,y1,y2,y3) G L3 (bigR false (zd (H:Int)) ha hc::Hp.blk hb (.cells #[.bool false,.slice ha (zd (H:Int)).length hc] 27 (0,0))::Hp.blk s7 (.cells (fCL (okb,f0,f1,f2,f3)) 98 (0,0))::Hp.blk rq (.cells (fCL (zFV false)) 98 (0,0))::Ps) i wr u0 u1 u2 u3 L4) z) (fun x _=>4 - (intOf x).toNat)
     case atStart =>
      exact⟨0,rfl,.inl ⟨rfl,y0,y1,y2,y3,L3,H6.out,fun x hx=>hx,HIN5.out,rfl,rfl,rfl,rfl⟩⟩
     case round =>
      clear H6
      obtain⟨z,rfl,hz⟩:=hrel
      rcases hz with ⟨rfl,u0,u1,u2,u3,L4,hI⟩|⟨rfl,u0,u1,u2,u3,L4,hI⟩|⟨rfl,u0,u1,u2,u3,L4,hI⟩|⟨rfl,u0,u1,u2,u3,L4,hI⟩|⟨rfl,u0,u1,u2,u3,L4,hI⟩
      ·
       obtain rfl:y0=u0:=by have h:=hI.g0;simp at h;exact h.symm
       have HIN:=Lib.hid hI
       have hxb:=hI.has.f4.blk
       simp only [fCL] at hxb
       have x0:=hEC hxb 0
       have x1:=hEC hxb 1
       have xz0:=hEF hxb 0
       have xz1:=hEF hxb 1
       have xl:=lBk hxb
       have hhb:=hI.has.f6.blk
       have b0:=hEC hhb 0
       have b1:=hEC hhb 1
       have bl:=lBk hhb
       have hsb:=hI.has.f7.blk
       simp only [fCL] at hsb
       have s0:=hEC hsb 0
       have s1:=hEC hsb 1
       have s8:=hEC hsb 8
       have sl:=lBk hsb
       clear hI hxb hhb hsb
       cases dx with
       | true =>
        go_wp2
        (refine wRT (by kernel_rfl) (by kernel_rfl) ?_)
        have HD:=Lib.hid (HIN.out.has.step ((Fr.refl [] _).drew))
        obtain⟨F5,hbig,_⟩:=HD.out.f5.head
        have HBIG:=Lib.hid hbig
        clear hbig
        go_wp2_with fail
        refine (Add_z (in_z' (pool_in (e:=y0) HD.out (by simp [frL]) HIN.out.inl.1)) (in_z HBIG.out) (HZ.out _ (by have:=HYB.out;omega)) (HZ.out _ (by have:=HYB.out;omega)) (by rw [← Int.natCast_add];exact HZ.out _ (by have:=HYB.out;omega))).mono ?_
        rintro e w6 ⟨v7,rfl,hb7,hf⟩
        rw [← Int.natCast_add] at hb7
        obtain⟨V,hV⟩:∃ V,y0.1+H=V:=⟨_,rfl⟩
        rw [hV] at hb7
        obtain⟨a7,c7,rfl,h7⟩:=has_big (z:=((V:Nat):Int)) HD.out hf hb7 (HZ.out _ (by have:=HYB.out;omega))
        rw [show decide (((V:Nat):Int)<0)=false by simp] at h7 ⊢
        have HV:=Lib.hid hV
        clear x0 x1 xz0 xz1 xl s0 s1 s8 sl b0 b1 bl hV hb7 hf HD HBIG
        have hxb:=h7.f5.blk
        simp only [fCL] at hxb
        have x0:=hEC hxb 0
        have x1:=hEC hxb 1
        have xz0:=hEF hxb 0
        have xz1:=hEF hxb 1
        have xl:=lBk hxb
        have H7:=Lib.hid h7
        clear hxb h7
        go_wp2
        refine Strict.intro rfl ?_
        refine abs_k (fun w'=>InnerH W b fb rb s ns mm3 x14 L3 (bigR false (zd (H:Int)) ha hc::Hp.blk hb (.cells #[.bool false,.slice ha (zd (H:Int)).length hc] 27 (0,0))::Hp.blk s7 (.cells (fCL (okb,f0,f1,f2,f3)) 98 (0,0))::Hp.blk rq (.cells (fCL (zFV false)) 98 (0,0))::Ps) w' (V,a7,c7) u1 u2 u3 ((V,a7,c7)::L4)) ⟨(hST (hST (pool_add H7.out).f4 0 (.bool false)) 1 (.slice a7 (zd (V:Int)).length c7)).ord 5 [1,2,3,4,0],fun x hx=>by simp [HIN.out.more x hx],by have h:=HIN.out.inl;simp only [InL] at h ⊢;simp [h]⟩ ?_
        rintro w8 hI8
        have hsb:=hI8.has.f7.blk
        simp only [fCL] at hsb
        have s0:=hEC hsb 0
        have s1:=hEC hsb 1
        have s8:=hEC hsb 8
        have sl:=lBk hsb
        have hxb:=hI8.has.f4.blk
        simp only [fCL] at hxb
        have x0:=hEC hxb 0
        have x1:=hEC hxb 1
        have xz0:=hEF hxb 0
        have xz1:=hEF hxb 1
        have xl:=lBk hxb
        have HIN8:=Lib.hid hI8
        clear hI8 hsb hxb
        cases okb with
        | true =>
         obtain⟨pv,hpv⟩:∃ p,pickV false (V,a7,c7) f0=p:=⟨_,rfl⟩
         have hpG:(pv.1:Int)=G.1:=by
          rw [HGV.out,← hpv]
          first|(have h:=pickV_min (V,a7,c7) f0;rw [h];have:=HV.out;simp;omega)|(have h:=pickV_max (V,a7,c7) f0;rw [h];have:=HV.out;simp;omega)
         have HPG:=Lib.hid hpG
         clear hpG
         go_wp2
         (refine wRT (by kernel_rfl) (by kernel_rfl) ?_)
         have HD:=Lib.hid (HIN8.out.has.step ((Fr.refl [] _).drew))
         go_wp2_with fail
         refine (less_q false (pool_in (e:=(V,a7,c7)) HD.out (by simp [frL]) HIN8.out.inl.1) (pool_in (e:=f0) HD.out (by simp [frL]) (HIN8.out.more _ (HS5.out _ HOK.out.2.1))) (HZ.out _ (by have:=HYB.out;have:=HV.out;simp only;omega)) (HZ.out _ (by have:=HFB.out;omega))).mono ?_
         rintro e w9 ⟨rfl,hf⟩
         have h9:=HD.out.step hf
         clear x0 x1 xz0 xz1 xl s0 s1 s8 sl hf
         have hxb:=h9.f4.blk
         simp only [fCL] at hxb
         have x0:=hEC hxb 0
         have x1:=hEC hxb 1
         have xz0:=hEF hxb 0
         have xz1:=hEF hxb 1
         have xl:=lBk hxb
         have H9:=Lib.hid h9
         clear hxb h9 HD
         simp only [bvV]
         go_wp2
         refine Strict.intro rfl ?_
         refine abs_k (fun w'=>InnerH W b fb rb s ns mm3 x14 L3 (bigR false (zd (H:Int)) ha hc::Hp.blk hb (.cells #[.bool false,.slice ha (zd (H:Int)).length hc] 27 (0,0))::Hp.blk s7 (.cells (fCL (true,f0,f1,f2,f3)) 98 (0,0))::Hp.blk rq (.cells (fCL (zFV false)) 98 (0,0))::Ps) w' pv u1 u2 u3 ((V,a7,c7)::L4)) ⟨(hST (hST H9.out.f4 0 (.bool false)) 1 (.slice pv.2.1 (zd (pv.1:Int)).length pv.2.2)).ord 5 [1,2,3,4,0],HIN8.out.more,by have h:=HIN8.out.inl;simp only [InL] at h ⊢;simp only [h,and_true,true_and];exact hpv▸pickV_mem (x:=(V,a7,c7)) (y:=f0) HIN8.out.inl.1 (HIN8.out.more _ (HS5.out _ HOK.out.2.1))⟩ ?_
         rintro w10 hI10
         have HIN10:=Lib.hid hI10
         clear hI10
         go_wp2
         go_roundw
         case rel=>exact⟨1,rfl,.inr (.inl ⟨rfl,_,_,_,_,_,HIN10.out.has,HIN10.out.more,HIN10.out.inl,HPG.out,HIN.out.g1,HIN.out.g2,HIN.out.g3⟩)⟩
         case measure=>simp [intOf]
        | false =>
         have hpG:(V:Int)=G.1:=by
          rw [HGV.out];have:=HV.out;simp;omega
         have HPG:=Lib.hid hpG
         clear hpG
         go_wp2
         go_roundw
         case rel=>exact⟨1,rfl,.inr (.inl ⟨rfl,_,_,_,_,_,HIN8.out.has,HIN8.out.more,HIN8.out.inl,HPG.out,HIN.out.g1,HIN.out.g2,HIN.out.g3⟩)⟩
         case measure=>simp [intOf]
       | false =>
        cases okb with
        | true =>
         obtain⟨pv,hpv⟩:∃ p,pickV false y0 f0=p:=⟨_,rfl⟩
         have hpG:(pv.1:Int)=G.1:=by
          rw [HGV.out,← hpv]
          first|(have h:=pickV_min y0 f0;rw [h];simp;omega)|(have h:=pickV_max y0 f0;rw [h];simp;omega)
         have HPG:=Lib.hid hpG
         clear hpG
         go_wp2
         (refine wRT (by kernel_rfl) (by kernel_rfl) ?_)
         have HD:=Lib.hid (HIN.out.has.step ((Fr.refl [] _).drew))
         go_wp2_with fail
         refine (less_q false (pool_in (e:=y0) HD.out (by simp [frL]) HIN.out.inl.1) (pool_in (e:=f0) HD.out (by simp [frL]) (HIN.out.more _ (HS5.out _ HOK.out.2.1))) (HZ.out _ (by have:=HYB.out;omega)) (HZ.out _ (by have:=HFB.out;omega))).mono ?_
         rintro e w9 ⟨rfl,hf⟩
         have h9:=HD.out.step hf
         clear x0 x1 xz0 xz1 xl s0 s1 s8 sl hf
         have hxb:=h9.f4.blk
         simp only [fCL] at hxb
         have x0:=hEC hxb 0
         have x1:=hEC hxb 1
         have xz0:=hEF hxb 0
         have xz1:=hEF hxb 1
         have xl:=lBk hxb
         have H9:=Lib.hid h9
         clear hxb h9 HD
         simp only [bvV]
         go_wp2
         refine Strict.intro rfl ?_
         refine abs_k (fun w'=>InnerH W b fb rb s ns mm3 x14 L3 (bigR false (zd (H:Int)) ha hc::Hp.blk hb (.cells #[.bool false,.slice ha (zd (H:Int)).length hc] 27 (0,0))::Hp.blk s7 (.cells (fCL (true,f0,f1,f2,f3)) 98 (0,0))::Hp.blk rq (.cells (fCL (zFV false)) 98 (0,0))::Ps) w' pv u1 u2 u3 L4) ⟨(hST (hST H9.out.f4 0 (.bool false)) 1 (.slice pv.2.1 (zd (pv.1:Int)).length pv.2.2)).ord 5 [1,2,3,4,0],HIN.out.more,by have h:=HIN.out.inl;simp only [InL] at h ⊢;simp only [h,and_true,true_and];exact hpv▸pickV_mem (x:=y0) (y:=f0) HIN.out.inl.1 (HIN.out.more _ (HS5.out _ HOK.out.2.1))⟩ ?_
         rintro w10 hI10
         have HIN10:=Lib.hid hI10
         clear hI10
         go_wp2
         go_roundw
         case rel=>exact⟨1,rfl,.inr (.inl ⟨rfl,_,_,_,_,_,HIN10.out.has,HIN10.out.more,HIN10.out.inl,HPG.out,HIN.out.g1,HIN.out.g2,HIN.out.g3⟩)⟩
         case measure=>simp [intOf]
        | false =>
         have hpG:(y0.1:Int)=G.1:=by
          rw [HGV.out];simp
         have HPG:=Lib.hid hpG
         clear hpG
         go_wp2
         go_roundw
         case rel=>exact⟨1,rfl,.inr (.inl ⟨rfl,_,_,_,_,_,HIN.out.has,HIN.out.more,HIN.out.inl,HPG.out,HIN.out.g1,HIN.out.g2,HIN.out.g3⟩)⟩
         case measure=>simp [intOf]
      ·
       obtain rfl:y1=u1:=by have h:=hI.g1;simp at h;exact h.symm
       have HIN:=Lib.hid hI
       have hxb:=hI.has.f4.blk
       simp only [fCL] at hxb
       have x0:=hEC hxb 2
       have x1:=hEC hxb 3
       have xz0:=hEF hxb 2
       have xz1:=hEF hxb 3
       have xl:=lBk hxb
       have hhb:=hI.has.f6.blk
       have b0:=hEC hhb 0
       have b1:=hEC hhb 1
       have bl:=lBk hhb
       have hsb:=hI.has.f7.blk
       simp only [fCL] at hsb
       have s0:=hEC hsb 2
       have s1:=hEC hsb 3
       have s8:=hEC hsb 8
       have sl:=lBk hsb
       clear hI hxb hhb hsb
       cases dy with
       | true =>
        go_wp2
        (refine wRT (by kernel_rfl) (by kernel_rfl) ?_)
        have HD:=Lib.hid (HIN.out.has.step ((Fr.refl [] _).drew))
        obtain⟨F5,hbig,_⟩:=HD.out.f5.head
        have HBIG:=Lib.hid hbig
        clear hbig
        go_wp2_with fail
        refine (Add_z (in_z' (pool_in (e:=y1) HD.out (by simp [frL]) HIN.out.inl.2.1)) (in_z HBIG.out) (HZ.out _ (by have:=HYB.out;omega)) (HZ.out _ (by have:=HYB.out;omega)) (by rw [← Int.natCast_add];exact HZ.out _ (by have:=HYB.out;omega))).mono ?_
        rintro e w6 ⟨v7,rfl,hb7,hf⟩
        rw [← Int.natCast_add] at hb7
        obtain⟨V,hV⟩:∃ V,y1.1+H=V:=⟨_,rfl⟩
        rw [hV] at hb7
        obtain⟨a7,c7,rfl,h7⟩:=has_big (z:=((V:Nat):Int)) HD.out hf hb7 (HZ.out _ (by have:=HYB.out;omega))
        rw [show decide (((V:Nat):Int)<0)=false by simp] at h7 ⊢
        have HV:=Lib.hid hV
        clear x0 x1 xz0 xz1 xl s0 s1 s8 sl b0 b1 bl hV hb7 hf HD HBIG
        have hxb:=h7.f5.blk
        simp only [fCL] at hxb
        have x0:=hEC hxb 2
        have x1:=hEC hxb 3
        have xz0:=hEF hxb 2
        have xz1:=hEF hxb 3
        have xl:=lBk hxb
        have H7:=Lib.hid h7
        clear hxb h7
        go_wp2
        refine Strict.intro rfl ?_
        refine abs_k (fun w'=>InnerH W b fb rb s ns mm3 x14 L3 (bigR false (zd (H:Int)) ha hc::Hp.blk hb (.cells #[.bool false,.slice ha (zd (H:Int)).length hc] 27 (0,0))::Hp.blk s7 (.cells (fCL (okb,f0,f1,f2,f3)) 98 (0,0))::Hp.blk rq (.cells (fCL (zFV false)) 98 (0,0))::Ps) w' u0 (V,a7,c7) u2 u3 ((V,a7,c7)::L4)) ⟨(hST (hST (pool_add H7.out).f4 2 (.bool false)) 3 (.slice a7 (zd (V:Int)).length c7)).ord 5 [1,2,3,4,0],fun x hx=>by simp [HIN.out.more x hx],by have h:=HIN.out.inl;simp only [InL] at h ⊢;simp [h]⟩ ?_
        rintro w8 hI8
        have hsb:=hI8.has.f7.blk
        simp only [fCL] at hsb
        have s0:=hEC hsb 2
        have s1:=hEC hsb 3
        have s8:=hEC hsb 8
        have sl:=lBk hsb
        have hxb:=hI8.has.f4.blk
        simp only [fCL] at hxb
        have x0:=hEC hxb 2
        have x1:=hEC hxb 3
        have xz0:=hEF hxb 2
        have xz1:=hEF hxb 3
        have xl:=lBk hxb
        have HIN8:=Lib.hid hI8
        clear hI8 hsb hxb
        cases okb with
        | true =>
         obtain⟨pv,hpv⟩:∃ p,pickV false (V,a7,c7) f1=p:=⟨_,rfl⟩
         have hpG:(pv.1:Int)=G.2.1:=by
          rw [HGV.out,← hpv]
          first|(have h:=pickV_min (V,a7,c7) f1;rw [h];have:=HV.out;simp;omega)|(have h:=pickV_max (V,a7,c7) f1;rw [h];have:=HV.out;simp;omega)
         have HPG:=Lib.hid hpG
         clear hpG
         go_wp2
         (refine wRT (by kernel_rfl) (by kernel_rfl) ?_)
         have HD:=Lib.hid (HIN8.out.has.step ((Fr.refl [] _).drew))
         go_wp2_with fail
         refine (less_q false (pool_in (e:=(V,a7,c7)) HD.out (by simp [frL]) HIN8.out.inl.2.1) (pool_in (e:=f1) HD.out (by simp [frL]) (HIN8.out.more _ (HS5.out _ HOK.out.2.2.1))) (HZ.out _ (by have:=HYB.out;have:=HV.out;simp only;omega)) (HZ.out _ (by have:=HFB.out;omega))).mono ?_
         rintro e w9 ⟨rfl,hf⟩
         have h9:=HD.out.step hf
         clear x0 x1 xz0 xz1 xl s0 s1 s8 sl hf
         have hxb:=h9.f4.blk
         simp only [fCL] at hxb
         have x0:=hEC hxb 2
         have x1:=hEC hxb 3
         have xz0:=hEF hxb 2
         have xz1:=hEF hxb 3
         have xl:=lBk hxb
         have H9:=Lib.hid h9
         clear hxb h9 HD
         simp only [bvV]
         go_wp2
         refine Strict.intro rfl ?_
         refine abs_k (fun w'=>InnerH W b fb rb s ns mm3 x14 L3 (bigR false (zd (H:Int)) ha hc::Hp.blk hb (.cells #[.bool false,.slice ha (zd (H:Int)).length hc] 27 (0,0))::Hp.blk s7 (.cells (fCL (true,f0,f1,f2,f3)) 98 (0,0))::Hp.blk rq (.cells (fCL (zFV false)) 98 (0,0))::Ps) w' u0 pv u2 u3 ((V,a7,c7)::L4)) ⟨(hST (hST H9.out.f4 2 (.bool false)) 3 (.slice pv.2.1 (zd (pv.1:Int)).length pv.2.2)).ord 5 [1,2,3,4,0],HIN8.out.more,by have h:=HIN8.out.inl;simp only [InL] at h ⊢;simp only [h,and_true,true_and];exact hpv▸pickV_mem (x:=(V,a7,c7)) (y:=f1) HIN8.out.inl.2.1 (HIN8.out.more _ (HS5.out _ HOK.out.2.2.1))⟩ ?_
         rintro w10 hI10
         have HIN10:=Lib.hid hI10
         clear hI10
         go_wp2
         go_roundw
         case rel=>exact⟨2,rfl,.inr (.inr (.inl ⟨rfl,_,_,_,_,_,HIN10.out.has,HIN10.out.more,HIN10.out.inl,HIN.out.g0,HPG.out,HIN.out.g2,HIN.out.g3⟩))⟩
         case measure=>simp [intOf]
        | false =>
         have hpG:(V:Int)=G.2.1:=by
          rw [HGV.out];have:=HV.out;simp;omega
         have HPG:=Lib.hid hpG
         clear hpG
         go_wp2
         go_roundw
         case rel=>exact⟨2,rfl,.inr (.inr (.inl ⟨rfl,_,_,_,_,_,HIN8.out.has,HIN8.out.more,HIN8.out.inl,HIN.out.g0,HPG.out,HIN.out.g2,HIN.out.g3⟩))⟩
         case measure=>simp [intOf]
       | false =>
        cases okb with
        | true =>
         obtain⟨pv,hpv⟩:∃ p,pickV false y1 f1=p:=⟨_,rfl⟩
         have hpG:(pv.1:Int)=G.2.1:=by
          rw [HGV.out,← hpv]
          first|(have h:=pickV_min y1 f1;rw [h];simp;omega)|(have h:=pickV_max y1 f1;rw [h];simp;omega)
         have HPG:=Lib.hid hpG
         clear hpG
         go_wp2
         (refine wRT (by kernel_rfl) (by kernel_rfl) ?_)
         have HD:=Lib.hid (HIN.out.has.step ((Fr.refl [] _).drew))
         go_wp2_with fail
         refine (less_q false (pool_in (e:=y1) HD.out (by simp [frL]) HIN.out.inl.2.1) (pool_in (e:=f1) HD.out (by simp [frL]) (HIN.out.more _ (HS5.out _ HOK.out.2.2.1))) (HZ.out _ (by have:=HYB.out;omega)) (HZ.out _ (by have:=HFB.out;omega))).mono ?_
         rintro e w9 ⟨rfl,hf⟩
         have h9:=HD.out.step hf
         clear x0 x1 xz0 xz1 xl s0 s1 s8 sl hf
         have hxb:=h9.f4.blk
         simp only [fCL] at hxb
         have x0:=hEC hxb 2
         have x1:=hEC hxb 3
         have xz0:=hEF hxb 2
         have xz1:=hEF hxb 3
         have xl:=lBk hxb
         have H9:=Lib.hid h9
         clear hxb h9 HD
         simp only [bvV]
         go_wp2
         refine Strict.intro rfl ?_
         refine abs_k (fun w'=>InnerH W b fb rb s ns mm3 x14 L3 (bigR false (zd (H:Int)) ha hc::Hp.blk hb (.cells #[.bool false,.slice ha (zd (H:Int)).length hc] 27 (0,0))::Hp.blk s7 (.cells (fCL (true,f0,f1,f2,f3)) 98 (0,0))::Hp.blk rq (.cells (fCL (zFV false)) 98 (0,0))::Ps) w' u0 pv u2 u3 L4) ⟨(hST (hST H9.out.f4 2 (.bool false)) 3 (.slice pv.2.1 (zd (pv.1:Int)).length pv.2.2)).ord 5 [1,2,3,4,0],HIN.out.more,by have h:=HIN.out.inl;simp only [InL] at h ⊢;simp only [h,and_true,true_and];exact hpv▸pickV_mem (x:=y1) (y:=f1) HIN.out.inl.2.1 (HIN.out.more _ (HS5.out _ HOK.out.2.2.1))⟩ ?_
         rintro w10 hI10
         have HIN10:=Lib.hid hI10
         clear hI10
         go_wp2
         go_roundw
         case rel=>exact⟨2,rfl,.inr (.inr (.inl ⟨rfl,_,_,_,_,_,HIN10.out.has,HIN10.out.more,HIN10.out.inl,HIN.out.g0,HPG.out,HIN.out.g2,HIN.out.g3⟩))⟩
         case measure=>simp [intOf]
        | false =>
         have hpG:(y1.1:Int)=G.2.1:=by
          rw [HGV.out];simp
         have HPG:=Lib.hid hpG
         clear hpG
         go_wp2
         go_roundw
         case rel=>exact⟨2,rfl,.inr (.inr (.inl ⟨rfl,_,_,_,_,_,HIN.out.has,HIN.out.more,HIN.out.inl,HIN.out.g0,HPG.out,HIN.out.g2,HIN.out.g3⟩))⟩
         case measure=>simp [intOf]
      ·
       obtain rfl:y2=u2:=by have h:=hI.g2;simp at h;exact h.symm
       have HIN:=Lib.hid hI
       have hxb:=hI.has.f4.blk
       simp only [fCL] at hxb
       have x0:=hEC hxb 4
       have x1:=hEC hxb 5
       have xz0:=hEF hxb 4
       have xz1:=hEF hxb 5
       have xl:=lBk hxb
       have hhb:=hI.has.f6.blk
       have b0:=hEC hhb 0
       have b1:=hEC hhb 1
       have bl:=lBk hhb
       have hsb:=hI.has.f7.blk
       simp only [fCL] at hsb
       have s0:=hEC hsb 4
       have s1:=hEC hsb 5
       have s8:=hEC hsb 8
       have sl:=lBk hsb
       clear hI hxb hhb hsb
       cases dx with
       | true =>
        go_wp2
        (refine wRT (by kernel_rfl) (by kernel_rfl) ?_)
        have HD:=Lib.hid (HIN.out.has.step ((Fr.refl [] _).drew))
        obtain⟨F5,hbig,_⟩:=HD.out.f5.head
        have HBIG:=Lib.hid hbig
        clear hbig
        go_wp2_with fail
        refine (Add_z (in_z' (pool_in (e:=y2) HD.out (by simp [frL]) HIN.out.inl.2.2.1)) (in_z HBIG.out) (HZ.out _ (by have:=HYB.out;omega)) (HZ.out _ (by have:=HYB.out;omega)) (by rw [← Int.natCast_add];exact HZ.out _ (by have:=HYB.out;omega))).mono ?_
        rintro e w6 ⟨v7,rfl,hb7,hf⟩
        rw [← Int.natCast_add] at hb7
        obtain⟨V,hV⟩:∃ V,y2.1+H=V:=⟨_,rfl⟩
        rw [hV] at hb7
        obtain⟨a7,c7,rfl,h7⟩:=has_big (z:=((V:Nat):Int)) HD.out hf hb7 (HZ.out _ (by have:=HYB.out;omega))
        rw [show decide (((V:Nat):Int)<0)=false by simp] at h7 ⊢
        have HV:=Lib.hid hV
        clear x0 x1 xz0 xz1 xl s0 s1 s8 sl b0 b1 bl hV hb7 hf HD HBIG
        have hxb:=h7.f5.blk
        simp only [fCL] at hxb
        have x0:=hEC hxb 4
        have x1:=hEC hxb 5
        have xz0:=hEF hxb 4
        have xz1:=hEF hxb 5
        have xl:=lBk hxb
        have H7:=Lib.hid h7
        clear hxb h7
        go_wp2
        refine Strict.intro rfl ?_
        refine abs_k (fun w'=>InnerH W b fb rb s ns mm3 x14 L3 (bigR false (zd (H:Int)) ha hc::Hp.blk hb (.cells #[.bool false,.slice ha (zd (H:Int)).length hc] 27 (0,0))::Hp.blk s7 (.cells (fCL (okb,f0,f1,f2,f3)) 98 (0,0))::Hp.blk rq (.cells (fCL (zFV false)) 98 (0,0))::Ps) w' u0 u1 (V,a7,c7) u3 ((V,a7,c7)::L4)) ⟨(hST (hST (pool_add H7.out).f4 4 (.bool false)) 5 (.slice a7 (zd (V:Int)).length c7)).ord 5 [1,2,3,4,0],fun x hx=>by simp [HIN.out.more x hx],by have h:=HIN.out.inl;simp only [InL] at h ⊢;simp [h]⟩ ?_
        rintro w8 hI8
        have hsb:=hI8.has.f7.blk
        simp only [fCL] at hsb
        have s0:=hEC hsb 4
        have s1:=hEC hsb 5
        have s8:=hEC hsb 8
        have sl:=lBk hsb
        have hxb:=hI8.has.f4.blk
        simp only [fCL] at hxb
        have x0:=hEC hxb 4
        have x1:=hEC hxb 5
        have xz0:=hEF hxb 4
        have xz1:=hEF hxb 5
        have xl:=lBk hxb
        have HIN8:=Lib.hid hI8
        clear hI8 hsb hxb
        cases okb with
        | true =>
         obtain⟨pv,hpv⟩:∃ p,pickV true (V,a7,c7) f2=p:=⟨_,rfl⟩
         have hpG:(pv.1:Int)=G.2.2.1:=by
          rw [HGV.out,← hpv]
          first|(have h:=pickV_min (V,a7,c7) f2;rw [h];have:=HV.out;simp;omega)|(have h:=pickV_max (V,a7,c7) f2;rw [h];have:=HV.out;simp;omega)
         have HPG:=Lib.hid hpG
         clear hpG
         go_wp2
         (refine wRT (by kernel_rfl) (by kernel_rfl) ?_)
         have HD:=Lib.hid (HIN8.out.has.step ((Fr.refl [] _).drew))
         go_wp2_with fail
         refine (less_q true (pool_in (e:=(V,a7,c7)) HD.out (by simp [frL]) HIN8.out.inl.2.2.1) (pool_in (e:=f2) HD.out (by simp [frL]) (HIN8.out.more _ (HS5.out _ HOK.out.2.2.2.1))) (HZ.out _ (by have:=HYB.out;have:=HV.out;simp only;omega)) (HZ.out _ (by have:=HFB.out;omega))).mono ?_
         rintro e w9 ⟨rfl,hf⟩
         have h9:=HD.out.step hf
         clear x0 x1 xz0 xz1 xl s0 s1 s8 sl hf
         have hxb:=h9.f4.blk
         simp only [fCL] at hxb
         have x0:=hEC hxb 4
         have x1:=hEC hxb 5
         have xz0:=hEF hxb 4
         have xz1:=hEF hxb 5
         have xl:=lBk hxb
         have H9:=Lib.hid h9
         clear hxb h9 HD
         simp only [bvV]
         go_wp2
         refine Strict.intro rfl ?_
         refine abs_k (fun w'=>InnerH W b fb rb s ns mm3 x14 L3 (bigR false (zd (H:Int)) ha hc::Hp.blk hb (.cells #[.bool false,.slice ha (zd (H:Int)).length hc] 27 (0,0))::Hp.blk s7 (.cells (fCL (true,f0,f1,f2,f3)) 98 (0,0))::Hp.blk rq (.cells (fCL (zFV false)) 98 (0,0))::Ps) w' u0 u1 pv u3 ((V,a7,c7)::L4)) ⟨(hST (hST H9.out.f4 4 (.bool false)) 5 (.slice pv.2.1 (zd (pv.1:Int)).length pv.2.2)).ord 5 [1,2,3,4,0],HIN8.out.more,by have h:=HIN8.out.inl;simp only [InL] at h ⊢;simp only [h,and_true,true_and];exact hpv▸pickV_mem (x:=(V,a7,c7)) (y:=f2) HIN8.out.inl.2.2.1 (HIN8.out.more _ (HS5.out _ HOK.out.2.2.2.1))⟩ ?_
         rintro w10 hI10
         have HIN10:=Lib.hid hI10
         clear hI10
         go_wp2
         go_roundw
         case rel=>exact⟨3,rfl,.inr (.inr (.inr (.inl ⟨rfl,_,_,_,_,_,HIN10.out.has,HIN10.out.more,HIN10.out.inl,HIN.out.g0,HIN.out.g1,HPG.out,HIN.out.g3⟩)))⟩
         case measure=>simp [intOf]
        | false =>
         have hpG:(V:Int)=G.2.2.1:=by
          rw [HGV.out];have:=HV.out;simp;omega
         have HPG:=Lib.hid hpG
         clear hpG
         go_wp2
         go_roundw
         case rel=>exact⟨3,rfl,.inr (.inr (.inr (.inl ⟨rfl,_,_,_,_,_,HIN8.out.has,HIN8.out.more,HIN8.out.inl,HIN.out.g0,HIN.out.g1,HPG.out,HIN.out.g3⟩)))⟩
         case measure=>simp [intOf]
       | false =>
        cases okb with
        | true =>
         obtain⟨pv,hpv⟩:∃ p,pickV true y2 f2=p:=⟨_,rfl⟩
         have hpG:(pv.1:Int)=G.2.2.1:=by
          rw [HGV.out,← hpv]
          first|(have h:=pickV_min y2 f2;rw [h];simp;omega)|(have h:=pickV_max y2 f2;rw [h];simp;omega)
         have HPG:=Lib.hid hpG
         clear hpG
         go_wp2
         (refine wRT (by kernel_rfl) (by kernel_rfl) ?_)
         have HD:=Lib.hid (HIN.out.has.step ((Fr.refl [] _).drew))
         go_wp2_with fail
         refine (less_q true (pool_in (e:=y2) HD.out (by simp [frL]) HIN.out.inl.2.2.1) (pool_in (e:=f2) HD.out (by simp [frL]) (HIN.out.more _ (HS5.out _ HOK.out.2.2.2.1))) (HZ.out _ (by have:=HYB.out;omega)) (HZ.out _ (by have:=HFB.out;omega))).mono ?_
         rintro e w9 ⟨rfl,hf⟩
         have h9:=HD.out.step hf
         clear x0 x1 xz0 xz1 xl s0 s1 s8 sl hf
         have hxb:=h9.f4.blk
         simp only [fCL] at hxb
         have x0:=hEC hxb 4
         have x1:=hEC hxb 5
         have xz0:=hEF hxb 4
         have xz1:=hEF hxb 5
         have xl:=lBk hxb
         have H9:=Lib.hid h9
         clear hxb h9 HD
         simp only [bvV]
         go_wp2
         refine Strict.intro rfl ?_
         refine abs_k (fun w'=>InnerH W b fb rb s ns mm3 x14 L3 (bigR false (zd (H:Int)) ha hc::Hp.blk hb (.cells #[.bool false,.slice ha (zd (H:Int)).length hc] 27 (0,0))::Hp.blk s7 (.cells (fCL (true,f0,f1,f2,f3)) 98 (0,0))::Hp.blk rq (.cells (fCL (zFV false)) 98 (0,0))::Ps) w' u0 u1 pv u3 L4) ⟨(hST (hST H9.out.f4 4 (.bool false)) 5 (.slice pv.2.1 (zd (pv.1:Int)).length pv.2.2)).ord 5 [1,2,3,4,0],HIN.out.more,by have h:=HIN.out.inl;simp only [InL] at h ⊢;simp only [h,and_true,true_and];exact hpv▸pickV_mem (x:=y2) (y:=f2) HIN.out.inl.2.2.1 (HIN.out.more _ (HS5.out _ HOK.out.2.2.2.1))⟩ ?_
         rintro w10 hI10
         have HIN10:=Lib.hid hI10
         clear hI10
         go_wp2
         go_roundw
         case rel=>exact⟨3,rfl,.inr (.inr (.inr (.inl ⟨rfl,_,_,_,_,_,HIN10.out.has,HIN10.out.more,HIN10.out.inl,HIN.out.g0,HIN.out.g1,HPG.out,HIN.out.g3⟩)))⟩
         case measure=>simp [intOf]
        | false =>
         have hpG:(y2.1:Int)=G.2.2.1:=by
          rw [HGV.out];simp
         have HPG:=Lib.hid hpG
         clear hpG
         go_wp2
         go_roundw
         case rel=>exact⟨3,rfl,.inr (.inr (.inr (.inl ⟨rfl,_,_,_,_,_,HIN.out.has,HIN.out.more,HIN.out.inl,HIN.out.g0,HIN.out.g1,HPG.out,HIN.out.g3⟩)))⟩
         case measure=>simp [intOf]
      ·
       obtain rfl:y3=u3:=by have h:=hI.g3;simp at h;exact h.symm
       have HIN:=Lib.hid hI
       have hxb:=hI.has.f4.blk
       simp only [fCL] at hxb
       have x0:=hEC hxb 6
       have x1:=hEC hxb 7
       have xz0:=hEF hxb 6
       have xz1:=hEF hxb 7
       have xl:=lBk hxb
       have hhb:=hI.has.f6.blk
       have b0:=hEC hhb 0
       have b1:=hEC hhb 1
       have bl:=lBk hhb
       have hsb:=hI.has.f7.blk
       simp only [fCL] at hsb
       have s0:=hEC hsb 6
       have s1:=hEC hsb 7
       have s8:=hEC hsb 8
       have sl:=lBk hsb
       clear hI hxb hhb hsb
       cases dy with
       | true =>
        go_wp2
        (refine wRT (by kernel_rfl) (by kernel_rfl) ?_)
        have HD:=Lib.hid (HIN.out.has.step ((Fr.refl [] _).drew))
        obtain⟨F5,hbig,_⟩:=HD.out.f5.head
        have HBIG:=Lib.hid hbig
        clear hbig
        go_wp2_with fail
        refine (Add_z (in_z' (pool_in (e:=y3) HD.out (by simp [frL]) HIN.out.inl.2.2.2)) (in_z HBIG.out) (HZ.out _ (by have:=HYB.out;omega)) (HZ.out _ (by have:=HYB.out;omega)) (by rw [← Int.natCast_add];exact HZ.out _ (by have:=HYB.out;omega))).mono ?_
        rintro e w6 ⟨v7,rfl,hb7,hf⟩
        rw [← Int.natCast_add] at hb7
        obtain⟨V,hV⟩:∃ V,y3.1+H=V:=⟨_,rfl⟩
        rw [hV] at hb7
        obtain⟨a7,c7,rfl,h7⟩:=has_big (z:=((V:Nat):Int)) HD.out hf hb7 (HZ.out _ (by have:=HYB.out;omega))
        rw [show decide (((V:Nat):Int)<0)=false by simp] at h7 ⊢
        have HV:=Lib.hid hV
        clear x0 x1 xz0 xz1 xl s0 s1 s8 sl b0 b1 bl hV hb7 hf HD HBIG
        have hxb:=h7.f5.blk
        simp only [fCL] at hxb
        have x0:=hEC hxb 6
        have x1:=hEC hxb 7
        have xz0:=hEF hxb 6
        have xz1:=hEF hxb 7
        have xl:=lBk hxb
        have H7:=Lib.hid h7
        clear hxb h7
        go_wp2
        refine Strict.intro rfl ?_
        refine abs_k (fun w'=>InnerH W b fb rb s ns mm3 x14 L3 (bigR false (zd (H:Int)) ha hc::Hp.blk hb (.cells #[.bool false,.slice ha (zd (H:Int)).length hc] 27 (0,0))::Hp.blk s7 (.cells (fCL (okb,f0,f1,f2,f3)) 98 (0,0))::Hp.blk rq (.cells (fCL (zFV false)) 98 (0,0))::Ps) w' u0 u1 u2 (V,a7,c7) ((V,a7,c7)::L4)) ⟨(hST (hST (pool_add H7.out).f4 6 (.bool false)) 7 (.slice a7 (zd (V:Int)).length c7)).ord 5 [1,2,3,4,0],fun x hx=>by simp [HIN.out.more x hx],by have h:=HIN.out.inl;simp only [InL] at h ⊢;simp [h]⟩ ?_
        rintro w8 hI8
        have hsb:=hI8.has.f7.blk
        simp only [fCL] at hsb
        have s0:=hEC hsb 6
        have s1:=hEC hsb 7
        have s8:=hEC hsb 8
        have sl:=lBk hsb
        have hxb:=hI8.has.f4.blk
        simp only [fCL] at hxb
        have x0:=hEC hxb 6
        have x1:=hEC hxb 7
        have xz0:=hEF hxb 6
        have xz1:=hEF hxb 7
        have xl:=lBk hxb
        have HIN8:=Lib.hid hI8
        clear hI8 hsb hxb
        cases okb with
        | true =>
         obtain⟨pv,hpv⟩:∃ p,pickV true (V,a7,c7) f3=p:=⟨_,rfl⟩
         have hpG:(pv.1:Int)=G.2.2.2:=by
          rw [HGV.out,← hpv]
          first|(have h:=pickV_min (V,a7,c7) f3;rw [h];have:=HV.out;simp;omega)|(have h:=pickV_max (V,a7,c7) f3;rw [h];have:=HV.out;simp;omega)
         have HPG:=Lib.hid hpG
         clear hpG
         go_wp2
         (refine wRT (by kernel_rfl) (by kernel_rfl) ?_)
         have HD:=Lib.hid (HIN8.out.has.step ((Fr.refl [] _).drew))
         go_wp2_with fail
         refine (less_q true (pool_in (e:=(V,a7,c7)) HD.out (by simp [frL]) HIN8.out.inl.2.2.2) (pool_in (e:=f3) HD.out (by simp [frL]) (HIN8.out.more _ (HS5.out _ HOK.out.2.2.2.2))) (HZ.out _ (by have:=HYB.out;have:=HV.out;simp only;omega)) (HZ.out _ (by have:=HFB.out;omega))).mono ?_
         rintro e w9 ⟨rfl,hf⟩
         have h9:=HD.out.step hf
         clear x0 x1 xz0 xz1 xl s0 s1 s8 sl hf
         have hxb:=h9.f4.blk
         simp only [fCL] at hxb
         have x0:=hEC hxb 6
         have x1:=hEC hxb 7
         have xz0:=hEF hxb 6
         have xz1:=hEF hxb 7
         have xl:=lBk hxb
         have H9:=Lib.hid h9
         clear hxb h9 HD
         simp only [bvV]
         go_wp2
         refine Strict.intro rfl ?_
         refine abs_k (fun w'=>InnerH W b fb rb s ns mm3 x14 L3 (bigR false (zd (H:Int)) ha hc::Hp.blk hb (.cells #[.bool false,.slice ha (zd (H:Int)).length hc] 27 (0,0))::Hp.blk s7 (.cells (fCL (true,f0,f1,f2,f3)) 98 (0,0))::Hp.blk rq (.cells (fCL (zFV false)) 98 (0,0))::Ps) w' u0 u1 u2 pv ((V,a7,c7)::L4)) ⟨(hST (hST H9.out.f4 6 (.bool false)) 7 (.slice pv.2.1 (zd (pv.1:Int)).length pv.2.2)).ord 5 [1,2,3,4,0],HIN8.out.more,by have h:=HIN8.out.inl;simp only [InL] at h ⊢;simp only [h,and_true,true_and];exact hpv▸pickV_mem (x:=(V,a7,c7)) (y:=f3) HIN8.out.inl.2.2.2 (HIN8.out.more _ (HS5.out _ HOK.out.2.2.2.2))⟩ ?_
         rintro w10 hI10
         have HIN10:=Lib.hid hI10
         clear hI10
         go_wp2
         go_roundw
         case rel=>exact⟨4,rfl,.inr (.inr (.inr (.inr (⟨rfl,_,_,_,_,_,HIN10.out.has,HIN10.out.more,HIN10.out.inl,HIN.out.g0,HIN.out.g1,HIN.out.g2,HPG.out⟩))))⟩
         case measure=>simp [intOf]
        | false =>
         have hpG:(V:Int)=G.2.2.2:=by
          rw [HGV.out];have:=HV.out;simp;omega
         have HPG:=Lib.hid hpG
         clear hpG
         go_wp2
         go_roundw
         case rel=>exact⟨4,rfl,.inr (.inr (.inr (.inr (⟨rfl,_,_,_,_,_,HIN8.out.has,HIN8.out.more,HIN8.out.inl,HIN.out.g0,HIN.out.g1,HIN.out.g2,HPG.out⟩))))⟩
         case measure=>simp [intOf]
       | false =>
        cases okb with
        | true =>
         obtain⟨pv,hpv⟩:∃ p,pickV true y3 f3=p:=⟨_,rfl⟩
         have hpG:(pv.1:Int)=G.2.2.2:=by
          rw [HGV.out,← hpv]
          first|(have h:=pickV_min y3 f3;rw [h];simp;omega)|(have h:=pickV_max y3 f3;rw [h];simp;omega)
         have HPG:=Lib.hid hpG
         clear hpG
         go_wp2
         (refine wRT (by kernel_rfl) (by kernel_rfl) ?_)
         have HD:=Lib.hid (HIN.out.has.step ((Fr.refl [] _).drew))
         go_wp2_with fail
         refine (less_q true (pool_in (e:=y3) HD.out (by simp [frL]) HIN.out.inl.2.2.2) (pool_in (e:=f3) HD.out (by simp [frL]) (HIN.out.more _ (HS5.out _ HOK.out.2.2.2.2))) (HZ.out _ (by have:=HYB.out;omega)) (HZ.out _ (by have:=HFB.out;omega))).mono ?_
         rintro e w9 ⟨rfl,hf⟩
         have h9:=HD.out.step hf
         clear x0 x1 xz0 xz1 xl s0 s1 s8 sl hf
         have hxb:=h9.f4.blk
         simp only [fCL] at hxb
         have x0:=hEC hxb 6
         have x1:=hEC hxb 7
         have xz0:=hEF hxb 6
         have xz1:=hEF hxb 7
         have xl:=lBk hxb
         have H9:=Lib.hid h9
         clear hxb h9 HD
         simp only [bvV]
         go_wp2
         refine Strict.intro rfl ?_
         refine abs_k (fun w'=>InnerH W b fb rb s ns mm3 x14 L3 (bigR false (zd (H:Int)) ha hc::Hp.blk hb (.cells #[.bool false,.slice ha (zd (H:Int)).length hc] 27 (0,0))::Hp.blk s7 (.cells (fCL (true,f0,f1,f2,f3)) 98 (0,0))::Hp.blk rq (.cells (fCL (zFV false)) 98 (0,0))::Ps) w' u0 u1 u2 pv L4) ⟨(hST (hST H9.out.f4 6 (.bool false)) 7 (.slice pv.2.1 (zd (pv.1:Int)).length pv.2.2)).ord 5 [1,2,3,4,0],HIN.out.more,by have h:=HIN.out.inl;simp only [InL] at h ⊢;simp only [h,and_true,true_and];exact hpv▸pickV_mem (x:=y3) (y:=f3) HIN.out.inl.2.2.2 (HIN.out.more _ (HS5.out _ HOK.out.2.2.2.2))⟩ ?_
         rintro w10 hI10
         have HIN10:=Lib.hid hI10
         clear hI10
         go_wp2
         go_roundw
         case rel=>exact⟨4,rfl,.inr (.inr (.inr (.inr (⟨rfl,_,_,_,_,_,HIN10.out.has,HIN10.out.more,HIN10.out.inl,HIN.out.g0,HIN.out.g1,HIN.out.g2,HPG.out⟩))))⟩
         case measure=>simp [intOf]
        | false =>
         have hpG:(y3.1:Int)=G.2.2.2:=by
          rw [HGV.out];simp
         have HPG:=Lib.hid hpG
         clear hpG
         go_wp2
         go_roundw
         case rel=>exact⟨4,rfl,.inr (.inr (.inr (.inr (⟨rfl,_,_,_,_,_,HIN.out.has,HIN.out.more,HIN.out.inl,HIN.out.g0,HIN.out.g1,HIN.out.g2,HPG.out⟩))))⟩
         case measure=>simp [intOf]
      ·have hxb:=hI.has.f4.blk
       simp only [fCL] at hxb
       have r0:=hEC hxb 0
       have r1:=hEC hxb 1
       have r2:=hEC hxb 2
       have r3:=hEC hxb 3
       have r4:=hEC hxb 4
       have r5:=hEC hxb 5
       have r6:=hEC hxb 6
       have r7':=hEC hxb 7
       have r8:=hEC hxb 8
       have rz0:=hEF hxb 0
       have rz1:=hEF hxb 1
       have rz2:=hEF hxb 2
       have rz3:=hEF hxb 3
       have rz4:=hEF hxb 4
       have rz5:=hEF hxb 5
       have rz6:=hEF hxb 6
       have rz7':=hEF hxb 7
       have rz8:=hEF hxb 8
       have rl:=lBk hxb
       have hsb:=hI.has.f7.blk
       simp only [fCL] at hsb
       have s0:=hEC hsb 0
       have s1:=hEC hsb 1
       have s2:=hEC hsb 2
       have s3:=hEC hsb 3
       have s4:=hEC hsb 4
       have s5:=hEC hsb 5
       have s6:=hEC hsb 6
       have s7':=hEC hsb 7
       have s8:=hEC hsb 8
       have sz0:=hEF hsb 0
       have sz1:=hEF hsb 1
       have sz2:=hEF hsb 2
       have sz3:=hEF hsb 3
       have sz4:=hEF hsb 4
       have sz5:=hEF hsb 5
       have sz6:=hEF hsb 6
       have sz7':=hEF hsb 7
       have sz8:=hEF hsb 8
       have sl:=lBk hsb
       have hs0:x14≠s7:=(hI.has.ord 8 [4,7]).blk_ne
       have HI4:=Lib.hid hI
       clear hI hxb hsb
       go_wp2
       go_roundw
       case rel =>
        refine⟨q+1,by rw [Int.natCast_add];rfl,by omega,(true,u0,u1,u2,u3),L4,mm3,?_,HI4.out.inl,HI5.out.mono HI4.out.more,fun x hx=>HI4.out.more _ (HS5.out _ (HMORE.out x hx)),?_⟩
        ·rw [HG.out]
         exact⟨rfl,HI4.out.g0,HI4.out.g1,HI4.out.g2,HI4.out.g3⟩
        ·have h0:=HI4.out.has.f7
         have h1:=hST (hST (hST h0 0 (.bool false)) 1 (.slice u0.2.1 (zd (u0.1:Int)).length u0.2.2)) 2 (.bool false)
         have h2:=hST (hST (hST h1 3 (.slice u1.2.1 (zd (u1.1:Int)).length u1.2.2)) 4 (.bool false)) 5 (.slice u2.2.1 (zd (u2.1:Int)).length u2.2.2)
         have h3:=hST (hST (hST h2 6 (.bool false)) 7 (.slice u3.2.1 (zd (u3.1:Int)).length u3.2.2)) 8 (.bool true)
         have h4:=h3.ord 9 [1,2,3,4,6,7,0,8]
         rw [fcells_store] at h4
         simp only [List.filterMap_cons,List.filterMap_nil,List.getElem?_cons_zero,List.getElem?_cons_succ,List.drop_succ_cons,List.drop_zero,List.cons_append,List.nil_append,List.take_succ_cons,List.take_zero,List.eraseIdx_cons_succ,List.eraseIdx_zero,List.eraseIdx_cons_zero,List.tail_cons,Option.toList_some] at h4
         exact h4
       case measure=>simp [intOf];omega
   ·obtain rfl:q=4:=by omega
    have HOK:=Lib.hid (And.intro hok hin)
    have HINV:=Lib.hid hinv
    have HMORE:=Lib.hid hmore
    have hd4:decide (((4:Nat):Int)<4)=false:=rfl
    obtain⟨okb,f0,f1,f2,f3⟩:=fo
    have h:=h.ord 8 [3,1,6,7,0,2]
    simp only [fcells_zero,fCL,List.filterMap_cons,List.filterMap_nil,List.getElem?_cons_zero,List.getElem?_cons_succ,List.drop_succ_cons,List.drop_zero,List.cons_append,List.nil_append,frL] at h
    clear hok hin hinv hmore
    have hcb:=h.f5.blk
    have c0:=hEC hcb 0
    have c1:=hEC hcb 1
    have cl:=lBk hcb
    have hsb:=h.f2.blk
    have s0:=hEC hsb 0
    have s1:=hEC hsb 1
    have s2:=hEC hsb 2
    have s3:=hEC hsb 3
    have s4:=hEC hsb 4
    have s5:=hEC hsb 5
    have s6:=hEC hsb 6
    have s7':=hEC hsb 7
    have s8:=hEC hsb 8
    have sl:=lBk hsb
    have H4:=Lib.hid h
    clear h hcb hsb
    go_wp2
    (refine wRT (by kernel_rfl) (by kernel_rfl) ?_)
    go_wp2_with (at_mapUpdate;refine upd_fr (id:=id) (f:=(okb,f0,f1,f2,f3)) rfl rfl rfl rfl rfl (H4.out.step (by (repeat first|exact Fr.refl _ _|assumption|apply Fr.n|apply Fr.d|apply Fr.a|refine Fr.s ?_ (.inr (by simp;try omega)) _))) ?_)
    clear c0 c1 cl s0 s1 s2 s3 s4 s5 s6 s7' s8 sl
    intro w8 h5
    have hsb:=h5.f2.blk
    have hr4:=h5.f3.blk
    have s0:=hEC hsb 0
    have s1:=hEC hsb 1
    have s2:=hEC hsb 2
    have s3:=hEC hsb 3
    have s4:=hEC hsb 4
    have s5:=hEC hsb 5
    have s6:=hEC hsb 6
    have s7':=hEC hsb 7
    have s8:=hEC hsb 8
    have sl:=lBk hsb
    have r0:=hEC hr4 0
    have r1:=hEC hr4 1
    have r2:=hEC hr4 2
    have r3:=hEC hr4 3
    have r4:=hEC hr4 4
    have r5:=hEC hr4 5
    have r6:=hEC hr4 6
    have r7':=hEC hr4 7
    have r8:=hEC hr4 8
    have rz0:=hEF hr4 0
    have rz1:=hEF hr4 1
    have rz2:=hEF hr4 2
    have rz3:=hEF hr4 3
    have rz4:=hEF hr4 4
    have rz5:=hEF hr4 5
    have rz6:=hEF hr4 6
    have rz7':=hEF hr4 7
    have rz8:=hEF hr4 8
    have rl:=lBk hr4
    have H5:=Lib.hid h5
    clear h5 hsb hr4 H4
    go_wp2
    refine Strict.intro rfl ?_
    go_wp2
    have hF:=hST (hST (hST (hST (hST (hST (hST (hST (hST H5.out.f3 0 (.bool false)) 1 (.slice f0.2.1 (zd (f0.1:Int)).length f0.2.2)) 2 (.bool false)) 3 (.slice f1.2.1 (zd (f1.1:Int)).length f1.2.2)) 4 (.bool false)) 5 (.slice f2.2.1 (zd (f2.1:Int)).length f2.2.2)) 6 (.bool false)) 7 (.slice f3.2.1 (zd (f3.1:Int)).length f3.2.2)) 8 (.bool okb)
    have HF:=Lib.hid (And.intro hF.blk (hF.drop.f2.drop.f3.f2.f3))
    clear hF
    refine bodyPost_ret (frame_result rfl (b:=rq) (f:=(okb,f0,f1,f2,f3)) rfl ?_) rfl ⟨(okb,f0,f1,f2,f3),L2,put mm2 id (okb,f0,f1,f2,f3),rfl,HF.out.2,?_,HMORE.out,?_,HOK.out.2⟩
    ·exact HF.out.1
    ·intro e he
     rcases mem_put he with h|rfl
     ·exact HINV.out e h
     ·refine⟨?_,HOK.out.2⟩
      show FrOk (frT (tr s ns id).ht (tr s ns id)) _
      rw [HT.out,HFu.out,outq_four HFF.out];exact HOK.out.1
    ·rw [outq_four HFF.out];exact HOK.out.1
theorem frame_q {W:World} {b fb rb:Nat} {s:Int} {ns:List K4}:∀ n:Nat,n≤256→FrameAt W b fb rb s ns n:=by
 intro n
 induction n with
 | zero =>
  intro _ w Ps L mm id t h hI hi
  cases hg:get? mm id with
  | some p=>exact frame_hit h hI hi hg
  | none=>exact frame_leaf h hI hi hg
 | succ n ih =>
  intro hn w Ps L mm id t h hI hi
  cases hg:get? mm id with
  | some p=>exact frame_hit h hI hi hg
  | none=>exact frame_node hn (ih (by omega)) h hI hi hg
end Go.Proofs.YtdanghnadbkhfaaGreat
end
