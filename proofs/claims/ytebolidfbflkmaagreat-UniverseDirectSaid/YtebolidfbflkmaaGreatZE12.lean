/- Own texts of this claim, part 13: no condition. -/
import Derived.IntWalk
import Derived.RegionTactic
import Derived.ChangeAlike
import Derived.Test.YtebolidfbflkmaaGreatZE11
set_option linter.unusedVariables false
set_option linter.unusedSimpArgs false
set_option maxHeartbeats 16000000
set_option maxRecDepth 100000
namespace Go.Proofs.YtebolidfbflkmaaGreat
open Go Go.RowKit Rg Mp Hp Qs Ev Bn
theorem index4_get (kk:K4) (q:Nat) (hq:q<4) (w:World):(Instr.index 132 (.agg #[.int .i64 kk.a,.int .i64 kk.b,.int .i64 kk.c,.int .i64 kk.d]) (.int .i64 (q:Nat))).run Tryz.prog w=.ok (.int .i64 (kk.get q)) w:=by
 have:q=0∨q=1∨q=2∨q=3:=o_
 rcases this with rfl|rfl|rfl|rfl
 ·exact U0 w _ _ _ _
 ·exact Tz w _ _ _ _
 ·exact Ty w _ _ _ _
 ·exact Tx w _ _ _ _
def N1 (n:Nat) (t:Tr):Nat→Option Frm
 | 0=>none
 | q+1=>Fb (N1 n t q) (frT n (Tr.q t q)) (if q % 2=1 then ((2 ^ n:Nat):Int) else 0) (if 2≤q then ((2 ^ n:Nat):Int) else 0)
variable {n:Nat}{t:Tr}
theorem Qw (h:Full (n+1) t):frT (n+1) t=N1 n t 4:=by
 cases t with
 | leaf v=>exact h.elim
 | node a b c d=>simp [N1,frT,Tr.q]
theorem Vf {n:Nat} {t:Tr}:∀ (q:Nat) (f:Frm),N1 n t q=some f→inF ((2 ^ n:Nat)+(2 ^ n:Nat):Int) f
 | 0,f,h=>by simp [N1] at h
 | q+1,f,h=>by have hp:=Nat.pow_pos (n:=n) (show 0<2 by omega);exact Jt (h:=((2 ^ n:Nat):Int)) (Vf q) (Na (t:=Tr.q t q)) (by split<;>omega) (by split<;>omega) (by split<;>omega) (by split<;>omega) f h
theorem zok_lt {V k:Nat} (h:V<2 ^ k) (hk:k≤2047):Zok (V:Int):=E7 (Bh hk) (by rw [Int.natAbs_natCast,Int.natAbs_natCast];omega)
structure InnerH (W:World) (b fb rb:Nat) (s:Int) (ns:List K4) (mm:List (Int×FV)) (x14:Nat) (Lb:List BV) (Ps:List Res) (wr:World) (y0 y1 y2 y3:BV) (L':List BV):Prop where
 has:Has W wr (frL b fb rb s ns L' mm (Hp.blk x14 (.cells (fCL (true,y0,y1,y2,y3)) 172 (0,0))::Ps))
 more:∀ x∈Lb,x∈L'
 inl:InL L' (true,y0,y1,y2,y3)
structure InnerF (W:World) (b fb rb:Nat) (s:Int) (ns:List K4) (mm:List (Int×FV)) (x14:Nat) (f:FV) (G:Frm) (Lb:List BV) (Ps:List Res) (i:Nat) (wr:World) (y0 y1 y2 y3:BV) (L':List BV):Prop where
 has:Has W wr (frL b fb rb s ns L' mm (Hp.blk x14 (.cells (fCL (true,y0,y1,y2,y3)) 172 (0,0))::Ps))
 more:∀ x∈Lb,x∈L'
 inl:InL L' (true,y0,y1,y2,y3)
 g0:if 0<i then (y0.1:Int)=G.1 else y0=f.2.1
 g1:if 1<i then (y1.1:Int)=G.2.1 else y1=f.2.2.1
 g2:if 2<i then (y2.1:Int)=G.2.2.1 else y2=f.2.2.2.1
 g3:if 3<i then (y3.1:Int)=G.2.2.2 else y3=f.2.2.2.2
variable {W w w':World}{Ps:List Res}
theorem Kg {neg:Bool} {ds:List Nat} {a:Option Addr} {c:Nat} (h:Has W w Ps) (hf:Fr [] w w') (hb:BigIn w' neg ds a c∧∀ g,(Value.slice a ds.length c).ownBlock=some g→w.heap.size≤g):Has W w' (B4 neg ds a c::Ps) :=
 h.new hf (F:=if ds.length=0 then [] else (Value.slice a ds.length c).ownBlock.toList) ⟨hb.1,rfl⟩ fun x hx=>by
  split at hx;·cases hx
  ·exact hb.2 x (by simpa using hx)
theorem shift_in {H:Nat} (hH:2 ^ n=H) (hn:n≤2047) {v:Value} (hb:BigZ w (fun _=>True) v 1):Calls Tryz.prog 95 #[v,.int .i64 n] w fun e w'=>∃ a c,e=.returned (.tuple #[.agg #[.bool false,.slice a (zd (H:Int)).length c],.int .i64 0])∧(BigIn w' false (zd (H:Int)) a c∧∀ g,(Value.slice a (zd (H:Int)).length c).ownBlock=some g→w.heap.size≤g)∧Fr [] w w':=by
 refine (So hb hn).mono ?_;rw [hH];rintro e w' ⟨v,rfl,⟨a,c,rfl,h1,h2,h3⟩,hf⟩;refine⟨a,c,?_,⟨⟨h3,E8 _,h1,?_⟩,h2⟩,hf⟩;·rw [show decide (((H:Nat):Int)<0)=false by simp]
 ·have:=D7 (z:=((2 ^ n:Nat):Int)) (Bh hn);rw [hH] at this;omega
variable {b:Nat}
theorem _root_.Go.Proofs.Hp.Has.blk_ne {a:Nat} {o1 o2:Obj} (h:Has W w (Hp.blk a o1::Hp.blk b o2::Ps)):a≠b:=by obtain⟨F,⟨F1,F2,h1,⟨G1,G2,g1,g2,g3,rfl⟩,h3,rfl⟩,hf,hge⟩:=h;obtain⟨_,rfl⟩:=h1;obtain⟨_,rfl⟩:=g1;intro e;exact h3 a i_ (by simp [e])
theorem fcells_store (f:FV) (ok:Bool) (u0 u1 u2 u3:BV):(((((((((fCL f).setIfInBounds 0 (.bool false)).setIfInBounds 1 (.slice u0.2.1 (zd (u0.1:Int)).length u0.2.2)).setIfInBounds 2 (.bool false)).setIfInBounds 3 (.slice u1.2.1 (zd (u1.1:Int)).length u1.2.2)).setIfInBounds 4 (.bool false)).setIfInBounds 5 (.slice u2.2.1 (zd (u2.1:Int)).length u2.2.2)).setIfInBounds 6 (.bool false)).setIfInBounds 7 (.slice u3.2.1 (zd (u3.1:Int)).length u3.2.2)).setIfInBounds 8 (.bool ok)=fCL (ok,u0,u1,u2,u3):=by simp [fCL]
theorem J9 {K:Act→World→Prop} {a:Act} (F:World→Prop) (h:F w) (k:∀ w,F w→K a w):K a w:=k w h
theorem joinF_co (o:Option Frm) (x:Frm) (dx dy:Int):Fb o (some x) dx dy=some (if o.isSome then min (x.1+dx) (coF o).1 else x.1+dx,if o.isSome then min (x.2.1+dy) (coF o).2.1 else x.2.1+dy,if o.isSome then max (x.2.2.1+dx) (coF o).2.2.1 else x.2.2.1+dx,if o.isSome then max (x.2.2.2+dy) (coF o).2.2.2 else x.2.2.2+dy):=by cases o<;>rfl
variable {fb rb:Nat}{s:Int}{ns:List K4}
theorem frame_node (hn:n+1≤256) (ih:X3 W b fb rb s ns n) {L:List BV} {mm:List (Int×FV)} {id:Int} (h:Has W w (frL b fb rb s ns L mm Ps)) (hI:FInv s ns L mm) (hi:Is s ns (n+1) id t) (hg:get? mm id=none) :
  Calls Tryz.prog 114 #[.pointer (some ⟨fb,0,none⟩),.int .i64 id] w (Kp W b fb rb s ns L (n+1) t Ps):=by
 have hgd:=A4 h.f3;obtain⟨hs,_,hq⟩:=hi.node hgd;have h2s:=hgd.1;obtain⟨kk,hkk⟩:∃ kk,A0 s ns id=kk:=⟨_,rfl⟩;have HQ:=q_ (hkk▸hq);have HK:=q_ (fun w1 Qs (h1:Has W w1 (sTR b s ns::Qs))=>hkk▸Bg h1 hi);have HL:=q_ (fun w1 Qs (h1:Has W w1 (sTR b s ns::Qs))=>Fe h1 hi);have HT:=q_ hi.2.1;have HFu:=q_ (Fs (n+1) hi.2.2.1);have HFF:=q_ hi.2.2.1;have HI:=q_ hI;have HIH:=q_ ih;have hk:decide (id > 0)=true:=by simp;omega
 clear hi hs hq hgd h2s hkk ih hI;obtain⟨hm,hml⟩:=Uu h;obtain⟨c0,c1,cl⟩:=Po h;have HM:=q_ hm;have HG:=q_ hg;have H:=q_ h;have c03:∀ o1 o2 o3,(((w.alloc o1).alloc o2).alloc o3).cell? ⟨fb,0,none⟩=some (.pointer (some ⟨b,0,none⟩)):=fun o1 o2 o3=>(Fr.cell (((((Fr.refl [] w).alloc o1).alloc o2).alloc o3)) (p:=⟨fb,0,none⟩) cl i_).trans c0;clear hm h hg c0;go_enter Tryz.func114,Tryz.ntmps114;go_wp2_with (at_lookup;refine Ad (f:=Value.int .i64) (g:=fvV) (k:=id) (z:=fvV (zFV false)) rfl rfl rfl rfl (HM.o.of_block (hAE _ _ _ hml)) Tryz.underlying168 J8 k_ HG.o ?_;simp only [fvV,Ci]);have h1:=hAL ((hAL H.o (fCL (zFV false)) 172).step ((Fr.refl [] _).alloc (.cells (fCL (zFV false)) 172))) (fCL (zFV true)) 172;simp only [hAz,Ci] at h1;refine (HK.o _ _ h1.f5).mono ?_;rintro e w2 ⟨rfl,h,hf⟩;obtain⟨rq,hr4⟩:∃ rq,w.heap.size=rq:=⟨_,rfl⟩;obtain⟨s7,hs7⟩:∃ s7,rq+1+1=s7:=⟨_,rfl⟩;simp only [hr4,hs7] at h ⊢;clear hf h1 c03 c1 cl hml H HM HG hr4 hs7 hk;have hsb:=h.swap.blk;obtain⟨s0,s1,s2,s3,s4,s5,s6⟩:=e7_ hsb;have s7':=hEC hsb 7;have s8:=hEC hsb 8;have sz0:=hEF hsb 0;have sz1:=hEF hsb 1;have sz2:=hEF hsb 2;have sz3:=hEF hsb 3;have sz4:=hEF hsb 4;have sz5:=hEF hsb 5;have sz6:=hEF hsb 6;have sz7':=hEF hsb 7;have sz8:=hEF hsb 8;have sl:=lBk hsb;have H2:=q_ h;clear h hsb;go_wp2;refine aBW (fun w'=>Has W w' (Hp.blk w2.heap.size (.cells #[.int .i64 kk.a,.int .i64 kk.b,.int .i64 kk.c,.int .i64 kk.d] 132 (0,0))::sTR b s ns::Hp.blk s7 (.cells (fCL (zFV false)) 172 (0,0))::Hp.blk rq (.cells (fCL (zFV false)) 172 (0,0))::G4 L::To rb mm::Hp.blk fb (.cells #[.pointer (some ⟨b,0,none⟩),.map (some rb)] 170 (0,0))::Ps)) ?hasw ?_;case hasw =>
  rw [Ci];have hz:=hST (hST (hST (hST (hST (hST (hST (hST (hST H2.o.swap 0 (.bool false)) 1 (.slice none 0 0)) 2 (.bool false)) 3 (.slice none 0 0)) 4 (.bool false)) 5 (.slice none 0 0)) 6 (.bool false)) 7 (.slice none 0 0)) 8 (.bool false);have hA:=hAL hz.swap #[.int .i64 kk.a,.int .i64 kk.b,.int .i64 kk.c,.int .i64 kk.d] 132;rw [hSz,hSz,hSz,hSz,hSz,hSz,hSz,hSz,hSz] at hA;exact hA
 clear s0 s1 s2 s3 s4 s5 s6 s7' s8 sl sz0 sz1 sz2 sz3 sz4 sz5 sz6 sz7' sz8 H2;intro w3 h3;obtain⟨H,hH⟩:∃ H,2 ^ n=H:=⟨_,rfl⟩;have hfb:=h3.f6.blk;have c0:=hEC hfb 0;have cl:=lBk hfb;have H3:=q_ h3;have HSh:=q_ (fun w1 v (hb:BigZ w1 (fun _=>True) v 1)=>shift_in hH o_ hb);have HH:=q_ hH;clear h3 hfb hH;have hwr:IntKind.i64.wrap ((n:Int)+1 - 1)=((n:Nat):Int):=by rw [Int.add_sub_cancel];exact IntWalk.i64_in ((n:Nat):Int) o_
 have hwr3:IntKind.i64.wrap ((n:Nat):Int)=((n:Nat):Int):=IntWalk.i64_in ((n:Nat):Int) o_;have hwr2:IntKind.i64.wrap (((n+1:Nat):Int) - 1)=((n:Nat):Int):=by rw [Int.natCast_add];exact hwr
 have n30:=World.new_ne w3 _ c0;go_upto_region 9 with fail
 go_cut [10] (fun s10 wx=>∃ (hb:Nat) (ha:Option Addr) (hc:Nat),s10=.pointer (some ⟨hb,0,none⟩)∧Hid (Has W wx (B4 false (zd (H:Int)) ha hc::Hp.blk hb (.cells #[.bool false,.slice ha (zd (H:Int)).length hc] 30 (0,0))::Hp.blk w2.heap.size (.cells #[.int .i64 kk.a,.int .i64 kk.b,.int .i64 kk.c,.int .i64 kk.d] 132 (0,0))::sTR b s ns::Hp.blk s7 (.cells (fCL (zFV false)) 172 (0,0))::Hp.blk rq (.cells (fCL (zFV false)) 172 (0,0))::G4 L::To rb mm::Hp.blk fb (.cells #[.pointer (some ⟨b,0,none⟩),.map (some rb)] 170 (0,0))::Ps)));case first =>
  go_region_held3 (fun w'=>w'.cell? ⟨fb,0,none⟩=some (.pointer (some ⟨b,0,none⟩))) (first|go_keep|exact kA0|exact kB0|exact kC0)
   (first|(go_at_call 45;refine (J5 (x:=1) o_ o_).mono ?_;rintro e wA ⟨v1,rfl,hb1,hfA⟩;have h3A:Fr [] w3 wA:=Fr.trans0 (by (repeat first|exact Fr.refl _ _|assumption|apply Fr.n|apply Fr.d|apply Fr.a|refine Fr.s ?_ (.inl i_) _)) hfA;have kA0:=(h3A.cell (p:=⟨fb,0,none⟩) cl i_).trans c0;have nA0:=World.new_ne wA _ kA0;obtain⟨cA,zA⟩:=Li hfA;(try (have sA:w3.heap.size<wA.heap.size:=by have h:=hfA.size;(try simp at h);omega)))|(go_at_call 98;refine (HL.o _ _ (H3.o.swap.step ?_)).mono ?_;(· refine Fr.trans0 h3A ?_;(repeat first|exact Fr.refl _ _|assumption|apply Fr.n|apply Fr.d|apply Fr.a|refine Fr.s ?_ (.inl i_) _));rintro e wB ⟨rfl,_,hfB⟩;have hAB:Fr [] wA wB:=Fr.trans0 (by (repeat first|exact Fr.refl _ _|assumption|apply Fr.n|apply Fr.d|apply Fr.a|refine Fr.s ?_ (.inl i_) _)) hfB;have h3B:Fr [] w3 wB:=Fr.trans0 h3A hAB;have kB0:=(h3B.cell (p:=⟨fb,0,none⟩) cl i_).trans c0;have nB0:=World.new_ne wB _ kB0;obtain⟨cB,zB⟩:=Li hfB;(try (have sB:wA.heap.size<wB.heap.size:=by have h:=hfB.size;(try simp at h);omega));(try (have sB2:w3.heap.size<wB.heap.size:=by have h:=hfB.size;(try simp at h);omega)))|(go_at_call 95;refine (HSh.o _ _ ((hb1.mono (fun _ _=>trivial)).fr0 ?_)).mono ?_;(· refine Fr.trans0 hAB ?_;(repeat first|exact Fr.refl _ _|assumption|apply Fr.n|apply Fr.d|apply Fr.a|refine Fr.s ?_ (.inl i_) _));rintro e wC ⟨ha,hc,rfl,hb2,hfC⟩;have HB2:=q_ hb2;clear hb2;have hBC:Fr [] wB wC:=Fr.trans0 (by (repeat first|exact Fr.refl _ _|assumption|apply Fr.n|apply Fr.d|apply Fr.a|refine Fr.s ?_ (.inl i_) _)) hfC;have h3C:Fr [] w3 wC:=Fr.trans0 h3B hBC;have kC0:=(h3C.cell (p:=⟨fb,0,none⟩) cl i_).trans c0;have nC0:=World.new_ne wC _ kC0;obtain⟨cC,zC⟩:=Li hfC;(try (have sC:wB.heap.size<wC.heap.size:=by have h:=hfC.size;(try simp at h);omega));(try (have sC2:wA.heap.size<wC.heap.size:=by have h:=hfC.size;(try simp at h);omega));(try (have sC3:w3.heap.size<wC.heap.size:=by have h:=hfC.size;(try simp at h);omega))))
  ·go_wp2_with fail;go_meet;exact⟨_,ha,hc,rfl,q_ (hAL (Kg (H3.o.step (Fr.trans0 h3B (Fr.t))) hfC HB2.o) #[.bool false,.slice ha (zd (H:Int)).length hc] 30).swap⟩
  ·go_wp2_with fail;go_meet;exact⟨_,ha,hc,rfl,q_ (hST (hST (Kg ((hAL (H3.o.step h3B) #[.bool false,.slice none 0 0] 30).step (Fr.t)) hfC HB2.o).swap 0 (.bool false)) 1 (.slice ha (zd (H:Int)).length hc)).swap⟩
  ·go_wp2_with fail;go_meet;exact⟨_,ha,hc,rfl,q_ (hST (hST (Kg ((hAL (H3.o.step h3A) #[.bool false,.slice none 0 0] 30).step (Fr.trans0 (Fr.trans0 (Fr.t) hfB) (Fr.t))) hfC HB2.o).swap 0 (.bool false)) 1 (.slice ha (zd (H:Int)).length hc)).swap⟩
  ·go_wp2_with fail;go_meet;exact⟨_,ha,hc,rfl,q_ (hST (hST (Kg ((hAL H3.o #[.bool false,.slice none 0 0] 30).step (Fr.trans0 (Fr.trans0 (Fr.trans0 (Fr.t) hfA) hAB) (Fr.t))) hfC HB2.o).swap 0 (.bool false)) 1 (.slice ha (zd (H:Int)).length hc)).swap⟩
 case rest =>
  obtain⟨hb,ha,hc,rfl,HC⟩:=hcut;clear hwr hwr2 hwr3 n30 c0 cl H3 HSh HL HK;have hk4:=HC.o.f2.blk;obtain⟨k0,k1,k2,k3,kl⟩:=l4_ hk4;clear hk4;have HIX:=q_ (index4_get kk);go_wp2;go_loopw [54] (fun x wr=>∃ q:Nat,x=.int .i64 (q:Nat)∧q≤4∧∃ (fo:FV) (L2:List BV) (mm2:List (Int×FV)),Jb (N1 n t q) fo∧InL L2 fo∧FInv s ns L2 mm2∧(∀ x∈L,x∈L2)∧Has W wr (frL b fb rb s ns L2 mm2 (B4 false (zd (H:Int)) ha hc::Hp.blk hb (.cells #[.bool false,.slice ha (zd (H:Int)).length hc] 30 (0,0))::Hp.blk s7 (.cells (fCL fo) 172 (0,0))::Hp.blk rq (.cells (fCL (zFV false)) 172 (0,0))::Ps))) (fun x _=>4 - (intOf x).toNat);case atStart =>
   refine⟨0,rfl,o_,zFV false,zBV::L,mm,?_,?_,?_,fun x hx=>by simp [hx],?_⟩;·simp [Jb,N1,coF,zFV,zBV]
   ·simp [InL,zFV]
   ·exact HI.o.mono fun x hx=>by simp [hx]
   ·exact z_in (HC.o.ord 9 [6,7,8,3,0,1,4,5])
  case round =>
   clear k0 k1 k2 k3 kl HC;obtain⟨q,rfl,hq4,fo,L2,mm2,hok,hin,hinv,hmore,h⟩:=hrel;by_cases hq:q<4;·
    have hqd:decide (((q:Nat):Int)<4)=true:=u_';have hix:=fun w1=>HIX.o q hq w1;have HW:=q_ h;have HINV:=q_ hinv;have HOK:=q_ (And.intro hok hin);have HMORE:=q_ hmore;have hfb:=h.f2.blk;have c0:=hEC hfb 0;have cl:=lBk hfb;clear h hfb hinv hok hin hmore;go_wp2_with fail;refine (HIH.o _ _ _ _ _ _ HW.o HINV.o (HQ.o q hq)).mono ?_;rintro e w5 ⟨⟨ok,y0,y1,y2,y3⟩,L3,mm3,rfl,h5,hI5,hs5,hok5,hin5⟩;clear c0 cl hix;obtain⟨x14,hx14⟩:∃ x,w5.heap.size=x:=⟨_,rfl⟩;have h6:=(hAL h5 (fCL (ok,y0,y1,y2,y3)) 172);rw [hx14] at h6;have H6:=q_ (h6.ord 5 [1,2,3,4,0]);have HI5:=q_ hI5;have HIN5:=q_ hin5;have HS5:=q_ hs5;have HOK5:=q_ hok5;clear h5 h6 hI5 hin5 hs5 hok5;simp only [fvV,fCL] at H6 ⊢;cases ok with
    | false =>
     go_wp2;go_roundw;case rel =>
      have hn0:frT n (Tr.q t q)=none:=by
       have h:=HOK5.o.1;cases hx:frT n (Tr.q t q) with
       | none=>rfl
       | some x=>rw [hx] at h;cases h
      refine⟨q+1,by rw [Int.natCast_add];rfl,o_,fo,L3,mm3,?_,HOK.o.2.mono HS5.o,HI5.o,fun x hx=>HS5.o _ (HMORE.o x hx),?_⟩;·
       have e:N1 n t (q+1)=N1 n t q:=(by rw [N1,hn0];rfl);rw [e];exact HOK.o.1
      ·exact H6.o.ord 5 [0,1,2,3]
     case measure=>simp [intOf];omega
    | true =>
     obtain⟨okb,f0,f1,f2,f3⟩:=fo;obtain⟨X,hX⟩:∃ X,frT n (Tr.q t q)=some X:=by
      cases hx:frT n (Tr.q t q) with
      | none=>have h:=HOK5.o.1;rw [hx] at h;cases h
      | some x=>exact⟨_,rfl⟩
     obtain⟨dx,hdx,hdx2⟩:∃ d:Bool,(((q:Nat):Int) % 2 == 1)=d∧(if q % 2=1 then (H:Int) else 0)=if d then (H:Int) else 0:=by
      by_cases hq2:q % 2=1;·exact⟨true,by simp;omega,by simp [hq2]⟩
      ·exact⟨false,by simp;omega,by simp [hq2]⟩
     obtain⟨dy,hdy,hdy2⟩:∃ d:Bool,decide (((q:Nat):Int) ≥ 2)=d∧(if 2≤q then (H:Int) else 0)=if d then (H:Int) else 0:=by
      by_cases hq2:2≤q;·exact⟨true,by simp;omega,by simp [hq2]⟩
      ·exact⟨false,by simp;omega,by simp [hq2]⟩
     have HH2:Hid (0<H∧True):=q_ ⟨by rw [← HH.o];exact Nat.pow_pos o_,trivial⟩;have HZ:=q_ (fun (V:Nat) (hV:V<H+H)=>show Zok (V:Int) from zok_lt (k:=n+1) (by rw [Nat.pow_succ,HH.o];omega) o_);have hok1:=HOK.o.1;have hok5:=HOK5.o;rw [hX] at hok5;simp only [Jb,coF,Option.getD_some] at hok5;have HYB:Hid (y0.1<H∧y1.1<H∧y2.1<H∧y3.1<H∧0<H):=q_ (by
      have h1:=Na _ hX
      rw [HH.o] at h1
      simp only [inF] at h1
      have:=HH2.o.1
      omega)
     have HFB:Hid (f0.1<H+H∧f1.1<H+H∧f2.1<H+H∧f3.1<H+H):=q_ (by
      have:=HH2.o.1
      cases ho:N1 n t q with
      | none=>rw [ho] at hok1;simp only [Jb,coF,Option.getD_none] at hok1;omega
      | some o =>
       have h1:=Vf q o ho
       rw [HH.o] at h1
       rw [ho] at hok1
       simp only [Jb,coF,Option.getD_some] at hok1
       simp only [inF] at h1
       omega)
     obtain⟨G,hG,HGV⟩:∃ G,N1 n t (q+1)=some G∧Hid (G=(if okb then min ((y0.1:Int)+if dx then (H:Int) else 0) f0.1 else (y0.1:Int)+if dx then (H:Int) else 0,if okb then min ((y1.1:Int)+if dy then (H:Int) else 0) f1.1 else (y1.1:Int)+if dy then (H:Int) else 0,if okb then max ((y2.1:Int)+if dx then (H:Int) else 0) f2.1 else (y2.1:Int)+if dx then (H:Int) else 0,if okb then max ((y3.1:Int)+if dy then (H:Int) else 0) f3.1 else (y3.1:Int)+if dy then (H:Int) else 0)):=by rw [N1,hX,joinF_co,HH.o,hdx2,hdy2];refine⟨_,rfl,q_ ?_⟩;obtain⟨g1,g2,g3,g4,g5⟩:=hok1;simp only at g1 g2 g3 g4 g5 hok5;rw [← g1,hok5.2.1,hok5.2.2.1,hok5.2.2.2.1,hok5.2.2.2.2,g2,g3,g4,g5]
     have HG:=q_ hG;clear hG hok1 hok5 hdx2 hdy2 HH2;go_wp2;go_loopw [64] (fun x wr=>∃ z:Int,x=.int .i64 z∧At5 (fun i=>∃ u0 u1 u2 u3 L4,InnerF W b fb rb s ns mm3 x14 (true,y0,y1,y2,y3) G L3 (B4 false (zd (H:Int)) ha hc::Hp.blk hb (.cells #[.bool false,.slice ha (zd (H:Int)).length hc] 30 (0,0))::Hp.blk s7 (.cells (fCL (okb,f0,f1,f2,f3)) 172 (0,0))::Hp.blk rq (.cells (fCL (zFV false)) 172 (0,0))::Ps) i wr u0 u1 u2 u3 L4) z) (fun x _=>4 - (intOf x).toNat);case atStart =>exact⟨0,rfl,.inl ⟨rfl,y0,y1,y2,y3,L3,H6.o,fun x hx=>hx,HIN5.o,rfl,rfl,rfl,rfl⟩⟩
     case round =>
      clear H6;obtain⟨z,rfl,hz⟩:=hrel;rcases hz with ⟨rfl,u0,u1,u2,u3,L4,hI⟩|⟨rfl,u0,u1,u2,u3,L4,hI⟩|⟨rfl,u0,u1,u2,u3,L4,hI⟩|⟨rfl,u0,u1,u2,u3,L4,hI⟩|⟨rfl,u0,u1,u2,u3,L4,hI⟩
      ·obtain rfl:y0=u0:=(by have h:=hI.g0;simp at h;exact h.symm);have HIN:=q_ hI;have hxb:=hI.has.f4.blk;simp only [fCL] at hxb;obtain⟨x0,x1⟩:=e2_ hxb;have xz0:=hEF hxb 0;have xz1:=hEF hxb 1;have xl:=lBk hxb;have hhb:=hI.has.f6.blk;obtain⟨b0,b1,bl⟩:=l2_ hhb;have hsb:=hI.has.f7.blk;simp only [fCL] at hsb;obtain⟨s0,s1⟩:=e2_ hsb;have s8:=hEC hsb 8;have sl:=lBk hsb;clear hI hxb hhb hsb;cases dx with
       | true =>
        go_wp2;(refine wT ?_);have HD:=q_ (HIN.o.has.step ((Fr.refl [] _).drew));obtain⟨F5,hbig,_⟩:=HD.o.f5.head;have HBIG:=q_ hbig;clear hbig;go_wp2_with fail;refine (Ja (R7 (B6 (e:=y0) HD.o (by simp [frL]) HIN.o.inl.1)) (N8 HBIG.o) (HZ.o _ (by have:=HYB.o;omega)) (HZ.o _ (by have:=HYB.o;omega)) (by rw [← Int.natCast_add];exact HZ.o _ (by have:=HYB.o;omega))).mono ?_;rintro e w6 ⟨v7,rfl,hb7,hf⟩;rw [← Int.natCast_add] at hb7;obtain⟨V,hV⟩:∃ V,y0.1+H=V:=⟨_,rfl⟩;rw [hV] at hb7;obtain⟨a7,c7,rfl,h7⟩:=Bj (z:=((V:Nat):Int)) HD.o hf hb7 (HZ.o _ (by have:=HYB.o;omega));rw [show decide (((V:Nat):Int)<0)=false by simp] at h7 ⊢;have HV:=q_ hV;clear x0 x1 xz0 xz1 xl s0 s1 s8 sl b0 b1 bl hV hb7 hf HD HBIG;have hxb:=h7.f5.blk;simp only [fCL] at hxb;obtain⟨x0,x1⟩:=e2_ hxb;have xz0:=hEF hxb 0;have xz1:=hEF hxb 1;have xl:=lBk hxb;have H7:=q_ h7;clear hxb h7;go_wp2;refine sT_ rfl ?_;refine J9 (fun w'=>InnerH W b fb rb s ns mm3 x14 L3 (B4 false (zd (H:Int)) ha hc::Hp.blk hb (.cells #[.bool false,.slice ha (zd (H:Int)).length hc] 30 (0,0))::Hp.blk s7 (.cells (fCL (okb,f0,f1,f2,f3)) 172 (0,0))::Hp.blk rq (.cells (fCL (zFV false)) 172 (0,0))::Ps) w' (V,a7,c7) u1 u2 u3 ((V,a7,c7)::L4)) ⟨(hST (hST (Jl H7.o).f4 0 (.bool false)) 1 (.slice a7 (zd (V:Int)).length c7)).ord 5 [1,2,3,4,0],fun x hx=>by simp [HIN.o.more x hx],by have h:=HIN.o.inl;simp only [InL] at h ⊢;simp [h]⟩ ?_;rintro w8 hI8;have hsb:=hI8.has.f7.blk;simp only [fCL] at hsb;obtain⟨s0,s1⟩:=e2_ hsb;have s8:=hEC hsb 8;have sl:=lBk hsb;have hxb:=hI8.has.f4.blk;simp only [fCL] at hxb;obtain⟨x0,x1⟩:=e2_ hxb;have xz0:=hEF hxb 0;have xz1:=hEF hxb 1;have xl:=lBk hxb;have HIN8:=q_ hI8;clear hI8 hsb hxb;cases okb with
        | true =>
         obtain⟨pv,hpv⟩:∃ p,Fl false (V,a7,c7) f0=p:=⟨_,rfl⟩;have hpG:(pv.1:Int)=G.1:=by rw [HGV.o,← hpv];first|(have h:=Dj (V,a7,c7) f0;rw [h];have:=HV.o;simp;omega)|(have h:=Dl (V,a7,c7) f0;rw [h];have:=HV.o;simp;omega)
         have HPG:=q_ hpG;clear hpG;go_wp2;(refine wT ?_);have HD:=q_ (HIN8.o.has.step ((Fr.refl [] _).drew));go_wp2_with fail;refine (Jr false (B6 (e:=(V,a7,c7)) HD.o (by simp [frL]) HIN8.o.inl.1) (B6 (e:=f0) HD.o (by simp [frL]) (HIN8.o.more _ (HS5.o _ HOK.o.2.1))) (HZ.o _ (by have:=HYB.o;have:=HV.o;simp only;omega)) (HZ.o _ (by have:=HFB.o;omega))).mono ?_;rintro e w9 ⟨rfl,hf⟩;have h9:=HD.o.step hf;clear x0 x1 xz0 xz1 xl s0 s1 s8 sl hf;have hxb:=h9.f4.blk;simp only [fCL] at hxb;obtain⟨x0,x1⟩:=e2_ hxb;have xz0:=hEF hxb 0;have xz1:=hEF hxb 1;have xl:=lBk hxb;have H9:=q_ h9;clear hxb h9 HD;simp only [bvV];go_wp2;refine sT_ rfl ?_;refine J9 (fun w'=>InnerH W b fb rb s ns mm3 x14 L3 (B4 false (zd (H:Int)) ha hc::Hp.blk hb (.cells #[.bool false,.slice ha (zd (H:Int)).length hc] 30 (0,0))::Hp.blk s7 (.cells (fCL (true,f0,f1,f2,f3)) 172 (0,0))::Hp.blk rq (.cells (fCL (zFV false)) 172 (0,0))::Ps) w' pv u1 u2 u3 ((V,a7,c7)::L4)) ⟨(hST (hST H9.o.f4 0 (.bool false)) 1 (.slice pv.2.1 (zd (pv.1:Int)).length pv.2.2)).ord 5 [1,2,3,4,0],HIN8.o.more,by have h:=HIN8.o.inl;simp only [InL] at h ⊢;simp only [h,and_true,true_and];exact hpv▸Dk (x:=(V,a7,c7)) (y:=f0) HIN8.o.inl.1 (HIN8.o.more _ (HS5.o _ HOK.o.2.1))⟩ ?_;rintro w10 hI10;have HIN10:=q_ hI10;clear hI10;go_wp2;go_roundw;case rel=>exact⟨1,rfl,.inr (.inl ⟨rfl,_,_,_,_,_,HIN10.o.has,HIN10.o.more,HIN10.o.inl,HPG.o,HIN.o.g1,HIN.o.g2,HIN.o.g3⟩)⟩
         case measure=>simp [intOf]
        | false =>
         have hpG:(V:Int)=G.1:=by rw [HGV.o];have:=HV.o;simp;omega
         have HPG:=q_ hpG;clear hpG;go_wp2;go_roundw;case rel=>exact⟨1,rfl,.inr (.inl ⟨rfl,_,_,_,_,_,HIN8.o.has,HIN8.o.more,HIN8.o.inl,HPG.o,HIN.o.g1,HIN.o.g2,HIN.o.g3⟩)⟩
         case measure=>simp [intOf]
       | false =>
        cases okb with
        | true =>
         obtain⟨pv,hpv⟩:∃ p,Fl false y0 f0=p:=⟨_,rfl⟩;have hpG:(pv.1:Int)=G.1:=by rw [HGV.o,← hpv];first|(have h:=Dj y0 f0;rw [h];simp;omega)|(have h:=Dl y0 f0;rw [h];simp;omega)
         have HPG:=q_ hpG;clear hpG;go_wp2;(refine wT ?_);have HD:=q_ (HIN.o.has.step ((Fr.refl [] _).drew));go_wp2_with fail;refine (Jr false (B6 (e:=y0) HD.o (by simp [frL]) HIN.o.inl.1) (B6 (e:=f0) HD.o (by simp [frL]) (HIN.o.more _ (HS5.o _ HOK.o.2.1))) (HZ.o _ (by have:=HYB.o;omega)) (HZ.o _ (by have:=HFB.o;omega))).mono ?_;rintro e w9 ⟨rfl,hf⟩;have h9:=HD.o.step hf;clear x0 x1 xz0 xz1 xl s0 s1 s8 sl hf;have hxb:=h9.f4.blk;simp only [fCL] at hxb;obtain⟨x0,x1⟩:=e2_ hxb;have xz0:=hEF hxb 0;have xz1:=hEF hxb 1;have xl:=lBk hxb;have H9:=q_ h9;clear hxb h9 HD;simp only [bvV];go_wp2;refine sT_ rfl ?_;refine J9 (fun w'=>InnerH W b fb rb s ns mm3 x14 L3 (B4 false (zd (H:Int)) ha hc::Hp.blk hb (.cells #[.bool false,.slice ha (zd (H:Int)).length hc] 30 (0,0))::Hp.blk s7 (.cells (fCL (true,f0,f1,f2,f3)) 172 (0,0))::Hp.blk rq (.cells (fCL (zFV false)) 172 (0,0))::Ps) w' pv u1 u2 u3 L4) ⟨(hST (hST H9.o.f4 0 (.bool false)) 1 (.slice pv.2.1 (zd (pv.1:Int)).length pv.2.2)).ord 5 [1,2,3,4,0],HIN.o.more,by have h:=HIN.o.inl;simp only [InL] at h ⊢;simp only [h,and_true,true_and];exact hpv▸Dk (x:=y0) (y:=f0) HIN.o.inl.1 (HIN.o.more _ (HS5.o _ HOK.o.2.1))⟩ ?_;rintro w10 hI10;have HIN10:=q_ hI10;clear hI10;go_wp2;go_roundw;case rel=>exact⟨1,rfl,.inr (.inl ⟨rfl,_,_,_,_,_,HIN10.o.has,HIN10.o.more,HIN10.o.inl,HPG.o,HIN.o.g1,HIN.o.g2,HIN.o.g3⟩)⟩
         case measure=>simp [intOf]
        | false =>
         have hpG:(y0.1:Int)=G.1:=by rw [HGV.o];simp
         have HPG:=q_ hpG;clear hpG;go_wp2;go_roundw;case rel=>exact⟨1,rfl,.inr (.inl ⟨rfl,_,_,_,_,_,HIN.o.has,HIN.o.more,HIN.o.inl,HPG.o,HIN.o.g1,HIN.o.g2,HIN.o.g3⟩)⟩
         case measure=>simp [intOf]
      ·obtain rfl:y1=u1:=(by have h:=hI.g1;simp at h;exact h.symm);have HIN:=q_ hI;have hxb:=hI.has.f4.blk;simp only [fCL] at hxb;have x0:=hEC hxb 2;have x1:=hEC hxb 3;have xz0:=hEF hxb 2;have xz1:=hEF hxb 3;have xl:=lBk hxb;have hhb:=hI.has.f6.blk;obtain⟨b0,b1,bl⟩:=l2_ hhb;have hsb:=hI.has.f7.blk;simp only [fCL] at hsb;have s0:=hEC hsb 2;have s1:=hEC hsb 3;have s8:=hEC hsb 8;have sl:=lBk hsb;clear hI hxb hhb hsb;cases dy with
       | true =>
        go_wp2;(refine wT ?_);have HD:=q_ (HIN.o.has.step ((Fr.refl [] _).drew));obtain⟨F5,hbig,_⟩:=HD.o.f5.head;have HBIG:=q_ hbig;clear hbig;go_wp2_with fail;refine (Ja (R7 (B6 (e:=y1) HD.o (by simp [frL]) HIN.o.inl.2.1)) (N8 HBIG.o) (HZ.o _ (by have:=HYB.o;omega)) (HZ.o _ (by have:=HYB.o;omega)) (by rw [← Int.natCast_add];exact HZ.o _ (by have:=HYB.o;omega))).mono ?_;rintro e w6 ⟨v7,rfl,hb7,hf⟩;rw [← Int.natCast_add] at hb7;obtain⟨V,hV⟩:∃ V,y1.1+H=V:=⟨_,rfl⟩;rw [hV] at hb7;obtain⟨a7,c7,rfl,h7⟩:=Bj (z:=((V:Nat):Int)) HD.o hf hb7 (HZ.o _ (by have:=HYB.o;omega));rw [show decide (((V:Nat):Int)<0)=false by simp] at h7 ⊢;have HV:=q_ hV;clear x0 x1 xz0 xz1 xl s0 s1 s8 sl b0 b1 bl hV hb7 hf HD HBIG;have hxb:=h7.f5.blk;simp only [fCL] at hxb;have x0:=hEC hxb 2;have x1:=hEC hxb 3;have xz0:=hEF hxb 2;have xz1:=hEF hxb 3;have xl:=lBk hxb;have H7:=q_ h7;clear hxb h7;go_wp2;refine sT_ rfl ?_;refine J9 (fun w'=>InnerH W b fb rb s ns mm3 x14 L3 (B4 false (zd (H:Int)) ha hc::Hp.blk hb (.cells #[.bool false,.slice ha (zd (H:Int)).length hc] 30 (0,0))::Hp.blk s7 (.cells (fCL (okb,f0,f1,f2,f3)) 172 (0,0))::Hp.blk rq (.cells (fCL (zFV false)) 172 (0,0))::Ps) w' u0 (V,a7,c7) u2 u3 ((V,a7,c7)::L4)) ⟨(hST (hST (Jl H7.o).f4 2 (.bool false)) 3 (.slice a7 (zd (V:Int)).length c7)).ord 5 [1,2,3,4,0],fun x hx=>by simp [HIN.o.more x hx],by have h:=HIN.o.inl;simp only [InL] at h ⊢;simp [h]⟩ ?_;rintro w8 hI8;have hsb:=hI8.has.f7.blk;simp only [fCL] at hsb;have s0:=hEC hsb 2;have s1:=hEC hsb 3;have s8:=hEC hsb 8;have sl:=lBk hsb;have hxb:=hI8.has.f4.blk;simp only [fCL] at hxb;have x0:=hEC hxb 2;have x1:=hEC hxb 3;have xz0:=hEF hxb 2;have xz1:=hEF hxb 3;have xl:=lBk hxb;have HIN8:=q_ hI8;clear hI8 hsb hxb;cases okb with
        | true =>
         obtain⟨pv,hpv⟩:∃ p,Fl false (V,a7,c7) f1=p:=⟨_,rfl⟩;have hpG:(pv.1:Int)=G.2.1:=by rw [HGV.o,← hpv];first|(have h:=Dj (V,a7,c7) f1;rw [h];have:=HV.o;simp;omega)|(have h:=Dl (V,a7,c7) f1;rw [h];have:=HV.o;simp;omega)
         have HPG:=q_ hpG;clear hpG;go_wp2;(refine wT ?_);have HD:=q_ (HIN8.o.has.step ((Fr.refl [] _).drew));go_wp2_with fail;refine (Jr false (B6 (e:=(V,a7,c7)) HD.o (by simp [frL]) HIN8.o.inl.2.1) (B6 (e:=f1) HD.o (by simp [frL]) (HIN8.o.more _ (HS5.o _ HOK.o.2.2.1))) (HZ.o _ (by have:=HYB.o;have:=HV.o;simp only;omega)) (HZ.o _ (by have:=HFB.o;omega))).mono ?_;rintro e w9 ⟨rfl,hf⟩;have h9:=HD.o.step hf;clear x0 x1 xz0 xz1 xl s0 s1 s8 sl hf;have hxb:=h9.f4.blk;simp only [fCL] at hxb;have x0:=hEC hxb 2;have x1:=hEC hxb 3;have xz0:=hEF hxb 2;have xz1:=hEF hxb 3;have xl:=lBk hxb;have H9:=q_ h9;clear hxb h9 HD;simp only [bvV];go_wp2;refine sT_ rfl ?_;refine J9 (fun w'=>InnerH W b fb rb s ns mm3 x14 L3 (B4 false (zd (H:Int)) ha hc::Hp.blk hb (.cells #[.bool false,.slice ha (zd (H:Int)).length hc] 30 (0,0))::Hp.blk s7 (.cells (fCL (true,f0,f1,f2,f3)) 172 (0,0))::Hp.blk rq (.cells (fCL (zFV false)) 172 (0,0))::Ps) w' u0 pv u2 u3 ((V,a7,c7)::L4)) ⟨(hST (hST H9.o.f4 2 (.bool false)) 3 (.slice pv.2.1 (zd (pv.1:Int)).length pv.2.2)).ord 5 [1,2,3,4,0],HIN8.o.more,by have h:=HIN8.o.inl;simp only [InL] at h ⊢;simp only [h,and_true,true_and];exact hpv▸Dk (x:=(V,a7,c7)) (y:=f1) HIN8.o.inl.2.1 (HIN8.o.more _ (HS5.o _ HOK.o.2.2.1))⟩ ?_;rintro w10 hI10;have HIN10:=q_ hI10;clear hI10;go_wp2;go_roundw;case rel=>exact⟨2,rfl,.inr (.inr (.inl ⟨rfl,_,_,_,_,_,HIN10.o.has,HIN10.o.more,HIN10.o.inl,HIN.o.g0,HPG.o,HIN.o.g2,HIN.o.g3⟩))⟩
         case measure=>simp [intOf]
        | false =>
         have hpG:(V:Int)=G.2.1:=by rw [HGV.o];have:=HV.o;simp;omega
         have HPG:=q_ hpG;clear hpG;go_wp2;go_roundw;case rel=>exact⟨2,rfl,.inr (.inr (.inl ⟨rfl,_,_,_,_,_,HIN8.o.has,HIN8.o.more,HIN8.o.inl,HIN.o.g0,HPG.o,HIN.o.g2,HIN.o.g3⟩))⟩
         case measure=>simp [intOf]
       | false =>
        cases okb with
        | true =>
         obtain⟨pv,hpv⟩:∃ p,Fl false y1 f1=p:=⟨_,rfl⟩;have hpG:(pv.1:Int)=G.2.1:=by rw [HGV.o,← hpv];first|(have h:=Dj y1 f1;rw [h];simp;omega)|(have h:=Dl y1 f1;rw [h];simp;omega)
         have HPG:=q_ hpG;clear hpG;go_wp2;(refine wT ?_);have HD:=q_ (HIN.o.has.step ((Fr.refl [] _).drew));go_wp2_with fail;refine (Jr false (B6 (e:=y1) HD.o (by simp [frL]) HIN.o.inl.2.1) (B6 (e:=f1) HD.o (by simp [frL]) (HIN.o.more _ (HS5.o _ HOK.o.2.2.1))) (HZ.o _ (by have:=HYB.o;omega)) (HZ.o _ (by have:=HFB.o;omega))).mono ?_;rintro e w9 ⟨rfl,hf⟩;have h9:=HD.o.step hf;clear x0 x1 xz0 xz1 xl s0 s1 s8 sl hf;have hxb:=h9.f4.blk;simp only [fCL] at hxb;have x0:=hEC hxb 2;have x1:=hEC hxb 3;have xz0:=hEF hxb 2;have xz1:=hEF hxb 3;have xl:=lBk hxb;have H9:=q_ h9;clear hxb h9 HD;simp only [bvV];go_wp2;refine sT_ rfl ?_;refine J9 (fun w'=>InnerH W b fb rb s ns mm3 x14 L3 (B4 false (zd (H:Int)) ha hc::Hp.blk hb (.cells #[.bool false,.slice ha (zd (H:Int)).length hc] 30 (0,0))::Hp.blk s7 (.cells (fCL (true,f0,f1,f2,f3)) 172 (0,0))::Hp.blk rq (.cells (fCL (zFV false)) 172 (0,0))::Ps) w' u0 pv u2 u3 L4) ⟨(hST (hST H9.o.f4 2 (.bool false)) 3 (.slice pv.2.1 (zd (pv.1:Int)).length pv.2.2)).ord 5 [1,2,3,4,0],HIN.o.more,by have h:=HIN.o.inl;simp only [InL] at h ⊢;simp only [h,and_true,true_and];exact hpv▸Dk (x:=y1) (y:=f1) HIN.o.inl.2.1 (HIN.o.more _ (HS5.o _ HOK.o.2.2.1))⟩ ?_;rintro w10 hI10;have HIN10:=q_ hI10;clear hI10;go_wp2;go_roundw;case rel=>exact⟨2,rfl,.inr (.inr (.inl ⟨rfl,_,_,_,_,_,HIN10.o.has,HIN10.o.more,HIN10.o.inl,HIN.o.g0,HPG.o,HIN.o.g2,HIN.o.g3⟩))⟩
         case measure=>simp [intOf]
        | false =>
         have hpG:(y1.1:Int)=G.2.1:=by rw [HGV.o];simp
         have HPG:=q_ hpG;clear hpG;go_wp2;go_roundw;case rel=>exact⟨2,rfl,.inr (.inr (.inl ⟨rfl,_,_,_,_,_,HIN.o.has,HIN.o.more,HIN.o.inl,HIN.o.g0,HPG.o,HIN.o.g2,HIN.o.g3⟩))⟩
         case measure=>simp [intOf]
      ·obtain rfl:y2=u2:=(by have h:=hI.g2;simp at h;exact h.symm);have HIN:=q_ hI;have hxb:=hI.has.f4.blk;simp only [fCL] at hxb;have x0:=hEC hxb 4;have x1:=hEC hxb 5;have xz0:=hEF hxb 4;have xz1:=hEF hxb 5;have xl:=lBk hxb;have hhb:=hI.has.f6.blk;obtain⟨b0,b1,bl⟩:=l2_ hhb;have hsb:=hI.has.f7.blk;simp only [fCL] at hsb;have s0:=hEC hsb 4;have s1:=hEC hsb 5;have s8:=hEC hsb 8;have sl:=lBk hsb;clear hI hxb hhb hsb;cases dx with
       | true =>
        go_wp2;(refine wT ?_);have HD:=q_ (HIN.o.has.step ((Fr.refl [] _).drew));obtain⟨F5,hbig,_⟩:=HD.o.f5.head;have HBIG:=q_ hbig;clear hbig;go_wp2_with fail;refine (Ja (R7 (B6 (e:=y2) HD.o (by simp [frL]) HIN.o.inl.2.2.1)) (N8 HBIG.o) (HZ.o _ (by have:=HYB.o;omega)) (HZ.o _ (by have:=HYB.o;omega)) (by rw [← Int.natCast_add];exact HZ.o _ (by have:=HYB.o;omega))).mono ?_;rintro e w6 ⟨v7,rfl,hb7,hf⟩;rw [← Int.natCast_add] at hb7;obtain⟨V,hV⟩:∃ V,y2.1+H=V:=⟨_,rfl⟩;rw [hV] at hb7;obtain⟨a7,c7,rfl,h7⟩:=Bj (z:=((V:Nat):Int)) HD.o hf hb7 (HZ.o _ (by have:=HYB.o;omega));rw [show decide (((V:Nat):Int)<0)=false by simp] at h7 ⊢;have HV:=q_ hV;clear x0 x1 xz0 xz1 xl s0 s1 s8 sl b0 b1 bl hV hb7 hf HD HBIG;have hxb:=h7.f5.blk;simp only [fCL] at hxb;have x0:=hEC hxb 4;have x1:=hEC hxb 5;have xz0:=hEF hxb 4;have xz1:=hEF hxb 5;have xl:=lBk hxb;have H7:=q_ h7;clear hxb h7;go_wp2;refine sT_ rfl ?_;refine J9 (fun w'=>InnerH W b fb rb s ns mm3 x14 L3 (B4 false (zd (H:Int)) ha hc::Hp.blk hb (.cells #[.bool false,.slice ha (zd (H:Int)).length hc] 30 (0,0))::Hp.blk s7 (.cells (fCL (okb,f0,f1,f2,f3)) 172 (0,0))::Hp.blk rq (.cells (fCL (zFV false)) 172 (0,0))::Ps) w' u0 u1 (V,a7,c7) u3 ((V,a7,c7)::L4)) ⟨(hST (hST (Jl H7.o).f4 4 (.bool false)) 5 (.slice a7 (zd (V:Int)).length c7)).ord 5 [1,2,3,4,0],fun x hx=>by simp [HIN.o.more x hx],by have h:=HIN.o.inl;simp only [InL] at h ⊢;simp [h]⟩ ?_;rintro w8 hI8;have hsb:=hI8.has.f7.blk;simp only [fCL] at hsb;have s0:=hEC hsb 4;have s1:=hEC hsb 5;have s8:=hEC hsb 8;have sl:=lBk hsb;have hxb:=hI8.has.f4.blk;simp only [fCL] at hxb;have x0:=hEC hxb 4;have x1:=hEC hxb 5;have xz0:=hEF hxb 4;have xz1:=hEF hxb 5;have xl:=lBk hxb;have HIN8:=q_ hI8;clear hI8 hsb hxb;cases okb with
        | true =>
         obtain⟨pv,hpv⟩:∃ p,Fl true (V,a7,c7) f2=p:=⟨_,rfl⟩;have hpG:(pv.1:Int)=G.2.2.1:=by rw [HGV.o,← hpv];first|(have h:=Dj (V,a7,c7) f2;rw [h];have:=HV.o;simp;omega)|(have h:=Dl (V,a7,c7) f2;rw [h];have:=HV.o;simp;omega)
         have HPG:=q_ hpG;clear hpG;go_wp2;(refine wT ?_);have HD:=q_ (HIN8.o.has.step ((Fr.refl [] _).drew));go_wp2_with fail;refine (Jr true (B6 (e:=(V,a7,c7)) HD.o (by simp [frL]) HIN8.o.inl.2.2.1) (B6 (e:=f2) HD.o (by simp [frL]) (HIN8.o.more _ (HS5.o _ HOK.o.2.2.2.1))) (HZ.o _ (by have:=HYB.o;have:=HV.o;simp only;omega)) (HZ.o _ (by have:=HFB.o;omega))).mono ?_;rintro e w9 ⟨rfl,hf⟩;have h9:=HD.o.step hf;clear x0 x1 xz0 xz1 xl s0 s1 s8 sl hf;have hxb:=h9.f4.blk;simp only [fCL] at hxb;have x0:=hEC hxb 4;have x1:=hEC hxb 5;have xz0:=hEF hxb 4;have xz1:=hEF hxb 5;have xl:=lBk hxb;have H9:=q_ h9;clear hxb h9 HD;simp only [bvV];go_wp2;refine sT_ rfl ?_;refine J9 (fun w'=>InnerH W b fb rb s ns mm3 x14 L3 (B4 false (zd (H:Int)) ha hc::Hp.blk hb (.cells #[.bool false,.slice ha (zd (H:Int)).length hc] 30 (0,0))::Hp.blk s7 (.cells (fCL (true,f0,f1,f2,f3)) 172 (0,0))::Hp.blk rq (.cells (fCL (zFV false)) 172 (0,0))::Ps) w' u0 u1 pv u3 ((V,a7,c7)::L4)) ⟨(hST (hST H9.o.f4 4 (.bool false)) 5 (.slice pv.2.1 (zd (pv.1:Int)).length pv.2.2)).ord 5 [1,2,3,4,0],HIN8.o.more,by have h:=HIN8.o.inl;simp only [InL] at h ⊢;simp only [h,and_true,true_and];exact hpv▸Dk (x:=(V,a7,c7)) (y:=f2) HIN8.o.inl.2.2.1 (HIN8.o.more _ (HS5.o _ HOK.o.2.2.2.1))⟩ ?_;rintro w10 hI10;have HIN10:=q_ hI10;clear hI10;go_wp2;go_roundw;case rel=>exact⟨3,rfl,.inr (.inr (.inr (.inl ⟨rfl,_,_,_,_,_,HIN10.o.has,HIN10.o.more,HIN10.o.inl,HIN.o.g0,HIN.o.g1,HPG.o,HIN.o.g3⟩)))⟩
         case measure=>simp [intOf]
        | false =>
         have hpG:(V:Int)=G.2.2.1:=by rw [HGV.o];have:=HV.o;simp;omega
         have HPG:=q_ hpG;clear hpG;go_wp2;go_roundw;case rel=>exact⟨3,rfl,.inr (.inr (.inr (.inl ⟨rfl,_,_,_,_,_,HIN8.o.has,HIN8.o.more,HIN8.o.inl,HIN.o.g0,HIN.o.g1,HPG.o,HIN.o.g3⟩)))⟩
         case measure=>simp [intOf]
       | false =>
        cases okb with
        | true =>
         obtain⟨pv,hpv⟩:∃ p,Fl true y2 f2=p:=⟨_,rfl⟩;have hpG:(pv.1:Int)=G.2.2.1:=by rw [HGV.o,← hpv];first|(have h:=Dj y2 f2;rw [h];simp;omega)|(have h:=Dl y2 f2;rw [h];simp;omega)
         have HPG:=q_ hpG;clear hpG;go_wp2;(refine wT ?_);have HD:=q_ (HIN.o.has.step ((Fr.refl [] _).drew));go_wp2_with fail;refine (Jr true (B6 (e:=y2) HD.o (by simp [frL]) HIN.o.inl.2.2.1) (B6 (e:=f2) HD.o (by simp [frL]) (HIN.o.more _ (HS5.o _ HOK.o.2.2.2.1))) (HZ.o _ (by have:=HYB.o;omega)) (HZ.o _ (by have:=HFB.o;omega))).mono ?_;rintro e w9 ⟨rfl,hf⟩;have h9:=HD.o.step hf;clear x0 x1 xz0 xz1 xl s0 s1 s8 sl hf;have hxb:=h9.f4.blk;simp only [fCL] at hxb;have x0:=hEC hxb 4;have x1:=hEC hxb 5;have xz0:=hEF hxb 4;have xz1:=hEF hxb 5;have xl:=lBk hxb;have H9:=q_ h9;clear hxb h9 HD;simp only [bvV];go_wp2;refine sT_ rfl ?_;refine J9 (fun w'=>InnerH W b fb rb s ns mm3 x14 L3 (B4 false (zd (H:Int)) ha hc::Hp.blk hb (.cells #[.bool false,.slice ha (zd (H:Int)).length hc] 30 (0,0))::Hp.blk s7 (.cells (fCL (true,f0,f1,f2,f3)) 172 (0,0))::Hp.blk rq (.cells (fCL (zFV false)) 172 (0,0))::Ps) w' u0 u1 pv u3 L4) ⟨(hST (hST H9.o.f4 4 (.bool false)) 5 (.slice pv.2.1 (zd (pv.1:Int)).length pv.2.2)).ord 5 [1,2,3,4,0],HIN.o.more,by have h:=HIN.o.inl;simp only [InL] at h ⊢;simp only [h,and_true,true_and];exact hpv▸Dk (x:=y2) (y:=f2) HIN.o.inl.2.2.1 (HIN.o.more _ (HS5.o _ HOK.o.2.2.2.1))⟩ ?_;rintro w10 hI10;have HIN10:=q_ hI10;clear hI10;go_wp2;go_roundw;case rel=>exact⟨3,rfl,.inr (.inr (.inr (.inl ⟨rfl,_,_,_,_,_,HIN10.o.has,HIN10.o.more,HIN10.o.inl,HIN.o.g0,HIN.o.g1,HPG.o,HIN.o.g3⟩)))⟩
         case measure=>simp [intOf]
        | false =>
         have hpG:(y2.1:Int)=G.2.2.1:=by rw [HGV.o];simp
         have HPG:=q_ hpG;clear hpG;go_wp2;go_roundw;case rel=>exact⟨3,rfl,.inr (.inr (.inr (.inl ⟨rfl,_,_,_,_,_,HIN.o.has,HIN.o.more,HIN.o.inl,HIN.o.g0,HIN.o.g1,HPG.o,HIN.o.g3⟩)))⟩
         case measure=>simp [intOf]
      ·obtain rfl:y3=u3:=(by have h:=hI.g3;simp at h;exact h.symm);have HIN:=q_ hI;have hxb:=hI.has.f4.blk;simp only [fCL] at hxb;have x0:=hEC hxb 6;have x1:=hEC hxb 7;have xz0:=hEF hxb 6;have xz1:=hEF hxb 7;have xl:=lBk hxb;have hhb:=hI.has.f6.blk;obtain⟨b0,b1,bl⟩:=l2_ hhb;have hsb:=hI.has.f7.blk;simp only [fCL] at hsb;have s0:=hEC hsb 6;have s1:=hEC hsb 7;have s8:=hEC hsb 8;have sl:=lBk hsb;clear hI hxb hhb hsb;cases dy with
       | true =>
        go_wp2;(refine wT ?_);have HD:=q_ (HIN.o.has.step ((Fr.refl [] _).drew));obtain⟨F5,hbig,_⟩:=HD.o.f5.head;have HBIG:=q_ hbig;clear hbig;go_wp2_with fail;refine (Ja (R7 (B6 (e:=y3) HD.o (by simp [frL]) HIN.o.inl.2.2.2)) (N8 HBIG.o) (HZ.o _ (by have:=HYB.o;omega)) (HZ.o _ (by have:=HYB.o;omega)) (by rw [← Int.natCast_add];exact HZ.o _ (by have:=HYB.o;omega))).mono ?_;rintro e w6 ⟨v7,rfl,hb7,hf⟩;rw [← Int.natCast_add] at hb7;obtain⟨V,hV⟩:∃ V,y3.1+H=V:=⟨_,rfl⟩;rw [hV] at hb7;obtain⟨a7,c7,rfl,h7⟩:=Bj (z:=((V:Nat):Int)) HD.o hf hb7 (HZ.o _ (by have:=HYB.o;omega));rw [show decide (((V:Nat):Int)<0)=false by simp] at h7 ⊢;have HV:=q_ hV;clear x0 x1 xz0 xz1 xl s0 s1 s8 sl b0 b1 bl hV hb7 hf HD HBIG;have hxb:=h7.f5.blk;simp only [fCL] at hxb;have x0:=hEC hxb 6;have x1:=hEC hxb 7;have xz0:=hEF hxb 6;have xz1:=hEF hxb 7;have xl:=lBk hxb;have H7:=q_ h7;clear hxb h7;go_wp2;refine sT_ rfl ?_;refine J9 (fun w'=>InnerH W b fb rb s ns mm3 x14 L3 (B4 false (zd (H:Int)) ha hc::Hp.blk hb (.cells #[.bool false,.slice ha (zd (H:Int)).length hc] 30 (0,0))::Hp.blk s7 (.cells (fCL (okb,f0,f1,f2,f3)) 172 (0,0))::Hp.blk rq (.cells (fCL (zFV false)) 172 (0,0))::Ps) w' u0 u1 u2 (V,a7,c7) ((V,a7,c7)::L4)) ⟨(hST (hST (Jl H7.o).f4 6 (.bool false)) 7 (.slice a7 (zd (V:Int)).length c7)).ord 5 [1,2,3,4,0],fun x hx=>by simp [HIN.o.more x hx],by have h:=HIN.o.inl;simp only [InL] at h ⊢;simp [h]⟩ ?_;rintro w8 hI8;have hsb:=hI8.has.f7.blk;simp only [fCL] at hsb;have s0:=hEC hsb 6;have s1:=hEC hsb 7;have s8:=hEC hsb 8;have sl:=lBk hsb;have hxb:=hI8.has.f4.blk;simp only [fCL] at hxb;have x0:=hEC hxb 6;have x1:=hEC hxb 7;have xz0:=hEF hxb 6;have xz1:=hEF hxb 7;have xl:=lBk hxb;have HIN8:=q_ hI8;clear hI8 hsb hxb;cases okb with
        | true =>
         obtain⟨pv,hpv⟩:∃ p,Fl true (V,a7,c7) f3=p:=⟨_,rfl⟩;have hpG:(pv.1:Int)=G.2.2.2:=by rw [HGV.o,← hpv];first|(have h:=Dj (V,a7,c7) f3;rw [h];have:=HV.o;simp;omega)|(have h:=Dl (V,a7,c7) f3;rw [h];have:=HV.o;simp;omega)
         have HPG:=q_ hpG;clear hpG;go_wp2;(refine wT ?_);have HD:=q_ (HIN8.o.has.step ((Fr.refl [] _).drew));go_wp2_with fail;refine (Jr true (B6 (e:=(V,a7,c7)) HD.o (by simp [frL]) HIN8.o.inl.2.2.2) (B6 (e:=f3) HD.o (by simp [frL]) (HIN8.o.more _ (HS5.o _ HOK.o.2.2.2.2))) (HZ.o _ (by have:=HYB.o;have:=HV.o;simp only;omega)) (HZ.o _ (by have:=HFB.o;omega))).mono ?_;rintro e w9 ⟨rfl,hf⟩;have h9:=HD.o.step hf;clear x0 x1 xz0 xz1 xl s0 s1 s8 sl hf;have hxb:=h9.f4.blk;simp only [fCL] at hxb;have x0:=hEC hxb 6;have x1:=hEC hxb 7;have xz0:=hEF hxb 6;have xz1:=hEF hxb 7;have xl:=lBk hxb;have H9:=q_ h9;clear hxb h9 HD;simp only [bvV];go_wp2;refine sT_ rfl ?_;refine J9 (fun w'=>InnerH W b fb rb s ns mm3 x14 L3 (B4 false (zd (H:Int)) ha hc::Hp.blk hb (.cells #[.bool false,.slice ha (zd (H:Int)).length hc] 30 (0,0))::Hp.blk s7 (.cells (fCL (true,f0,f1,f2,f3)) 172 (0,0))::Hp.blk rq (.cells (fCL (zFV false)) 172 (0,0))::Ps) w' u0 u1 u2 pv ((V,a7,c7)::L4)) ⟨(hST (hST H9.o.f4 6 (.bool false)) 7 (.slice pv.2.1 (zd (pv.1:Int)).length pv.2.2)).ord 5 [1,2,3,4,0],HIN8.o.more,by have h:=HIN8.o.inl;simp only [InL] at h ⊢;simp only [h,and_true,true_and];exact hpv▸Dk (x:=(V,a7,c7)) (y:=f3) HIN8.o.inl.2.2.2 (HIN8.o.more _ (HS5.o _ HOK.o.2.2.2.2))⟩ ?_;rintro w10 hI10;have HIN10:=q_ hI10;clear hI10;go_wp2;go_roundw;case rel=>exact⟨4,rfl,.inr (.inr (.inr (.inr (⟨rfl,_,_,_,_,_,HIN10.o.has,HIN10.o.more,HIN10.o.inl,HIN.o.g0,HIN.o.g1,HIN.o.g2,HPG.o⟩))))⟩
         case measure=>simp [intOf]
        | false =>
         have hpG:(V:Int)=G.2.2.2:=by rw [HGV.o];have:=HV.o;simp;omega
         have HPG:=q_ hpG;clear hpG;go_wp2;go_roundw;case rel=>exact⟨4,rfl,.inr (.inr (.inr (.inr (⟨rfl,_,_,_,_,_,HIN8.o.has,HIN8.o.more,HIN8.o.inl,HIN.o.g0,HIN.o.g1,HIN.o.g2,HPG.o⟩))))⟩
         case measure=>simp [intOf]
       | false =>
        cases okb with
        | true =>
         obtain⟨pv,hpv⟩:∃ p,Fl true y3 f3=p:=⟨_,rfl⟩;have hpG:(pv.1:Int)=G.2.2.2:=by rw [HGV.o,← hpv];first|(have h:=Dj y3 f3;rw [h];simp;omega)|(have h:=Dl y3 f3;rw [h];simp;omega)
         have HPG:=q_ hpG;clear hpG;go_wp2;(refine wT ?_);have HD:=q_ (HIN.o.has.step ((Fr.refl [] _).drew));go_wp2_with fail;refine (Jr true (B6 (e:=y3) HD.o (by simp [frL]) HIN.o.inl.2.2.2) (B6 (e:=f3) HD.o (by simp [frL]) (HIN.o.more _ (HS5.o _ HOK.o.2.2.2.2))) (HZ.o _ (by have:=HYB.o;omega)) (HZ.o _ (by have:=HFB.o;omega))).mono ?_;rintro e w9 ⟨rfl,hf⟩;have h9:=HD.o.step hf;clear x0 x1 xz0 xz1 xl s0 s1 s8 sl hf;have hxb:=h9.f4.blk;simp only [fCL] at hxb;have x0:=hEC hxb 6;have x1:=hEC hxb 7;have xz0:=hEF hxb 6;have xz1:=hEF hxb 7;have xl:=lBk hxb;have H9:=q_ h9;clear hxb h9 HD;simp only [bvV];go_wp2;refine sT_ rfl ?_;refine J9 (fun w'=>InnerH W b fb rb s ns mm3 x14 L3 (B4 false (zd (H:Int)) ha hc::Hp.blk hb (.cells #[.bool false,.slice ha (zd (H:Int)).length hc] 30 (0,0))::Hp.blk s7 (.cells (fCL (true,f0,f1,f2,f3)) 172 (0,0))::Hp.blk rq (.cells (fCL (zFV false)) 172 (0,0))::Ps) w' u0 u1 u2 pv L4) ⟨(hST (hST H9.o.f4 6 (.bool false)) 7 (.slice pv.2.1 (zd (pv.1:Int)).length pv.2.2)).ord 5 [1,2,3,4,0],HIN.o.more,by have h:=HIN.o.inl;simp only [InL] at h ⊢;simp only [h,and_true,true_and];exact hpv▸Dk (x:=y3) (y:=f3) HIN.o.inl.2.2.2 (HIN.o.more _ (HS5.o _ HOK.o.2.2.2.2))⟩ ?_;rintro w10 hI10;have HIN10:=q_ hI10;clear hI10;go_wp2;go_roundw;case rel=>exact⟨4,rfl,.inr (.inr (.inr (.inr (⟨rfl,_,_,_,_,_,HIN10.o.has,HIN10.o.more,HIN10.o.inl,HIN.o.g0,HIN.o.g1,HIN.o.g2,HPG.o⟩))))⟩
         case measure=>simp [intOf]
        | false =>
         have hpG:(y3.1:Int)=G.2.2.2:=by rw [HGV.o];simp
         have HPG:=q_ hpG;clear hpG;go_wp2;go_roundw;case rel=>exact⟨4,rfl,.inr (.inr (.inr (.inr (⟨rfl,_,_,_,_,_,HIN.o.has,HIN.o.more,HIN.o.inl,HIN.o.g0,HIN.o.g1,HIN.o.g2,HPG.o⟩))))⟩
         case measure=>simp [intOf]
      ·have hxb:=hI.has.f4.blk;simp only [fCL] at hxb;obtain⟨r0,r1,r2,r3,r4,r5,r6⟩:=e7_ hxb;have r7':=hEC hxb 7;have r8:=hEC hxb 8;have rz0:=hEF hxb 0;have rz1:=hEF hxb 1;have rz2:=hEF hxb 2;have rz3:=hEF hxb 3;have rz4:=hEF hxb 4;have rz5:=hEF hxb 5;have rz6:=hEF hxb 6;have rz7':=hEF hxb 7;have rz8:=hEF hxb 8;have rl:=lBk hxb;have hsb:=hI.has.f7.blk;simp only [fCL] at hsb;obtain⟨s0,s1,s2,s3,s4,s5,s6⟩:=e7_ hsb;have s7':=hEC hsb 7;have s8:=hEC hsb 8;have sz0:=hEF hsb 0;have sz1:=hEF hsb 1;have sz2:=hEF hsb 2;have sz3:=hEF hsb 3;have sz4:=hEF hsb 4;have sz5:=hEF hsb 5;have sz6:=hEF hsb 6;have sz7':=hEF hsb 7;have sz8:=hEF hsb 8;have sl:=lBk hsb;have hs0:x14≠s7:=(hI.has.ord 8 [4,7]).blk_ne;have HI4:=q_ hI;clear hI hxb hsb;go_wp2;go_roundw;case rel =>
        refine⟨q+1,by rw [Int.natCast_add];rfl,o_,(true,u0,u1,u2,u3),L4,mm3,?_,HI4.o.inl,HI5.o.mono HI4.o.more,fun x hx=>HI4.o.more _ (HS5.o _ (HMORE.o x hx)),?_⟩;·
         rw [HG.o];exact⟨rfl,HI4.o.g0,HI4.o.g1,HI4.o.g2,HI4.o.g3⟩
        ·have h0:=HI4.o.has.f7;have h1:=hST (hST (hST h0 0 (.bool false)) 1 (.slice u0.2.1 (zd (u0.1:Int)).length u0.2.2)) 2 (.bool false);have h2:=hST (hST (hST h1 3 (.slice u1.2.1 (zd (u1.1:Int)).length u1.2.2)) 4 (.bool false)) 5 (.slice u2.2.1 (zd (u2.1:Int)).length u2.2.2);have h3:=hST (hST (hST h2 6 (.bool false)) 7 (.slice u3.2.1 (zd (u3.1:Int)).length u3.2.2)) 8 (.bool true);have h4:=h3.ord 9 [1,2,3,4,6,7,0,8];rw [fcells_store] at h4;simp only [List.filterMap_cons,List.filterMap_nil,List.getElem?_cons_zero,List.getElem?_cons_succ,List.drop_succ_cons,List.drop_zero,List.cons_append,List.nil_append,List.take_succ_cons,List.take_zero,List.eraseIdx_cons_succ,List.eraseIdx_zero,List.eraseIdx_cons_zero,List.tail_cons,Option.toList_some] at h4;exact h4
       case measure=>simp [intOf];omega
   ·obtain rfl:q=4:=o_;have HOK:=q_ (And.intro hok hin);have HINV:=q_ hinv;have HMORE:=q_ hmore;have hd4:decide (((4:Nat):Int)<4)=false:=rfl;obtain⟨okb,f0,f1,f2,f3⟩:=fo;have h:=h.ord 8 [3,1,6,7,0,2];simp only [Ci,fCL,List.filterMap_cons,List.filterMap_nil,List.getElem?_cons_zero,List.getElem?_cons_succ,List.drop_succ_cons,List.drop_zero,List.cons_append,List.nil_append,frL] at h;clear hok hin hinv hmore;have hcb:=h.f5.blk;obtain⟨c0,c1,cl⟩:=l2_ hcb;have hsb:=h.f2.blk;obtain⟨s0,s1,s2,s3,s4,s5,s6⟩:=e7_ hsb;have s7':=hEC hsb 7;have s8:=hEC hsb 8;have sl:=lBk hsb;have H4:=q_ h;clear h hcb hsb;go_wp2;(refine wT ?_);go_wp2_with (at_mapUpdate;refine upd_fr (id:=id) (f:=(okb,f0,f1,f2,f3)) rfl rfl rfl rfl rfl (H4.o.step (Fr.t)) ?_);clear c0 c1 cl s0 s1 s2 s3 s4 s5 s6 s7' s8 sl;intro w8 h5;have hsb:=h5.f2.blk;have hr4:=h5.f3.blk;obtain⟨s0,s1,s2,s3,s4,s5,s6⟩:=e7_ hsb;have s7':=hEC hsb 7;have s8:=hEC hsb 8;have sl:=lBk hsb;obtain⟨r0,r1,r2,r3,r4,r5,r6⟩:=e7_ hr4;have r7':=hEC hr4 7;have r8:=hEC hr4 8;have rz0:=hEF hr4 0;have rz1:=hEF hr4 1;have rz2:=hEF hr4 2;have rz3:=hEF hr4 3;have rz4:=hEF hr4 4;have rz5:=hEF hr4 5;have rz6:=hEF hr4 6;have rz7':=hEF hr4 7;have rz8:=hEF hr4 8;have rl:=lBk hr4;have H5:=q_ h5;clear h5 hsb hr4 H4;go_wp2;refine sT_ rfl ?_;go_wp2
    have hF:=hST (hST (hST (hST (hST (hST (hST (hST (hST H5.o.f3 0 (.bool false)) 1 (.slice f0.2.1 (zd (f0.1:Int)).length f0.2.2)) 2 (.bool false)) 3 (.slice f1.2.1 (zd (f1.1:Int)).length f1.2.2)) 4 (.bool false)) 5 (.slice f2.2.1 (zd (f2.1:Int)).length f2.2.2)) 6 (.bool false)) 7 (.slice f3.2.1 (zd (f3.1:Int)).length f3.2.2)) 8 (.bool okb);have HF:=q_ (And.intro hF.blk (hF.drop.f2.drop.f3.f2.f3));clear hF;refine bodyPost_ret (Ix rfl (b:=rq) (f:=(okb,f0,f1,f2,f3)) rfl ?_) rfl ⟨(okb,f0,f1,f2,f3),L2,put mm2 id (okb,f0,f1,f2,f3),rfl,HF.o.2,?_,HMORE.o,?_,HOK.o.2⟩;·exact HF.o.1
    ·intro e he;rcases M4 he with h|rfl
     ·exact HINV.o e h
     ·refine⟨?_,HOK.o.2⟩;show Jb (frT (tr s ns id).ht (tr s ns id)) _;rw [HT.o,HFu.o,Qw HFF.o];exact HOK.o.1
    ·rw [Qw HFF.o];exact HOK.o.1
theorem frame_q:∀ n:Nat,n≤256→X3 W b fb rb s ns n:=by
 intro n
 induction n with
 | zero =>
  intro _ w Ps L mm id t h hI hi;cases hg:get? mm id with
  | some p=>exact Rc h hI hi hg
  | none=>exact frame_leaf h hI hi hg
 | succ n ih =>
  intro hn w Ps L mm id t h hI hi;cases hg:get? mm id with
  | some p=>exact Rc h hI hi hg
  | none=>exact frame_node hn (ih o_) h hI hi hg
def Df (f:FV):Array Value:=#[.bool false,.slice f.2.1.2.1 (zd (f.2.1.1:Int)).length f.2.1.2.2,.bool false,.slice f.2.2.1.2.1 (zd (f.2.2.1.1:Int)).length f.2.2.1.2.2,.bool false,.slice f.2.2.2.1.2.1 (zd (f.2.2.2.1.1:Int)).length f.2.2.2.1.2.2,.bool false,.slice f.2.2.2.2.2.1 (zd (f.2.2.2.2.1:Int)).length f.2.2.2.2.2.2]
theorem Nv (ok:Bool):Df (zFV ok)=#[.bool false,.slice none 0 0,.bool false,.slice none 0 0,.bool false,.slice none 0 0,.bool false,.slice none 0 0]:=by simp [Df,zFV,zBV,zd,Bd]
theorem lcells_store (f:FV) (ok:Bool) (u0 u1 u2 u3:BV):((((((((Df f).setIfInBounds 0 (.bool false)).setIfInBounds 1 (.slice u0.2.1 (zd (u0.1:Int)).length u0.2.2)).setIfInBounds 2 (.bool false)).setIfInBounds 3 (.slice u1.2.1 (zd (u1.1:Int)).length u1.2.2)).setIfInBounds 4 (.bool false)).setIfInBounds 5 (.slice u2.2.1 (zd (u2.1:Int)).length u2.2.2)).setIfInBounds 6 (.bool false)).setIfInBounds 7 (.slice u3.2.1 (zd (u3.1:Int)).length u3.2.2)=Df (ok,u0,u1,u2,u3):=by simp [Df]
theorem results_cell3' {fn:Func} {p u v:Tmp} {ty:TypeId} (h:fn.results=#[.cell p ty,.tmp u,.tmp v]) (tmps:Array Value) (P:Program) (w:World) :
  (results fn tmps).run P w=((asAddr (tmps.getD p undef)).run P w).andThen fun a w₁=>((loadVar ty a).run P w₁).andThen fun x w₂=>.ok (.tuple #[x,tmps.getD u undef,tmps.getD v undef]) w₂:=by
 simp only [results,h];simp [Sem.run_bind,Result.andThen]
theorem Ny {fn:Func} {p u v:Tmp} (h:fn.results=#[.cell p 66,.tmp u,.tmp v]) {tmps:Array Value} {f:FV} {i j:Value} (h4:tmps.getD p undef=.pointer (some ⟨b,0,none⟩)) (hb:w'.heap[b]?=some (.cells (Df f) 66 (0,0))) (h5:tmps.getD u undef=i) (h6:tmps.getD v undef=j) :
  (results fn tmps).run Tryz.prog w'=.ok (.tuple #[.agg (Df f),i,j]) w':=by
 rw [results_cell3' h,h4];simp only [asAddr,Sem.run_pure,Result.andThen];rw [run_loadVar_row w' b _ _ _ _ _ hb Tryz.underlying66 rfl k_];simp only [h5,h6]
def frQ (s:Int) (ns:List K4) (id:Int):Option Frm:=if lvl s (A8 s ns) id<0 then none else frT (tr s ns id).ht (tr s ns id)
def J6 (W:World) (b:Nat) (s:Int) (ns:List K4) (id:Int) (Ps:List Res) (e:Ending) (w':World):Prop :=
 ∃ f L,e=.returned (.tuple #[.agg (Df f),.bool f.1,.int .i64 (kQ_ s ns id)])∧Has W w' (sTR b s ns::G4 L::Ps)∧Jb (frQ s ns id) f∧InL L f
theorem has_framer (h:Has W w (sTR b s ns::Ps)):Has W ((w.alloc (.map #[] 0)).alloc (.cells #[.pointer (some ⟨b,0,none⟩),.map (some w.heap.size)] 170 (0,0))) (frL b (w.heap.size+1) w.heap.size s ns [] [] Ps):=by have h1:Has W (w.alloc (.map #[] 0)) (To w.heap.size []::sTR b s ns::Ps):=h.new (F:=[w.heap.size]) ((Fr.refl [] w).alloc _) ⟨MapIs.made w,rfl⟩ i_;have h2:=T6 (hAL h1 #[.pointer (some ⟨b,0,none⟩),.map (some w.heap.size)] 170).swap;rw [show (w.alloc (.map #[] 0)).heap.size=w.heap.size+1 by simp] at h2;exact h2
theorem Ul (h:Has W w (sTR b s ns::Ps)) (id:Int) :
  Calls Tryz.prog 73 #[.pointer (some ⟨b,0,none⟩),.int .i64 id] w (J6 W b s ns id Ps):=by
 have hg:=A4 h;have HN:=q_ (fun w1 Qs (h1:Has W w1 (sTR b s ns::Qs))=>M6 h1 id);have H:=q_ h;unfold J6;unfold kQ_ at HN;unfold kQ_ frQ;by_cases h0:lvl s (A8 s ns) id<0;·
  simp only [if_pos h0] at HN ⊢;clear h hg;go_enter Tryz.func73,Tryz.ntmps73;go_wp2_with fail;have h1:=(hAL H.o #[.bool false,.slice none 0 0,.bool false,.slice none 0 0,.bool false,.slice none 0 0,.bool false,.slice none 0 0] 66).swap;refine (HN.o _ _ h1).mono ?_;rintro e w1 ⟨rfl,hs,hf⟩;obtain⟨rq,hrq⟩:∃ r4,w.heap.size=r4:=⟨_,rfl⟩;rw [hrq] at hs ⊢;have hr:=hs.swap.blk;obtain⟨r0,r1,r2,r3,r4,r5,r6⟩:=e7_ hr;have r7':=hEC hr 7;have rz0:=hEF hr 0;have rz1:=hEF hr 1;have rz2:=hEF hr 2;have rz3:=hEF hr 3;have rz4:=hEF hr 4;have rz5:=hEF hr 5;have rz6:=hEF hr 6;have rz7':=hEF hr 7;have rl:=lBk hr;have H1:=q_ hs;clear hs hf hr h1 hrq;go_wp2;refine bodyPost_ret (Ny rfl (b:=rq) (f:=zFV false) rfl ?_ rfl rfl) rfl ⟨zFV false,[zBV],rfl,?_,by simp [Jb,coF,zFV,zBV],by simp [InL,zFV]⟩;·
   have h2:=hST (hST (hST (hST (hST (hST (hST (hST H1.o.swap 0 (.bool false)) 1 (.slice none 0 0)) 2 (.bool false)) 3 (.slice none 0 0)) 4 (.bool false)) 5 (.slice none 0 0)) 6 (.bool false)) 7 (.slice none 0 0);rw [Nv];exact h2.blk
  ·have h2:=hST (hST (hST (hST (hST (hST (hST (hST H1.o.swap 0 (.bool false)) 1 (.slice none 0 0)) 2 (.bool false)) 3 (.slice none 0 0)) 4 (.bool false)) 5 (.slice none 0 0)) 6 (.bool false)) 7 (.slice none 0 0);exact (z_in (T6 h2.drop)).swap
 ·simp only [if_neg h0] at HN ⊢;obtain⟨n,hn,hn256,hi⟩:=Fv hg (id:=id) o_;have HT:=q_ (Fs n hi.2.2.1);have HC:=q_ (fun fb rb w1 Qs L mm (h1:Has W w1 (frL b fb rb s ns L mm Qs)) (hI:FInv s ns L mm)=>frame_q (W:=W) n hn256 w1 Qs L mm id _ h1 hI hi);clear h hg h0 hn hi;have hmm:=@run_makeMap Tryz.prog;go_enter Tryz.func73,Tryz.ntmps73;go_wp2_with fail;have h1:=(hAL H.o #[.bool false,.slice none 0 0,.bool false,.slice none 0 0,.bool false,.slice none 0 0,.bool false,.slice none 0 0] 66).swap;refine (HN.o _ _ h1).mono ?_;rintro e w1 ⟨rfl,hs,hf⟩;obtain⟨rq,hrq⟩:∃ r4,w.heap.size=r4:=⟨_,rfl⟩;rw [hrq] at hs ⊢;have hr:=hs.swap.blk;obtain⟨r0,r1,r2,r3,r4,r5,r6⟩:=e7_ hr;have r7':=hEC hr 7;have rz0:=hEF hr 0;have rz1:=hEF hr 1;have rz2:=hEF hr 2;have rz3:=hEF hr 3;have rz4:=hEF hr 4;have rz5:=hEF hr 5;have rz6:=hEF hr 6;have rz7':=hEF hr 7;have rl:=lBk hr;have H1:=q_ hs;clear hs hf hr h1 hrq;go_wp2_with fail;have h2:=has_framer H1.o;refine (HC.o _ _ _ _ _ _ h2 (by intro e he;cases he)).mono ?_;rintro e w2 ⟨⟨ok,f0,f1,f2,f3⟩,L2,mm2,rfl,h5,hI5,hs5,hok5,hin5⟩;clear r0 r1 r2 r3 r4 r5 r6 r7' rz0 rz1 rz2 rz3 rz4 rz5 rz6 rz7' rl h2;have h5:=h5.ord 5 [4,0,3];simp only [List.filterMap_cons,List.filterMap_nil,List.getElem?_cons_zero,List.getElem?_cons_succ,List.drop_succ_cons,List.drop_zero,List.cons_append,List.nil_append,List.take_succ_cons,List.take_zero,List.eraseIdx_cons_succ,List.eraseIdx_zero,List.eraseIdx_cons_zero,List.tail_cons,Option.toList_some] at h5;have hr:=h5.blk;obtain⟨r0,r1,r2,r3,r4,r5,r6⟩:=e7_ hr;have r7':=hEC hr 7;have rz0:=hEF hr 0;have rz1:=hEF hr 1;have rz2:=hEF hr 2;have rz3:=hEF hr 3;have rz4:=hEF hr 4;have rz5:=hEF hr 5
  have rz6:=hEF hr 6;have rz7':=hEF hr 7;have rl:=lBk hr;have H5:=q_ h5;have HOK5:=q_ (And.intro hok5 hin5);clear h5 hr hI5 hs5 hok5 hin5;simp only [fvV,fCL];go_wp2;go_region;have h0:=H5.o;have h1:=hST (hST (hST (hST h0 0 (.bool false)) 1 (.slice f0.2.1 (zd (f0.1:Int)).length f0.2.2)) 2 (.bool false)) 3 (.slice f1.2.1 (zd (f1.1:Int)).length f1.2.2);have h2:=hST (hST (hST (hST h1 4 (.bool false)) 5 (.slice f2.2.1 (zd (f2.1:Int)).length f2.2.2)) 6 (.bool false)) 7 (.slice f3.2.1 (zd (f3.1:Int)).length f3.2.2);rw [show (#[Value.bool false,.slice none 0 0,.bool false,.slice none 0 0,.bool false,.slice none 0 0,.bool false,.slice none 0 0]:Array Value)=Df (zFV false) from (Nv false).symm,lcells_store _ ok] at h2;have h2:=h2.step (((Fr.refl [] _).alloc (.cells (fCL (ok,f0,f1,f2,f3)) 172)).drew);simp only [fCL] at h2;have H6:=q_ h2;clear h0 h1 h2;go_wp2;refine bodyPost_ret (Ny rfl (b:=rq) (f:=(ok,f0,f1,f2,f3)) rfl ?_ rfl rfl) rfl ⟨(ok,f0,f1,f2,f3),L2,rfl,?_,by rw [HT.o];exact HOK5.o.1,HOK5.o.2⟩;·exact H6.o.blk
  ·exact H6.o.drop.swap
end Go.Proofs.YtebolidfbflkmaaGreat
namespace Go.Proofs.YtebolidfbflkmaaGreat
open Qs Ev Uni
def Ob (F:Fld) (x0 y0 x1 y1:Int):Prop:=(∀ i j,F i j≠0→x0≤i∧i≤x1∧y0≤j∧j≤y1)∧(∃ j,F x0 j≠0)∧(∃ i,F i y0≠0)∧(∃ j,F x1 j≠0)∧∃ i,F i y1≠0
variable {n:Nat}{F:Fld}
theorem box_mid (hF:Inside n F):(∀ f,frT (n+1) (mid n F)=some f→Ob F (f.1 - p2 n) (f.2.1 - p2 n) (f.2.2.1 - p2 n) (f.2.2.2 - p2 n))∧(frT (n+1) (mid n F)=none→∀ i j,F i j=0):=by
 have e:=Ac n;obtain⟨h1,h2⟩:=fr_is (n+1) F (-p2 n) (-p2 n);have ins:∀ i j,F i j≠0→-p2 n≤i∧i<p2 n∧-p2 n≤j∧j<p2 n:=fun i j h=>Classical.not_not.1 fun hc=>h (hF i j hc);constructor;·
  intro f hf;have hI:=h1 f hf;refine⟨fun i j h=>?_,?_,?_,?_,?_⟩;·
   have:=ins i j h;have:=hI.all (i+p2 n) (j+p2 n) o_ o_ o_ o_ (by rwa [show -p2 n+(i+p2 n)=i by omega,show -p2 n+(j+p2 n)=j by omega]);omega
  ·obtain⟨i,j,_,_,_,_,h,q⟩:=hI.left;exact⟨-p2 n+j,by rw [← q,show i - p2 n=-p2 n+i by omega];exact h⟩
  ·obtain⟨i,j,_,_,_,_,h,q⟩:=hI.top;exact⟨-p2 n+i,by rw [← q,show j - p2 n=-p2 n+j by omega];exact h⟩
  ·obtain⟨i,j,_,_,_,_,h,q⟩:=hI.right;exact⟨-p2 n+j,by rw [← q,show i - p2 n=-p2 n+i by omega];exact h⟩
  ·obtain⟨i,j,_,_,_,_,h,q⟩:=hI.bottom;exact⟨-p2 n+i,by rw [← q,show j - p2 n=-p2 n+j by omega];exact h⟩
 ·intro hn i j;have h3:=h2 hn;refine Classical.byContradiction fun h=>h ?_;have:=ins i j h;have:=h3 (i+p2 n) (j+p2 n) o_ o_ o_ o_;rwa [show -p2 n+(i+p2 n)=i by omega,show -p2 n+(j+p2 n)=j by omega] at this
theorem box_in (hF:Inside n F) {x0 y0 x1 y1:Int} (hb:Ob F x0 y0 x1 y1):(-p2 n≤x0∧x0<p2 n)∧(-p2 n≤y0∧y0<p2 n)∧(-p2 n≤x1∧x1<p2 n)∧-p2 n≤y1∧y1<p2 n:=by have ins:∀ i j,F i j≠0→-p2 n≤i∧i<p2 n∧-p2 n≤j∧j<p2 n:=fun i j h=>Classical.not_not.1 fun hc=>h (hF i j hc);obtain⟨_,⟨a,h1⟩,⟨b,h2⟩,⟨c,h3⟩,d,h4⟩:=hb;have:=ins _ _ h1;have:=ins _ _ h2;have:=ins _ _ h3;have:=ins _ _ h4;omega
variable {s id:Int}{ns:List K4}{t:Tr}
theorem Pi (hg:GoodQ s ns) (hi:Is s ns n id t):kQ_ s ns id=0:=by unfold kQ_;rw [hi.lvl hg,if_neg o_]
theorem frq_is (hg:GoodQ s ns) (hi:Is s ns n id t):frQ s ns id=frT n t:=by unfold frQ;rw [hi.lvl hg,if_neg o_,hi.2.1,Fs n hi.2.2.1]
theorem popq_is (hg:GoodQ s ns) (hi:Is s ns n id t):popQ s ns id=B0 t:=by unfold popQ;rw [hi.lvl hg,if_neg o_,hi.2.1]
theorem Q8 (hg:GoodQ s ns) (hi:Is s ns (n+1) id (mid n F)) (hF:Inside n F) {f:FV} (hf:Jb (frQ s ns id) f) :
  (f.1=true∧Ob F ((f.2.1.1:Int) - p2 n) ((f.2.2.1.1:Int) - p2 n) ((f.2.2.2.1.1:Int) - p2 n) ((f.2.2.2.2.1:Int) - p2 n))∨(f.1=false∧∀ i j,F i j=0):=by
 rw [frq_is hg hi] at hf;obtain⟨h1,h2,h3,h4,h5⟩:=hf;obtain⟨b1,b2⟩:=box_mid hF;cases ho:frT (n+1) (mid n F) with
 | none =>rw [ho] at h1;exact .inr ⟨h1,b2 ho⟩
 | some o =>rw [ho] at h1 h2 h3 h4 h5;have:=b1 o ho;refine .inl ⟨h1,?_⟩;rw [h2,h3,h4,h5];exact this
variable {k:Nat}
theorem step_mid {r:Rule} (hr:Ar r=true) (hk:k≤203) (F:Fld):stp (gen r) 207 k (mid 206 F)=mid 205 (it (gen r) (2 ^ k) F):=by
 have hr2:=Aa r.hood;have e:p2 206=p2 205+p2 205:=Ac 205;unfold mid;rw [Iq (Eg hr) o_];·rw [show -p2 206+p2 (207 - 2)=-p2 205 by rw [show 207 - 2=205 from rfl];omega]
 ·have h1:p2 k≤p2 203:=Te hk;have h2:p2 204=p2 203+p2 203:=Ac 203;have h3:p2 205=p2 204+p2 204:=Ac 204;have h4:=C2 k;rw [show 207 - 2=205 from rfl];have:A3 r.hood*p2 k≤2*p2 k:=Int.mul_le_mul_of_nonneg_right hr2.2 o_;omega
theorem bit_up (h:n / 2 ^ k % 2=1):n % 2 ^ (k+1)=2 ^ k+n % 2 ^ k:=by rw [Nat.pow_succ,Nat.mod_mul,h];omega
theorem bit_no (h:n / 2 ^ k % 2≠1):n % 2 ^ (k+1)=n % 2 ^ k:=by
 have:n / 2 ^ k % 2=0:=o_
 rw [Nat.pow_succ,Nat.mod_mul,this];omega
open Go Go.RowKit Rg Mp Hp Bn
variable {W w:World}{U:UP}{mm:List ((Int×Int)×Int)}{Ps:List Res}{ux:Nat}
theorem run1_u (h:Has W w (A6 U ns mm Ps)) (hi:Is U.r.S ns 201 id (mid 200 F)) (hF:Inside 200 F) (hl:ns.length+1500≤88000)
  (k0:w.heap[ux]?=some (.cells #[.pointer (some ⟨U.ub,0,none⟩)] 44 (0,0))) :
  Calls Tryz.prog 51 #[.int .i64 id,.pointer (some ⟨ux,0,none⟩)] w fun e w' =>
   ∃ x,e=.returned (.tuple #[.int .i64 x,.int .i64 0])∧∃ ns',Has W w' (A6 U ns' mm Ps)∧ns <+: ns'∧ns'.length≤ns.length+1500∧Is U.r.S ns' 206 x (mid 205 F):=by
 have HE:=q_ (fun w1 (hf:Fr [] w w1)=>U6 (h.step hf) (m:=5) (n:=200) hi hF o_ o_);have Ha:=q_ k0;have a0:=hEC Ha.o 0;have al:=lBk Ha.o;clear h hi hF hl k0;go_enter Tryz.func51,Tryz.ntmps51;go_wp2_with fail;refine (HE.o _ (Fr.t)).mono ?_;rintro e w1 ⟨x,ns',rfl,h1⟩;have H1:=q_ h1;clear h1 HE;go_wp2;go_ret2;first|exact⟨x,rfl,ns',H1.o⟩|exact⟨ns',H1.o⟩
theorem S7 {m:Nat} {u:Tr} (h:Is s ns n id t) (k:Is s ns m id u):n=m∧t=u:=by have e:t=u:=h.2.1.symm.trans k.2.1;refine⟨?_,e⟩;have h1:=Fs n h.2.2.1;have h2:=Fs m k.2.2.1;rw [← h1,← h2,e]
variable {b:Nat}
theorem A5 {o:Obj} (h:Has W w Ps) (hm:Hp.blk b o∈Ps):w.heap[b]?=some o:=by obtain⟨G,h1⟩:=M9 h hm;exact h1.1
theorem um_ {P:Res} (h:P∈Ps):P∈A6 U ns mm Ps:=by simp [A6,A9,h]
variable {ha na:Option Addr}{hc nc c:Nat}{L:List Tr}
theorem step_u (h:Has W w (A6 U ns mm Ps)) (hR:Ar U.r=true) (e1:U.hv=.slice ha U.r.hood.length hc) (e2:U.nv=.slice na U.r.nodes.length nc) (hsrc:RuleSrc W U.hv U.nv U.r Ps)
 (hi:Is U.r.S ns 207 id (mid 206 F)) (hroom:G0 U.r.S ns L c) (hkept:Kept U.r ns mm) (hk:k<200) (hL:∀ u∈Da (gen U.r) (A1 (A3 U.r.hood)) 207 k (mid 206 F),u∈L) :
  Calls Tryz.prog 55 #[.pointer (some ⟨U.mb,0,none⟩),.int .i64 id,.int .i64 k] w fun e w' =>
   ∃ x ns' mm',e=.returned (.tuple #[.int .i64 x,.int .i64 0])∧Has W w' (A6 U ns' mm' Ps)∧ns <+: ns'∧G0 U.r.S ns' L c∧Kept U.r ns' mm'∧Is U.r.S ns' 206 x (mid 205 (it (gen U.r) (2 ^ k) F)):=by
 obtain⟨r,hv,nv,ub,mb,sb,rb,root,G,ga,gc⟩:=U;simp only at e1 e2 hi hroom hkept hL hsrc hR;subst e1 e2;have hr:=Aa r.hood;have hlo:=D3 hr.1 hr.2;refine (MStep_calls hR (hsrc.more fun P hP=>List.mem_cons_of_mem _ (List.mem_cons_of_mem _ hP)) h hroom hkept id k fun n k' t hi' hkk h3 h4=>?_).mono ?_;·
  obtain⟨rfl,rfl⟩:=S7 hi hi';obtain rfl:k=k':=o_
  exact⟨o_,fun u hu=>List.mem_append_right _ (hL u hu)⟩
 ·rintro e w' (⟨hn,_⟩|⟨n,t,hi',hkk,_⟩|⟨n,t,k',hi',hkk,_,_,x,ns',mm',rfl,h1,h2,h3,h4,h5,_⟩);·exact absurd hi.1 hn
  ·obtain⟨rfl,rfl⟩:=S7 hi hi';exfalso;unfold Jp at hkk;omega
  ·obtain⟨rfl,rfl⟩:=S7 hi hi';obtain rfl:k=k':=o_;rw [step_mid hR o_] at h5;exact⟨x,ns',mm',rfl,h1,h2,h3,h4,h5⟩
theorem run2_u (h:Has W w (A6 U ns mm Ps)) (hR:Ar U.r=true) (e1:U.hv=.slice ha U.r.hood.length hc) (e2:U.nv=.slice na U.r.nodes.length nc) (hsrc:RuleSrc W U.hv U.nv U.r Ps)
 (hi:Is U.r.S ns 206 id (mid 205 F)) (hF:Inside 205 F) (hroom:G0 U.r.S ns L (c+300)) (h2c:2000≤c) (hkept:Kept U.r ns mm) (hk:k<200) (hL:∀ u∈Da (gen U.r) (A1 (A3 U.r.hood)) 207 k (mid 206 F),u∈L) {kb:Nat}
  (k0:Hp.blk ux (.cells #[.pointer (some ⟨U.ub,0,none⟩)] 44 (0,0))∈Ps) (k1:Hp.blk kb (.cells #[.int .i64 k] 3 (0,0))∈Ps) :
  Calls Tryz.prog 54 #[.int .i64 id,.pointer (some ⟨ux,0,none⟩),.pointer (some ⟨kb,0,none⟩)] w fun e w' =>
   ∃ x,e=.returned (.tuple #[.int .i64 x,.int .i64 0])∧∃ ns' mm',Has W w' (A6 U ns' mm' Ps)∧ns <+: ns'∧G0 U.r.S ns' L c∧Kept U.r ns' mm'∧Is U.r.S ns' 206 x (mid 205 (it (gen U.r) (2 ^ k) F)):=by
 have hle:=Mx (A4 (uS_ h)) hroom;have HE:=q_ (U6 h (m:=1) (n:=205) hi hF o_ o_);have HB:=q_ (fun w1 mm1 ns1 (h1:Has W w1 (A6 U ns1 mm1 Ps))=>And.intro (A5 h1 (um_ k0)) (A5 h1 (um_ k1)));have HS:=q_ (fun w1 ns1 id1 (h1:Has W w1 (A6 U ns1 mm Ps)) (hp:ns <+: ns1) (hl:ns1.length≤ns.length+300) (hi1:Is U.r.S ns1 207 id1 (mid 206 F)) =>
  step_u h1 hR e1 e2 hsrc hi1 (by have:=rG_ (A4 (uS_ h)) (A4 (uS_ h1)) hroom hp hl o_;rwa [Nat.add_sub_cancel] at this) (hkept.grow hp) hk hL)
 have H:=q_ h;clear h hR e1 e2 hsrc hi hF hroom h2c hkept hk hL k0 k1 hle;have hb:=HB.o _ _ _ H.o;have a0:=hEC hb.1 0;have al:=lBk hb.1;have b0:=hEC hb.2 0;have bl:=lBk hb.2;clear hb;go_enter Tryz.func54,Tryz.ntmps54;go_wp2_with fail;refine HE.o.mono ?_;rintro e w1 ⟨x,ns1,rfl,h1,hp1,hl1,hi1⟩;have HS1:=q_ (HS.o w1.drew _ _ (h1.step (Fr.t)) hp1 hl1 hi1);have H1:=q_ h1;have HP1:=q_ hp1;clear h1 hp1 hl1 hi1 HE HS a0 al b0 bl H;have hb:=HB.o _ _ _ H1.o;have a0:=hEC hb.1 0;have al:=lBk hb.1;have b0:=hEC hb.2 0;have bl:=lBk hb.2;obtain⟨_,_,u4,_,_,ul⟩:=uC_ H1.o;clear hb;go_wp2;refine wS [([0,1,2,3,4,5,6,7,8,9,10],[])] ?_;(simp only [A2,pick,aq_,bq_,cq_,dq_,eq_]);go_wp2_with fail;refine (HS1.o).mono ?_;rintro e w2 ⟨y,ns2,mm2,rfl,h2⟩;have H2:=q_ h2;clear h2 HS1;go_wp2;refine mD_ ⟨trivial,sT_ rfl ?_⟩;go_wp2;go_ret2;exact⟨y,rfl,ns2,mm2,H2.o.1,HP1.o.trans H2.o.2.1,H2.o.2.2⟩
theorem ao_ {P:Program} {ops:Array Oper} {o:Oper} {a:Act} {T:TypeId} {x:Operand} {off:Nat} {p q:Value} {cs:Array Value} {d:TypeDesc} (hk:ops[k]?=some o) (ho:o.op=.load T x)
  (hx:a.eval x=.pointer (some ⟨b,off,none⟩)) (hT:P.underlying T=some d) (hd:d.isRow=true) (hi:(P.info? T).map (·.size)=some 2) {T':TypeId} (h:w.heap[b]?=some (.cells cs T' (0,0))) (h0:cs[off]?=some p) (h1:cs[off+1]?=some q)
  (hv:(a.put o.dst (.agg #[p,q])).tmps=a.tmps):again P ops k a w :=
 aGR (cs:=[p,q]) hk ho hx hT hd hi (fun j v hj=>by
  rw [hEC h]
  rcases j with _|_|j
  ·rw [← hj];exact h0
  ·rw [← hj];exact h1
  ·simp at hj) hv
theorem bv_z {L:List BV} (h:Has W w Ps) (hm:G4 L∈Ps) {e:BV} (he:e∈L):BigZ w (fun _=>True) (.agg #[.bool false,.slice e.2.1 (zd (e.1:Int)).length e.2.2]) (e.1:Int):=by have:=B6 h hm he;exact⟨e.2.1,e.2.2,by rw [decide_eq_false o_],this.len,fun _ _=>trivial,this.rd⟩
theorem O8 {z:Int} {a:Option Addr} {ng:Bool} (h:Has W w Ps) (hn:decide (z<0)=ng) (hm:B4 ng (zd z) a c∈Ps):BigZ w (fun _=>True) (.agg #[.bool ng,.slice a (zd z).length c]) z:=by subst hn;obtain⟨F,h1,_⟩:=M9 h hm;exact⟨a,c,rfl,h1.len,fun _ _=>trivial,h1.rd⟩
theorem outside_u (h:Has W w (A6 U ns mm Ps)) (hi:Is U.r.S ns 206 id (mid 205 F)) (hF:Inside 200 F) {R:Int} (hR:((2 ^ 200:Nat):Int)=R) {C:Int} (hC:((2 ^ 205:Nat):Int)=C) :
  Calls Tryz.prog 56 #[.pointer (some ⟨U.ub,0,none⟩),.int .i64 id] w fun e w' =>
   e=.returned (.tuple #[.bool false,.int .i64 0])∧Has W w' (A6 U ns mm Ps):=by
 have hg:=A4 (uS_ h);have hkn:=Pi hg hi;have hBQ:=Ul (uS_ h) id;have HBM:=q_ (fun f (hf:Jb (frQ U.r.S ns id) f)=>Q8 hg hi (hF.more o_) hf);have HBI:=q_ (fun x0 y0 x1 y1 (hb:Ob F x0 y0 x1 y1)=>box_in hF hb);have hC':p2 205=C:=hC;have hR':p2 200=R:=hR;rw [hC'] at HBM;rw [hR'] at HBI;unfold J6 at hBQ;rw [hkn] at hBQ;have HBQ:=q_ hBQ;have hzC:Zok C:=hC▸Bh (n:=205) o_;have hzN:Zok (-C):=by unfold Zok at hzC ⊢;omega
 have hC1:1≤C:=by rw [← hC'];have:=C2 205;omega
 have hRC:R≤C:=by rw [← hC',← hR'];exact Te o_
 have HPW:=q_ (fun w1=>(hC▸Dz w1 (k:=205) (H:=2 ^ 205) rfl o_:Calls Tryz.prog 49 #[.int .i64 205] w1 (D2 w1 C)));have HNG:=q_ (fun w1 (A:Nat→Prop) v (hv:BigZ w1 A v C)=>Qf hv hzC (L9 hv o_));have HCK:=q_ (fun w1 (A B:Nat→Prop) v u x y (hv:BigZ w1 A v x) (hu:BigZ w1 B u y) (hx:Zok x) (hy:Zok y)=>Sm hR hv hu hx hy);have HZ:=q_ (And.intro hzC (And.intro hzN (And.intro hC1 hRC)));have hu:=uH_ h;have u1:=hEC hu 3;have ul:=lBk hu;clear h hi hF hR hC hg hkn hBQ hzC hzN hC1 hRC hR' hu;go_enter Tryz.func56,Tryz.ntmps56;go_wp2_with fail;refine HBQ.o.mono ?_;rintro e w1 ⟨f,L,rfl,h1,hf,hl⟩;have hbox:=HBM.o f hf;have h2:=hAL h1 (Df f) 66;obtain⟨ok,⟨v0,a0,c0⟩,⟨v1,a1,c1⟩,⟨v2,a2,c2⟩,⟨v3,a3,c3⟩⟩:=f;unfold Df at h2;unfold Df;simp only at h2 hbox hl ⊢;have HL:=q_ hl;have HBX:=q_ hbox;cases ok with
 | false =>have H2:=q_ h2;clear h2 hbox hf hl h1 HPW HNG HCK;go_wp2;go_ret2;exact⟨rfl,H2.o.drop.swap.drop⟩
 | true =>
  have hin:(-R≤(v0:Int) - C∧(v0:Int) - C<R)∧(-R≤(v1:Int) - C∧(v1:Int) - C<R)∧(-R≤(v2:Int) - C∧(v2:Int) - C<R)∧-R≤(v3:Int) - C∧(v3:Int) - C<R:=by
   rcases hbox with ⟨_,hb⟩|⟨hb,_⟩
   ·exact HBI.o _ _ _ _ hb
   ·cases hb
  have hzz:∀ v:Nat,(v:Int) - C<R→Zok (v:Int)∧Zok ((v:Int)+-C):=fun v hv=>by
   have z2:Zok (C+C):=by
    have:=Bh (n:=206) o_;have e:((2 ^ 206:Nat):Int)=C+C:=by have:=Ac 205;rw [hC'] at this;exact this
    rwa [e] at this
   have:=HZ.o;exact⟨E7 z2 o_,E7 z2 o_⟩
  have hck:∀ u v:Nat,(-R≤(u:Int) - C∧(u:Int) - C<R)→(-R≤(v:Int) - C∧(v:Int) - C<R)→Sl R ((u:Int)+-C) ((v:Int)+-C)=0:=fun u v a b=>if_pos ⟨by unfold inV;omega,by unfold inV;omega⟩;have HC01:=q_ (hck v0 v1 hin.1 hin.2.1);have HC23:=q_ (hck v2 v3 hin.2.2.1 hin.2.2.2);have Z0:=q_ (hzz v0 hin.1.2);have Z1:=q_ (hzz v1 hin.2.1.2);have Z2:=q_ (hzz v2 hin.2.2.1.2);have Z3:=q_ (hzz v3 hin.2.2.2.2);obtain⟨lb,hlb⟩:∃ t,w1.heap.size=t:=⟨_,rfl⟩;rw [hlb] at h2;have H2:=q_ h2;have HCC:=q_ hC';clear h2 hbox hf hl h1 hck hzz hin hC' HBX HBI HBM HBQ u1 ul;go_wp2_with fail;refine (HPW.o _).mono ?_;rintro e w3 ⟨vp,rfl,hb3,hf⟩;have H3:=q_ (H2.o.step (Fr.trans0 (Fr.t) hf));have HN3:=q_ (HNG.o _ _ _ hb3);clear hb3 hf H2 HPW;go_wp2_with fail;refine HN3.o.mono ?_;rintro e w4 ⟨vn,rfl,hb4,hf⟩;obtain⟨p,q,rfl,h4⟩:=Bj H3.o hf hb4 HZ.o.2.1;obtain⟨ng,hng⟩:∃ b,decide (-C<0)=b:=⟨_,rfl⟩;rw [hng] at h4 ⊢;have h5:=hAL h4 #[.bool ng,.slice p (zd (-C)).length q] 30;obtain⟨cb,hcb⟩:∃ t,w4.heap.size=t:=⟨_,rfl⟩;rw [hcb] at h5;obtain⟨w5,hw5⟩:∃ t,w4.alloc (.cells #[.bool ng,.slice p (zd (-C)).length q] 30 (0,0))=t:=⟨_,rfl⟩;rw [hw5] at h5;have H5:=q_ h5;have hbk:=h5.blk;have Hk:=q_ hbk;obtain⟨k0,k1,kl⟩:=l2_ hbk;have hlk:=h5.drop.drop.blk;have Hb:=q_ hlk;obtain⟨b0,b1,b2,b3,b4,b5,b6,b7,bl⟩:=l8_ hlk;have HP0:=q_ (fun w' (hf:Fr [] w5 w')=>Co (bv_z (h5.step hf) i_ HL.o.1) (O8 (h5.step hf) (z:=-C) (a:=p) (c:=q) hng i_) Z0.o.1 HZ.o.2.1 Z0.o.2);have HP1:=q_ (fun w' (hf:Fr [] w5 w')=>Co (bv_z (h5.step hf) i_ HL.o.2.1) (O8 (h5.step hf) (z:=-C) (a:=p) (c:=q) hng i_) Z1.o.1 HZ.o.2.1 Z1.o.2)
  have HP2:=q_ (fun w' (hf:Fr [] w5 w')=>Co (bv_z (h5.step hf) i_ HL.o.2.2.1) (O8 (h5.step hf) (z:=-C) (a:=p) (c:=q) hng i_) Z2.o.1 HZ.o.2.1 Z2.o.2);have HP3:=q_ (fun w' (hf:Fr [] w5 w')=>Co (bv_z (h5.step hf) i_ HL.o.2.2.2) (O8 (h5.step hf) (z:=-C) (a:=p) (c:=q) hng i_) Z3.o.1 HZ.o.2.1 Z3.o.2);simp only at HP0 HP1 HP2 HP3;clear h4 h5 hb4 hf hbk hlk HN3 H3 hng;go_wp2;clear hw5 hcb;refine wS [([0,1,2,4,5,6,3],[5,6]),([7],[]),([8],[]),([9,10,11,12,13,15,16,17,14],[16,17]),([18],[]),([19,20,21,22,23],[])] ?_;(simp only [A2,pick,aq_,bq_,cq_,dq_,eq_]);go_wp2_with fail;refine (HP0.o _ (Fr.t)).mono ?_;rintro e w6 ⟨s0,rfl,hs0,hf⟩;have hf:=Fr.trans0 (Fr.t:Fr [] w5 _) hf;(try clear k0 k1 kl);have hk_:=tk hf Hk;clear Hk;obtain⟨k0,k1,kl⟩:=l2_ hk_;have Hk:=q_ hk_;clear hk_;(try clear b0 b1 b2 b3 b4 b5 b6 b7 bl);have hb_:=tk hf Hb;clear Hb;obtain⟨b0,b1,b2,b3,b4,b5,b6,b7,bl⟩:=l8_ hb_;have Hb:=q_ hb_;clear hb_;have Hf6:=q_ hf;have HS0:=q_ hs0;clear hf hs0 HP0;go_wp2;refine mD_ ⟨⟨ao_ (T:=30) rfl rfl rfl Tryz.underlying30 rfl k_ Hb.o rfl rfl rfl,ab_ (T:=30) rfl rfl rfl Tryz.underlying30 rfl k_ Hk.o rfl,trivial⟩,?_⟩;go_wp2_with fail;refine (HP1.o _ Hf6.o).mono ?_;rintro e w7 ⟨s1,rfl,hs1,hf⟩;(try clear k0 k1 kl);have hk_:=tk hf Hk;clear Hk;obtain⟨k0,k1,kl⟩:=l2_ hk_;have Hk:=q_ hk_;clear hk_;(try clear b0 b1 b2 b3 b4 b5 b6 b7 bl);have hb_:=tk hf Hb;clear Hb;obtain⟨b0,b1,b2,b3,b4,b5,b6,b7,bl⟩:=l8_ hb_;have Hb:=q_ hb_;clear hb_;have Hf7:=q_ (Hf6.o.trans0 hf)
  have hk:=HCK.o w7 _ _ s0 s1 _ _ (HS0.o.fr0 hf) hs1 Z0.o.2 Z1.o.2;rw [HC01.o] at hk;have HK:=q_ hk;clear hf hs1 hk HP1 Hf6 HS0 HC01;go_wp2;refine mD_ ⟨trivial,?_⟩;go_wp2_with fail;refine (HK.o).mono ?_;rintro e w8 ⟨rfl,hf⟩;(try clear k0 k1 kl);have hk_:=tk hf Hk;clear Hk;obtain⟨k0,k1,kl⟩:=l2_ hk_;have Hk:=q_ hk_;clear hk_;(try clear b0 b1 b2 b3 b4 b5 b6 b7 bl);have hb_:=tk hf Hb;clear Hb;obtain⟨b0,b1,b2,b3,b4,b5,b6,b7,bl⟩:=l8_ hb_;have Hb:=q_ hb_;clear hb_;have Hf8:=q_ (Hf7.o.trans0 hf);clear hf HK Hf7;go_wp2;refine mD_ ⟨trivial,?_⟩;go_wp2_with fail;refine (HP2.o _ Hf8.o).mono ?_;rintro e w9 ⟨s2,rfl,hs2,hf⟩;(try clear k0 k1 kl);have hk_:=tk hf Hk;clear Hk;obtain⟨k0,k1,kl⟩:=l2_ hk_;have Hk:=q_ hk_;clear hk_;(try clear b0 b1 b2 b3 b4 b5 b6 b7 bl);have hb_:=tk hf Hb;clear Hb;obtain⟨b0,b1,b2,b3,b4,b5,b6,b7,bl⟩:=l8_ hb_;have Hb:=q_ hb_;clear hb_;have Hf9:=q_ (Hf8.o.trans0 hf);have HS2:=q_ hs2;clear hf hs2 HP2 Hf8;go_wp2;refine mD_ ⟨⟨ao_ (T:=30) rfl rfl rfl Tryz.underlying30 rfl k_ Hb.o rfl rfl rfl,ab_ (T:=30) rfl rfl rfl Tryz.underlying30 rfl k_ Hk.o rfl,trivial⟩,?_⟩;go_wp2_with fail;refine (HP3.o _ Hf9.o).mono ?_;rintro e w10 ⟨s3,rfl,hs3,hf⟩;(try clear k0 k1 kl);have hk_:=tk hf Hk;clear Hk;obtain⟨k0,k1,kl⟩:=l2_ hk_;have Hk:=q_ hk_;clear hk_;(try clear b0 b1 b2 b3 b4 b5 b6 b7 bl);have hb_:=tk hf Hb;clear Hb;obtain⟨b0,b1,b2,b3,b4,b5,b6,b7⟩:=e8_ hb_
  have bl:=lBk hb_;have Hb:=q_ hb_;clear hb_;have Hf10:=q_ (Hf9.o.trans0 hf);have hk:=HCK.o w10 _ _ s2 s3 _ _ (HS2.o.fr0 hf) hs3 Z2.o.2 Z3.o.2;rw [HC23.o] at hk;have HK:=q_ hk;clear hf hs3 hk HP3 Hf9 HS2 HC23;go_wp2;refine mD_ ⟨trivial,?_⟩;go_wp2_with fail;refine (HK.o).mono ?_;rintro e w11 ⟨rfl,hf⟩;have H11:=q_ (H5.o.step (Hf10.o.trans0 hf));clear hf HK Hf10;go_wp2;refine mD_ ⟨trivial,sT_ rfl ?_⟩;go_wp2;go_ret2;exact⟨rfl,H11.o.drop.drop.drop.swap.drop⟩
end Go.Proofs.YtebolidfbflkmaaGreat
namespace Go.Proofs.Rg
open Go
def pairsX (gx:Nat→Nat→Bool) (P:Program) (ops:Array Oper) (π:List Nat) (b:Array Nat) (chk:Nat→List Nat) (o:Oper) (j:Nat):Bool :=
 π.all fun i=>!decide (Ax π i<Ax π j) || Cs b j i || gx i j || match ops[i]? with
  | some oi=>oi.apart ops o && clG (chk j) i (cl P oi.op) (cl P o.op)
  | none=>true
def N2 (gx:Nat→Nat→Bool) (P:Program) (ops:Array Oper) (π:List Nat) (chk:Nat→List Nat) (b:Array Nat):Bool :=
 Region.noSelect ops && decide (π.length=ops.size) && (List.range ops.size).all (fun j=>π.contains j) && π.all (fun j=>decide (j<ops.size)) && decide π.Nodup &&
 (List.range ops.size).all fun j=>match ops[j]? with
  | some o=>Sc π o j && Jq b o j && R3 ops π b o j && pairsX gx P ops π b chk o j && Qo P ops o && (chk j).all (Nk P ops π b j) && ((chk j).isEmpty || cl P o.op == .any)
  | none=>true
def Tf (gx:Nat→Nat→Bool) (P:Program) (ops:Array Oper) (π:List Nat) (chk:Nat→List Nat):Bool:=N2 gx P ops π chk (Region.before ops)
section
variable {P:Program} {ops:Array Oper} {K0:Act→World→Prop} {b:Array Nat} {π:List Nat} {chk:Nat→List Nat}
structure OrderedX (gx:Nat→Nat→Bool) (P:Program) (ops:Array Oper) (π:List Nat) (chk:Nat→List Nat) (b:Array Nat):Prop where
 select:Region.noSelect ops=true
 len:π.length=ops.size
 all:∀ j:Nat,j<ops.size↔j∈π
 nodup:π.Nodup
 edges:∀ (j:Nat) (o:Oper),ops[j]?=some o→∀ e∈o.after,Region.binds .any e=true→e.on<j∧Ax π e.on<Ax π j
 mask:∀ (j:Nat) (o:Oper),ops[j]?=some o→Jq b o j=true
 look:∀ (j:Nat) (o:Oper) (z:Nat) (oz:Oper),ops[j]?=some o→ops[z]?=some oz→¬ (Ax π z<Ax π j∧Cs b j z=true)→B1 o.op=true∨writes oz (o.looksAt ops)=false
 pair:∀ (i j:Nat) (oi oj:Oper),ops[i]?=some oi→ops[j]?=some oj→Ax π i<Ax π j→Cs b j i=false→gx i j=false→oi.apart ops oj=true∧clG (chk j) i (cl P oi.op) (cl P oj.op)=true
 self:∀ (j:Nat) (o:Oper),ops[j]?=some o→cl P o.op=.load→writes o (o.looksAt ops)=false
 chkAny:∀ (j:Nat) (o:Oper),ops[j]?=some o→cl P o.op≠.any→chk j=[]
 chkLook:∀ (j:Nat) (o:Oper) (k:Nat),ops[j]?=some o→k∈chk j→∃ ok,ops[k]?=some ok∧Ax π k<Ax π j∧∀ (z:Nat) (oz:Oper),ops[z]?=some oz→z≠k→¬ (Ax π z<Ax π k∧Cs b k z=true) →
  writes oz (ok.looksAt ops)=false∧writes oz ok.dst.toList=false
theorem OrderedX.of {gx:Nat→Nat→Bool} (h:N2 gx P ops π chk b=true):OrderedX gx P ops π chk b:=by
 unfold N2 at h;simp only [Bool.and_eq_true,decide_eq_true_eq] at h;obtain⟨⟨⟨⟨⟨h1,h2⟩,h3⟩,h4⟩,h5⟩,h6⟩:=h;have hall:∀ j o,ops[j]?=some o→Sc π o j=true∧Jq b o j=true∧R3 ops π b o j=true∧pairsX gx P ops π b chk o j=true∧Qo P ops o=true∧(chk j).all (Nk P ops π b j)=true∧((chk j).isEmpty || cl P o.op == .any)=true:=fun j o hj=>by have:=List.all_eq_true.1 h6 j (List.mem_range.2 (Array.getElem?_eq_some_iff.1 hj).1);simp only [hj,Bool.and_eq_true] at this;obtain⟨⟨⟨⟨⟨⟨a1,a2⟩,a3⟩,a4⟩,a5⟩,a6⟩,a7⟩:=this;exact⟨a1,a2,a3,a4,a5,a6,a7⟩
 have hmem:∀ j,j<ops.size↔j∈π:=fun j=>⟨fun hj=>by simpa using List.all_eq_true.1 h3 j (List.mem_range.2 hj),fun hj=>by simpa using List.all_eq_true.1 h4 j hj⟩;have hlt:∀ {j o},ops[j]?=some o→j<ops.size:=fun hj=>(Array.getElem?_eq_some_iff.1 hj).1;refine⟨h1,h2,hmem,h5,fun j o hj e he hb=>?_,fun j o hj=>(hall j o hj).2.1,fun j o z oz hj hz hn=>?_,fun i j oi oj hi hj hr hb hx=>?_,fun j o hj hc=>?_,fun j o hj hc=>?_,fun j o k hj hk=>?_⟩;·
  have:=Array.all_eq_true_iff_forall_mem.1 (hall j o hj).1 e he;simpa [hb] using this
 ·have h:=(hall j o hj).2.2.1;unfold R3 at h;rw [Bool.or_eq_true] at h;rcases h with h|h
  ·exact .inl h
  ·right;have:=List.all_eq_true.1 h z (List.mem_range.2 (hlt hz));simp only [hz,Bool.or_eq_true,Bool.not_eq_true',Bool.and_eq_true,decide_eq_true_eq] at this;exact this.resolve_right hn
 ·have:=List.all_eq_true.1 (hall j oj hj).2.2.2.1 i ((hmem i).1 (hlt hi));simp only [hi,hr,hb,hx,decide_true,Bool.not_true,Bool.false_or,Bool.and_eq_true] at this;exact this
 ·have:=(hall j o hj).2.2.2.2.1;simpa [Qo,hc] using this
 ·have:=(hall j o hj).2.2.2.2.2.2;simp only [Bool.or_eq_true,beq_iff_eq] at this;simpa using this.resolve_right hc
 ·have:=List.all_eq_true.1 (hall j o hj).2.2.2.2.2.1 k hk;unfold Nk at this;split at this;·
   rename_i ok hok;simp only [Bool.and_eq_true,decide_eq_true_eq] at this;refine⟨ok,hok,this.1.1.2,fun z oz hz hne hn=>?_⟩;have h:=List.all_eq_true.1 this.2 z (List.mem_range.2 (hlt hz));simp only [hz,Bool.or_eq_true,beq_iff_eq,hne,false_or,Bool.not_eq_true',Bool.or_eq_false_iff,Bool.and_eq_true,decide_eq_true_eq] at h;exact h.resolve_right hn
  ·cases this
theorem OrderedX.againPut {gx:Nat→Nat→Bool} (O:OrderedX gx P ops π chk b) {j k z:Nat} {o oz:Oper} (hj:ops[j]?=some o) (hk:k∈chk j) (hz:ops[z]?=some oz) (hr:Ax π k<Ax π z) {a a':Act} {v:Value} {w:World} (ht:a'.tmps=(a.put oz.dst v).tmps) :
  again P ops k a' w↔again P ops k a w:=by
 obtain⟨ok,hok,_,hall⟩:=O.chkLook j o k hj hk;obtain⟨h1,h2⟩:=hall z oz hz (fun e=>by rw [e] at hr;omega) o_;exact Rl hok ht (Bm h1) (Ot h2) (Region.noSelect_spec O.select k ok · · hok)
theorem Vy {gx:Nat→Nat→Bool} (O:OrderedX gx P ops π chk b) {i:Nat} {oi:Oper} (hi:ops[i]?=some oi) (l2:List Nat) (hl2:∀ z∈l2,Ax π i<Ax π z):∀ (l1:List Nat) (C:List Nat),(l1++i::l2).Pairwise (fun x y=>Ax π x<Ax π y) →
  (∀ z∈l1,z<ops.size)→(∀ z∈l1,Cs b i z=false)→(∀ z∈l1,gx z i=false)→(∀ k∈C,k∈chk i∧∀ z∈l1,Ax π k<Ax π z)→∀ (a:Act) (w:World),wpG P ops (Strict ops K0) chk (l1++i::l2) a w →
  wpOp P ops (Strict ops K0) i (fun a w=>(∀ k∈C,again P ops k a w)∧wpG P ops (Strict ops K0) chk (l1++l2) a w) a w
 | [],C,_,_,_,_,hC,a,w,h=>by have h:wpOp P ops (Strict ops K0) i (fun a' w'=>(∀ k∈chk i,again P ops k a' w')∧wpG P ops (Strict ops K0) chk l2 a' w') a w:=h;exact wpOp_mono (fun a w h=>⟨fun k hk=>h.1 k (hC k hk).1,h.2⟩) h
 | x::l1,C,hs,hlt,hn,hnx,hC,a,w,h=>by
  simp only [List.cons_append] at h ⊢ hs;have hs':=List.pairwise_cons.1 hs;have h:wpOp P ops (Strict ops K0) x (fun a' w'=>(∀ k∈chk x,again P ops k a' w')∧wpG P ops (Strict ops K0) chk (l1++i::l2) a' w') a w:=h;let C':=if x∈chk i then x::C else C
  have hC':∀ k∈C',k∈chk i∧∀ z∈l1,Ax π k<Ax π z:=by
   intro k hk;by_cases hx:x∈chk i;·
    simp only [C',hx,if_true,List.mem_cons] at hk;rcases hk with rfl|hk
    ·exact⟨hx,fun z hz=>hs'.1 z (by simp [hz])⟩
    ·exact⟨(hC k hk).1,fun z hz=>(hC k hk).2 z (by simp [hz])⟩
   ·simp only [C',hx,if_false] at hk;exact⟨(hC k hk).1,fun z hz=>(hC k hk).2 z (by simp [hz])⟩
  have h:=wpOp_mono (fun a w h=>And.imp id (fun h=>Vy O hi l2 hl2 l1 C' hs'.2 (fun z hz=>hlt z (by simp [hz])) (fun z hz=>hn z (by simp [hz])) (fun z hz=>hnx z (by simp [hz])) hC' a w h) h) h;obtain⟨ox,hx⟩:∃ ox,ops[x]?=some ox:=⟨_,Array.getElem?_eq_getElem (hlt x i_)⟩;have hxi:Ax π x<Ax π i:=hs'.1 i i_;obtain⟨hap,hcl⟩:=O.pair x i ox oi hx hi hxi (hn x i_) (hnx x i_);have hself:∀ {j o},ops[j]?=some o→B1 o.op=true∨writes o (o.looksAt ops)=false:=fun {j o} hj=>O.look j o j o hj hj o_;have hsx:=(Region.noSelect_spec O.select x ox · · hx);have hsi:=(Region.noSelect_spec O.select i oi · · hi);have fin:∀ {j o} {a w},ops[j]?=some o→(∀ z∈l1++l2,¬ (Ax π z<Ax π j∧Cs b j z=true))→wpG P ops (Strict ops K0) chk (l1++l2) a w→Aj ops o a=true:=fun {j o a w} hj hz hK=>by
   cases htr:B1 o.op with
   | true=>unfold Aj;rw [Cd htr];rfl
   | false=>exact Sb hj _ a w hK fun z hzm oz hoz=>(O.look j o z oz hj hoz (hz z hzm)).resolve_left (by rw [htr];exact Bool.false_ne_true)
  refine swapG hx hi hap hsx hsi (B:=fun a w=>∀ k∈C',again P ops k a w) (A:=fun a w=>∀ k∈chk x,again P ops k a w) ?_ (hself hx) (hself hi) (O.self x ox hx) ?_ ?_ ?_ ?_ (fun a w hK=>⟨fin hx (fun z hz hh=>?_) hK,fin hi (fun z hz hh=>?_) hK⟩) h;·
   unfold clG Xb at hcl;simp only [Bool.or_eq_true,Bool.and_eq_true,beq_iff_eq] at hcl;rcases hcl with ((h|h)|h)|h
   ·exact .inl h
   ·exact .inr (.inl h)
   ·exact .inr (.inr (.inl h))
   ·refine .inr (.inr (.inr ⟨h.1,fun a w hB=>hB x ?_⟩));have:x∈chk i:=(by simpa using h.2);simp [C',this]
  ·intro a1 v w1 hB k hk;have hkC:k∈C':=by by_cases hx:x∈chk i<;>simp [C',hx,hk]
   exact (O.againPut hi (hC k hk).1 hx ((hC k hk).2 x i_) rfl).1 (hB k hkC)
  ·intro hc a w k hk;have:=O.chkAny i oi hi (by rw [hc];exact fun h=>by cases h);have hk':=(hC k hk).1;rw [this] at hk';cases hk'
  ·intro hc a w k hk;have:=O.chkAny x ox hx (by rcases hc with hc|hc<;>rw [hc]<;>exact fun h=>by cases h);rw [this] at hk;cases hk
  ·intro a1 u w1 hA k hk;obtain⟨ok,hok,hrk,_⟩:=O.chkLook x ox k hx hk;exact (O.againPut hx hk hi o_ rfl).2 (hA k hk)
  ·have:Ax π x<Ax π z:=hs'.1 z (by rcases List.mem_append.1 hz with h|h<;>simp [h]);omega
  ·rcases List.mem_append.1 hz with hz|hz
   ·rw [hn z (by simp [hz])] at hh;cases hh.2
   ·have:=hl2 z hz;omega
theorem mask_listedX {gx:Nat→Nat→Bool} (O:OrderedX gx P ops π chk b) {listed:Array Bool} (hc:Closed ops listed) (hsz:listed.size=ops.size):∀ (d j:Nat) (o:Oper),j=d→ops[j]?=some o →
  (∀ e∈o.after,Region.binds .any e=true→listed.getD e.on false=true)→∀ i,i<j→Cs b j i=true→listed.getD i false=true:=by
 intro d
 induction d using Nat.strongRecOn with
 | _ d ih =>
  intro j o hd hj hall i hij hb;have hm:=O.mask j o hj;have:=List.all_eq_true.1 hm i (List.mem_range.2 hij);have hb:(b.getD j 0).testBit i=true:=by simp only [Cs,Bool.and_eq_true] at hb;exact hb.2
  rw [hb] at this;simp only [Bool.not_true,Bool.false_or] at this;obtain⟨e,hem,h2⟩:=Array.any_eq_true'.1 this;simp only [Bool.and_eq_true,Bool.or_eq_true,beq_iff_eq,decide_eq_true_eq] at h2;have hon:=hall e hem h2.1;rcases h2.2 with h3|h3
  ·rw [← h3];exact hon
  ·have hej:=(O.edges j o hj e hem h2.1).1;have hlt:e.on<ops.size:=by
    have:=(Array.getElem?_eq_some_iff.1 hj).1;omega
   have hoe:ops[e.on]?=some ops[e.on]:=Array.getElem?_eq_getElem hlt;refine ih e.on o_ e.on _ rfl hoe (hc _ _ hoe ?_) i h3.1 (by simp only [Cs,Bool.and_eq_true,decide_eq_true_eq];exact h3);have:e.on<listed.size:=o_;simp [this] at hon ⊢;exact hon
def Ui (ops:Array Oper):Nat→Array Bool→List Nat→Prop
 | 0,_,e=>e=[]
 | n+1,listed,e=>(Region.ready .any ops listed=[]∧e=[])∨∃ i∈Region.ready .any ops listed,∃ e',e=i::e'∧Ui ops n (listed.setIfInBounds i true) e'
theorem S3:∀ (fuel t:Nat) (listed:Array Bool),Ui ops fuel listed (Region.linearise.go .any ops fuel t listed [])
 | 0,t,listed=>by simp [Region.linearise.go,Ui]
 | fuel+1,t,listed=>by
  simp only [Region.linearise.go];change Ui ops (fuel+1) listed (match (Region.ready .any ops listed)[t % (Region.ready .any ops listed).length]? with
   | some i=>Region.linearise.go .any ops fuel (t / (Region.ready .any ops listed).length) (listed.setIfInBounds i true) [i]
   | none=>[].reverse)
  cases hi:(Region.ready .any ops listed)[t % (Region.ready .any ops listed).length]? with
  | none =>
   refine .inl ⟨?_,rfl⟩;cases hr:Region.ready .any ops listed with
   | nil=>rfl
   | cons x xs =>rw [hr] at hi;have hlt:t % (x::xs).length<(x::xs).length:=Nat.mod_lt _ i_;simp at hi;simp at hlt;omega
  | some i =>refine .inr ⟨i,List.mem_of_getElem? hi,Region.linearise.go .any ops fuel (t / (Region.ready .any ops listed).length) (listed.setIfInBounds i true) [],?_,S3 fuel _ _⟩;simp only [];rw [linearise_go_acc,List.reverse_singleton,List.singleton_append]
theorem Pa {gx:Nat→Nat→Bool} {gs:List (List Nat)} (hgx:∀ i j,gx i j=true→∃ g∈gs,g.contains i=true∧g.contains j=true) (O:OrderedX gx P ops π chk b):∀ (fuel:Nat) (l:List Nat) (listed:Array Bool) (e:List Nat),l.length=fuel→listed.size=ops.size→l.Pairwise (fun x y=>Ax π x<Ax π y) →
  (∀ k,k∈l↔k<ops.size∧listed.getD k true=false)→Closed ops listed→Ui ops fuel listed e →
  e.Perm l∧((∀ g∈gs,l.filter g.contains=e.filter g.contains)→∀ (a:Act) (w:World),wpG P ops (Strict ops K0) chk l a w→wpOps P ops (Strict ops K0) e a w)
 | 0,l,listed,e,hf,hsz,hs,hm,hc,he=>by obtain rfl:=List.eq_nil_of_length_eq_zero hf;obtain rfl:e=[]:=he;exact⟨List.Perm.refl _,fun _ a w h=>h⟩
 | fuel+1,l,listed,e,hf,hsz,hs,hm,hc,he=>by
  rcases he with ⟨hr,rfl⟩|⟨i,hi,e',rfl,he⟩
  ·exfalso;cases l with
   | nil=>cases hf
   | cons k l =>
    obtain⟨hk,hkl⟩:=(hm k).1 i_;have hok:ops[k]?=some ops[k]:=Array.getElem?_eq_getElem hk;have:k∈Region.ready .any ops listed:=mem_ready.2 ⟨hkl,_,hok,fun e he hbd=>by
     have hej:=O.edges k _ hok e he hbd
     cases hl:listed.getD e.on true with
     | true =>
      have hlt:e.on<listed.size:=o_
      simp [hlt] at hl ⊢;exact hl
     | false =>
      have:=(hm e.on).2 ⟨o_,hl⟩
      rcases List.mem_cons.1 this with h1|h1
      ·omega
      ·have:=(List.pairwise_cons.1 hs).1 _ h1;omega⟩
    rw [hr] at this;cases this
  ·obtain⟨h1,oi,h2,hall⟩:=mem_ready.1 hi;have hin:i<ops.size:=(Array.getElem?_eq_some_iff.1 h2).1;obtain⟨l1,l2,rfl⟩:=List.append_of_mem ((hm i).2 ⟨hin,h1⟩);have hpw:=List.pairwise_append.1 hs;have hnot1:i∉l1:=fun hx=>(by have:=hpw.2.2 i hx i i_;omega);have hnot2:i∉l2:=fun hx=>(by have:=(List.pairwise_cons.1 hpw.2.1).1 i hx;omega);have ih:=Pa hgx O fuel (l1++l2) _ e' (by simp at hf ⊢;omega) (by simp [hsz]) (hs.sublist (List.Sublist.append (List.Sublist.refl _) (List.sublist_cons_self _ _))) (fun k=>by
    by_cases hki:k=i
    ·subst hki
     have hlt:k<listed.size:=o_
     simp [hnot1,hnot2,hlt]
    ·rw [getD_set_ne true (fun e=>hki e.symm),← hm k]
     simp [hki]) (by
    intro j o hj hl ed hed hbd
    by_cases hji:j=i
    ·subst hji
     have:o=oi:=Option.some.inj (hj.symm.trans h2)
     subst this
     exact getD_set_true (hall ed hed hbd)
    ·rw [getD_set_ne true (fun e=>hji e.symm)] at hl
     exact getD_set_true (hc j o hj hl ed hed hbd)) he
   refine⟨(ih.1.cons i).trans List.perm_middle.symm,fun hg a w h=>?_⟩;have hfirst:∀ g∈gs,g.contains i=true→l1.filter g.contains=[]:=fun g hgm hgi=>by
    have:=hg g hgm;rw [List.filter_append,List.filter_cons_of_pos hgi,List.filter_cons_of_pos hgi] at this;cases hq:l1.filter g.contains with
    | nil=>rfl
    | cons z q =>rw [hq,List.cons_append] at this;have hz:z=i:=(List.cons.inj this).1;have:z∈l1.filter g.contains:=(by rw [hq];simp);rw [hz] at this;exact absurd (List.mem_filter.1 this).1 hnot1
   rw [wpOps_cons];refine wpOp_mono (fun a w h=>ih.2 (fun g hgm=>?_) a w h.2)
    (Vy O h2 l2 (fun z hz=>(List.pairwise_cons.1 hpw.2.1).1 z hz) l1 [] hs (fun z hz=>((hm z).1 (by simp [hz])).1) (fun z hz=>?_) (fun z hz=>?_) i_ a w h)
   ·have hgg:=hg g hgm;rw [List.filter_append] at hgg ⊢;cases hgi:g.contains i with
    | true =>rw [hfirst g hgm hgi,List.filter_cons_of_pos hgi,List.filter_cons_of_pos hgi] at hgg;rw [hfirst g hgm hgi];exact (List.cons.inj hgg).2
    | false =>rwa [List.filter_cons_of_neg (by simp only [hgi,Bool.false_eq_true,not_false_eq_true]),List.filter_cons_of_neg (by simp only [hgi,Bool.false_eq_true,not_false_eq_true])] at hgg
   ·cases ht:Cs b i z with
    | false=>rfl
    | true =>
     exfalso;have h3:=mask_listedX O hc hsz i i oi rfl h2 hall z (by simp only [Cs,Bool.and_eq_true,decide_eq_true_eq] at ht;exact ht.1) ht;have h4:=((hm z).1 (by simp [hz])).2;have hlt:z<listed.size:=by have:=((hm z).1 (by simp [hz])).1;omega
     simp [hlt] at h3 h4;rw [h3] at h4;cases h4
   ·cases ht:gx z i with
    | false=>rfl
    | true =>exfalso;obtain⟨g,hgm,hgz,hgi⟩:=hgx z i ht;have:z∈l1.filter g.contains:=List.mem_filter.2 ⟨hz,hgz⟩;rw [hfirst g hgm hgi] at this;cases this
end
def ins (x:Nat):List Nat→List (List Nat)
 | []=>[[x]]
 | y::l=>(x::y::l)::(ins x l).map (y::·)
def Lz:List Nat→List (List Nat)
 | []=>[[]]
 | x::g=>(Lz g).flatMap (ins x)
theorem Vn (x:Nat):∀ (q1 q2:List Nat),q1++x::q2∈ins x (q1++q2)
 | [],[]=>by simp [ins]
 | [],y::q2=>by simp [ins]
 | y::q1,q2=>by have:=Vn x q1 q2;simp only [List.cons_append,ins,List.mem_cons];exact .inr (List.mem_map.2 ⟨_,this,rfl⟩)
theorem Gj:∀ {g q:List Nat},q.Perm g→q∈Lz g
 | [],q,h=>by rw [h.eq_nil];simp [Lz]
 | x::g,q,h=>by obtain⟨q1,q2,rfl⟩:=List.append_of_mem (h.mem_iff.2 (List.mem_cons_self));have:(q1++q2).Perm g:=(List.perm_middle.symm.trans h).cons_inv;exact List.mem_flatMap.2 ⟨_,Gj this,Vn x q1 q2⟩
def Q2 (base:List Nat):List (List Nat)→List (List (List Nat×List Nat))→Bool
 | [],cands=>!cands.isEmpty
 | g::gs,cands=>(Lz (base.filter g.contains)).all fun p=>Q2 base gs (cands.filter fun ss=>(Aq ss).filter g.contains == p)
theorem U9 {base e:List Nat} (he:e.Perm base):∀ {gs:List (List Nat)} {cands:List (List (List Nat×List Nat))},Q2 base gs cands=true→∃ ss∈cands,∀ g∈gs,(Aq ss).filter g.contains=e.filter g.contains
 | [],cands,h=>by
  cases cands with
  | nil=>cases h
  | cons x l=>exact⟨x,i_,i_⟩
 | g::gs,cands,h=>by
  have h1:=List.all_eq_true.1 h (e.filter g.contains) (Gj (he.filter _));obtain⟨ss,h2,h3⟩:=U9 he h1;obtain⟨h4,h5⟩:=List.mem_filter.1 h2;refine⟨ss,h4,fun g' hg'=>?_⟩;rcases List.mem_cons.1 hg' with rfl|hg'
  ·exact eq_of_beq h5
  ·exact h3 g' hg'
def Kh (gs:List (List Nat)) (i j:Nat):Bool:=gs.any fun g=>g.contains i && g.contains j
end Go.Proofs.Rg
namespace Go.Proofs.Rg
open Go
def Ml (W:List (List Nat×List Nat)→Prop):List (List (List Nat×List Nat))→Prop
 | []=>True
 | [l]=>W l
 | l::ls=>W l∧Ml W ls
theorem Qc {W:List (List Nat×List Nat)→Prop}:∀ {ls:List (List (List Nat×List Nat))},Ml W ls→∀ l∈ls,W l
 | [],_,l,hl=>by cases hl
 | [x],h,l,hl=>by obtain rfl:=List.mem_singleton.1 hl;exact h
 | x::y::ls,h,l,hl=>by
  rcases List.mem_cons.1 hl with rfl|hl
  ·exact h.1
  ·exact Qc h.2 l hl
def Ud (P:Program) (ops:Array Oper) (gs:List (List Nat)) (cs:List (List (List Nat×List Nat))):Bool :=
 (cs.all fun ss=>Tf (Kh gs) P ops (Aq ss) (Ie ss) && Jg (Ie ss) ss) && Q2 (List.range ops.size) gs cs
theorem wK_ {P:Program} {id:Nat} {l:List Oper} {Q:Exit→Act→World→Prop} {a:Act} {w:World} (gs:List (List Nat)) (cs:List (List (List Nat×List Nat))) (hm:P.follows .mixedOrders=true)
  (hc:Ud P l.toArray gs cs=true) (h:Ml (fun ss=>A2 P l.toArray (Q .normal) ss a w.drew) cs):(Code.region id l.toArray true).wp P Q a w:=by
 refine Code.wp_mono (Strict.imp (ops:=l.toArray) (Q:=Q)) (wp_region_draw fun t=>?_);simp only [Region.schedule,hm,Bool.true_or,if_true];unfold Ud at hc;rw [Bool.and_eq_true] at hc;have hlin:=S3 (ops:=l.toArray) l.toArray.size t (Array.replicate l.toArray.size false);have start:∀ ss∈cs,∃ O:OrderedX (Kh gs) P l.toArray (Aq ss) (Ie ss) (Region.before l.toArray),Jg (Ie ss) ss=true:=fun ss hs=>by have:=List.all_eq_true.1 hc.1 ss hs;rw [Bool.and_eq_true] at this;exact⟨OrderedX.of this.1,this.2⟩
 have hgx:∀ i j,Kh gs i j=true→∃ g∈gs,g.contains i=true∧g.contains j=true:=fun i j hij=>by obtain⟨g,hg,h2⟩:=List.any_eq_true.1 hij;rw [Bool.and_eq_true] at h2;exact⟨g,hg,h2⟩
 have run:∀ ss∈cs,∀ e,Ui l.toArray l.toArray.size (Array.replicate l.toArray.size false) e→e.Perm (Aq ss)∧((∀ g∈gs,(Aq ss).filter g.contains=e.filter g.contains)→∀ (a:Act) (w:World),wpG P l.toArray (Strict l.toArray (Q .normal)) (Ie ss) (Aq ss) a w→wpOps P l.toArray (Strict l.toArray (Q .normal)) e a w):=fun ss hs e he=>by
  obtain⟨O,hsg⟩:=start ss hs;have hlen:(Aq ss).length=l.length:=by simpa using O.len
  refine Pa hgx O _ (Aq ss) _ e (by simp [hlen]) i_ ?_ (fun k=>?_) ?_ he;·
   have hnd:=O.nodup;rw [List.pairwise_iff_getElem];intro i j hi hj hij;unfold Ax;rw [hnd.idxOf_getElem i hi,hnd.idxOf_getElem j hj];exact hij
  ·rw [← O.all k];simp;intro hk;rw [Array.getElem?_replicate];simp [hk]
  ·intro j o hj hl;have hlt:j<l.length:=by have:=(Array.getElem?_eq_some_iff.1 hj).1;simpa using this
   rw [Array.getD_eq_getD_getElem?,Array.getElem?_replicate] at hl;simp [hlt] at hl
 cases hx:cs with
 | nil =>
  exfalso;have hne:∀ gs,Q2 (List.range l.toArray.size) gs []=false:=fun gs=>by
   induction gs with
   | nil=>rfl
   | cons g gs ih =>
    cases hp:Q2 (List.range l.toArray.size) (g::gs) [] with
    | false=>rfl
    | true =>have h1:=List.all_eq_true.1 hp _ (Gj (List.Perm.refl _));simp only [List.filter_nil] at h1;rw [ih] at h1;cases h1
  have:=hc.2;rw [hx,hne] at this;cases this
 | cons ss0 r0 =>
  have hs0:ss0∈cs:=by rw [hx];simp
  obtain⟨O0,_⟩:=start ss0 hs0;have hp0:=(run ss0 hs0 _ hlin).1;have hbase:(Aq ss0).Perm (List.range l.toArray.size):=(List.perm_ext_iff_of_nodup O0.nodup List.nodup_range).2 fun k=>by rw [← O0.all k,List.mem_range]
  obtain⟨ss,hs,hg⟩:=U9 (hp0.trans hbase) hc.2;obtain⟨O,hsg⟩:=start ss hs;exact (run ss hs _ hlin).2 hg _ _ (Ge ss a _ hsg (fun i hi=>(O.all i).2 hi) (Qc h ss hs))
end Go.Proofs.Rg
namespace Go.Proofs.YtebolidfbflkmaaGreat
open Go Go.RowKit Rg Mp Hp Qs Ev Bn Uni Pt
variable {W w:World}{U:UP}{ns:List K4}{mm:List ((Int×Int)×Int)}{P:Res}{Ps:List Res}
theorem ui_ (h:Has W w (P::A6 U ns mm Ps)):Has W w (A6 U ns mm (P::Ps)) :=
 h.perm (List.perm_middle (l₁:=[sTR U.sb U.r.S ns,Iv U.rb mm,Hp.blk U.mb (.cells (De U.r U.hv U.nv U.sb U.rb) 140 (0,0)),Ow U,B4 false (zd (U.G:Int)) U.ga U.gc]) (a:=P) (l₂:=Ps)).symm
theorem Rt (h:Has W w (A6 U ns mm (P::Ps))):Has W w (P::A6 U ns mm Ps) :=
 h.perm (List.perm_middle (l₁:=[sTR U.sb U.r.S ns,Iv U.rb mm,Hp.blk U.mb (.cells (De U.r U.hv U.nv U.sb U.rb) 140 (0,0)),Ow U,B4 false (zd (U.G:Int)) U.ga U.gc]) (a:=P) (l₂:=Ps))
variable {A B:Res}
theorem mem2:∀ P∈Ps,P∈A::B::Ps:=fun P h=>List.mem_cons_of_mem _ (List.mem_cons_of_mem _ h)
variable {C:Res}
theorem mem3:∀ P∈Ps,P∈A::B::C::Ps:=fun P h=>List.mem_cons_of_mem _ (mem2 P h)
variable {Q:Res}
theorem uni_turn (h:Has W w (P::A6 U ns mm (Q::Ps))):Has W w (A6 U ns mm (P::Ps)):=by have h1:=ui_ h;have h2:Has W w (Q::A6 U ns mm (P::Ps)):=Rt (h1.perm (List.Perm.append_left [sTR U.sb U.r.S ns,Iv U.rb mm,Hp.blk U.mb (.cells (De U.r U.hv U.nv U.sb U.rb) 140 (0,0)),Ow U,B4 false (zd (U.G:Int)) U.ga U.gc] (List.Perm.swap Q P Ps)));exact h2.drop
theorem Ti (h:Has W w (A6 U ns mm (Q::Ps))) (k:Nat) :
  Has W (w.alloc (.cells #[.int .i64 ((k:Int)+1)] 3 (0,0))) (A6 U ns mm (Hp.blk w.heap.size (.cells #[.int .i64 ((k+1:Nat):Int)] 3 (0,0))::Ps)) :=
 uni_turn (hAL h #[.int .i64 ((k:Int)+1)] 3)
variable {D:Res}
theorem mem4:∀ P∈Ps,P∈A::B::C::D::Ps:=fun P h=>List.mem_cons_of_mem _ (mem3 P h)
variable {n:Nat}
theorem uni_done {root:Int} {p:Option Addr} {c:Nat}
  (h:Has W w (Hp.blk U.ub (.cells ((L1 U).setIfInBounds 5 (.int .i64 root)) 85 (0,0))::sTR U.sb U.r.S ns::Iv U.rb mm::Hp.blk U.mb (.cells (De U.r U.hv U.nv U.sb U.rb) 140 (0,0))::B4 false (zd (U.G:Int)) U.ga U.gc::B4 false (zd ((U.G+n:Nat):Int)) p c::A::B::C::D::Ps)) :
  Has W ((w.setCell ⟨U.ub,6,none⟩ (.bool false)).setCell ⟨U.ub,7,none⟩ (.slice p (zd ((U.G+n:Nat):Int)).length c)) (A6 ⟨U.r,U.hv,U.nv,U.ub,U.mb,U.sb,U.rb,root,U.G+n,p,c⟩ ns mm Ps) :=
 (hST (hST h 6 (.bool false)) 7 (.slice p (zd ((U.G+n:Nat):Int)).length c)).ord 10 [1,2,3,0,5]
structure RunSt (W w:World) (U:UP) (L:List Tr) (Ps:List Res) (F:Fld) (n k:Nat) (id:Int) (kb nb ub2:Nat) (nv:Array Value) (ns:List K4) (mm:List ((Int×Int)×Int)):Prop where
 has:Has W w (A6 U ns mm (Hp.blk kb (.cells #[.int .i64 (k:Int)] 3 (0,0))::Hp.blk nb (.cells nv 30 (0,0))::Hp.blk ub2 (.cells #[.pointer (some ⟨U.ub,0,none⟩)] 44 (0,0))::Ps))
 room:G0 U.r.S ns L (2000+300*(10 - k))
 kept:Kept U.r ns mm
 is:Is U.r.S ns 206 id (mid 205 (it (gen U.r) (n % 2 ^ k) F))
theorem no_bit {k:Nat} (hn:n<1024) (hb:n / 2 ^ k % 2=1):k<10:=by refine Nat.lt_of_not_le fun hk=>?_;have:n / 2 ^ k=0:=Nat.div_eq_of_lt (Nat.lt_of_lt_of_le hn (Nat.pow_le_pow_right (n:=2) o_ hk));rw [this] at hb;omega
theorem run_u {ha na:Option Addr} {hc nc:Nat} (h:Has W w (A6 U ns mm Ps)) (hq:C1 U.r=true) (e1:U.hv=.slice ha U.r.hood.length hc) (e2:U.nv=.slice na U.r.nodes.length nc) (hsrc:RuleSrc W U.hv U.nv U.r Ps)
  {F:Fld} (hi:Is U.r.S ns 201 U.root (mid 200 F)) (hF:Inside 200 F) (hn:n<1024) {vn:Value} (bn:bZ_ W Ps vn (n:Int)) (hFn:Inside 200 (it (gen U.r) n F)) {L:List Tr}
  (hL:∀ k,k<200→n / 2 ^ k % 2=1→∀ u∈Da (gen U.r) (A1 (A3 U.r.hood)) 207 k (mid 206 (it (gen U.r) (n % 2 ^ k) F)),u∈L) (hroom:G0 U.r.S ns L 6500) (hkept:Kept U.r ns mm) (hG:U.G+n<2 ^ 200) :
  Calls Tryz.prog 15 #[.pointer (some ⟨U.ub,0,none⟩),vn] w fun e w'=>e=.returned (.int .i64 0) ∧
   ∃ root ga gc ns' mm',Has W w' (A6 ⟨U.r,U.hv,U.nv,U.ub,U.mb,U.sb,U.rb,root,U.G+n,ga,gc⟩ ns' mm' Ps)∧ns <+: ns'∧G0 U.r.S ns' L 1990∧Kept U.r ns' mm'∧Is U.r.S ns' 201 root (mid 200 (it (gen U.r) n F)):=by
 obtain⟨R,hR⟩:∃ R:Int,((2 ^ 200:Nat):Int)=R:=⟨_,rfl⟩;obtain⟨C,hC⟩:∃ R:Int,((2 ^ 205:Nat):Int)=R:=⟨_,rfl⟩;have hR1:1024≤R:=by rw [← hR];exact Int.ofNat_le.2 (Nat.pow_le_pow_right (n:=2) o_ (show 10≤200 by omega))
 have hzR:Zok R:=hR▸Bh (n:=200) o_;have hzn:Zok (n:Int):=Bb o_ o_;have hzG:Zok ((U.G:Int)+(n:Int)):=by refine E7 hzR ?_;have:((U.G+n:Nat):Int)<((2 ^ 200:Nat):Int):=Int.ofNat_lt.2 hG;rw [hR] at this;omega
 have hzG0:Zok (U.G:Int):=by refine E7 hzR ?_;have:((U.G+n:Nat):Int)<((2 ^ 200:Nat):Int):=Int.ofNat_lt.2 hG;rw [hR] at this;omega
 have hle:=Mx (A4 (uS_ h)) hroom;have hrr:=(Ch hq).1;have hin:∀ m:Nat,m<1024→Inside 205 (it (gen U.r) m F):=fun m hm=>(inside_it hq hF (m:=m) (by
  refine Nat.le_trans (Nat.le_of_lt hm) ?_
  exact Nat.pow_le_pow_right (n:=2) o_ (show 10≤200 by omega))).more o_
 -- the functions that are tried
 have HR1:=q_ (fun w1 Qs ux (h1:Has W w1 (A6 U ns mm Qs)) k0=>run1_u (ux:=ux) h1 hi hF o_ k0);have HR2:=q_ (fun w1 Qs (hQ:∀ P∈Ps,P∈Qs) ns1 mm1 id k ux kb (h1:Has W w1 (A6 U ns1 mm1 Qs)) (hk:k<200) (hb:n / 2 ^ k % 2=1) (hr1:G0 U.r.S ns1 L (2000+300*(10 - k))) (hk1:Kept U.r ns1 mm1) (hi1:Is U.r.S ns1 206 id (mid 205 (it (gen U.r) (n % 2 ^ k) F))) k0 k1 =>
  run2_u (L:=L) (c:=2000+300*(10 - (k+1))) (ux:=ux) (kb:=kb) h1 hrr e1 e2 (hsrc.more hQ) hi1 (hin _ (Nat.lt_of_le_of_lt (Nat.mod_le _ _) hn)) (by have:=no_bit hn hb;rwa [show 2000+300*(10 - (k+1))+300=2000+300*(10 - k) by omega]) o_ hk1 hk (hL k hk hb) k0 k1)
 have HPW:=q_ (fun w1=>(hR▸Dz w1 (k:=200) (H:=2 ^ 200) rfl o_:Calls Tryz.prog 49 #[.int .i64 200] w1 (D2 w1 R)));have HRT:=q_ (fun w1 (hb:BigZ w1 (fun _=>True) vn (n:Int))=>Gm hb hzn);have HCM:=q_ (fun w1 A v (hb:BigZ w1 (fun _=>True) vn (n:Int)) (hv:BigZ w1 A v R)=>Au hb hv hzn hzR);have HBT:=q_ (fun w1 k (hb:BigZ w1 (fun _=>True) vn (n:Int)) (hk:k<2048)=>X7 (k:=k) hb hzn o_ hk);simp only [Int.toNat_natCast] at HBT;have HOUT:=q_ (fun w1 Qs ns1 mm1 id (h1:Has W w1 (A6 U ns1 mm1 Qs)) (hi1:Is U.r.S ns1 206 id (mid 205 (it (gen U.r) n F)))=>outside_u h1 hi1 hFn hR hC);have HCT:=q_ (fun w1 Qs ns1 mm1 id (h1:Has W w1 (A6 U ns1 mm1 Qs)) (hi1:Is U.r.S ns1 206 id (mid 205 (it (gen U.r) n F))) (hl:ns1.length≤89000)=>(centre_u h1 hi1 hl).mono (R':=fun e w'=>∃ x,e=.returned (.tuple #[.int .i64 x,.int .i64 0])∧∃ ns',Has W w' (A6 U ns' mm1 Qs)∧ns1 <+: ns'∧ns'.length≤ns1.length+5∧Is U.r.S ns' 201 x (mid 200 (it (gen U.r) n F))) (by rintro e w' ⟨x,ns',rfl,h⟩;exact⟨x,rfl,ns',h⟩));have HAD:=q_ (fun w1 va A (ha:BigZ w1 A va (U.G:Int)) (hb:BigZ w1 (fun _=>True) vn (n:Int))=>(by have:=Ja ha hb hzG0 hzn hzG;rwa [← Int.natCast_add] at this:Calls Tryz.prog 44 #[va,vn] w1 (Oq w1 ((U.G+n:Nat):Int))));have HN:=q_ (fun w1 Qs ns1 mm1 (h1:Has W w1 (A6 U ns1 mm1 Qs)) (hm:∀ P∈Ps,P∈Qs)=>bn w1 _ h1 fun P hP=>um_ (hm P hP));obtain⟨an,cn,hvn,_⟩:=bn w _ h (fun P hP=>um_ hP);rw [decide_eq_false (by omega:¬ (n:Int)<0)] at hvn;subst hvn;have HZ:=q_ (And.intro hR1 (And.intro hn (And.intro hle hzG)));have H:=q_ h;have HRM:=q_ hroom;have HKP:=q_ hkept;have hcge:decide (Bw (n:Int) R ≥ 0)=false:=by rw [Jx];exact decide_eq_false o_
 have HF0:=q_ (show it (gen U.r) (n % 2 ^ 0) F=F by rw [Nat.pow_zero,Nat.mod_one];rfl);have HUP:=q_ (fun k (hb:n / 2 ^ k % 2=1)=>show it (gen U.r) (n % 2 ^ (k+1)) F=it (gen U.r) (2 ^ k) (it (gen U.r) (n % 2 ^ k) F) by rw [bit_up hb,Ut]);have HEND:=q_ (show n % 2 ^ 200=n from Nat.mod_eq_of_lt (Nat.lt_of_lt_of_le hn (Nat.pow_le_pow_right (n:=2) o_ (show 10≤200 by omega))));have hzg:Zok ((U.G+n:Nat):Int):=by rw [Int.natCast_add];exact hzG
 have HZG:=q_ hzg;obtain⟨g,hg⟩:∃ g,U.G+n=g:=⟨_,rfl⟩;rw [hg] at HAD HZG;have HG:=q_ hg;clear hg hzg;have h0:=ui_ (hAL (ui_ (hAL h #[.pointer (some ⟨U.ub,0,none⟩)] 44)) #[.bool false,.slice an (zd (n:Int)).length cn] 30);rw [hAz] at h0;obtain⟨b2,hb2⟩:∃ b,w.heap.size=b:=⟨_,rfl⟩;rw [hb2] at h0;have H0:=q_ h0;clear h hq e1 e2 hsrc hi hF bn hFn hL hroom hkept hG hR hC hR1 hzR hzn hzG hzG0 hle hrr hin hn h0;go_enter Tryz.func15,Tryz.ntmps15;go_wp2;refine wS [([0,1],[]),([2,3,4,5,6,7,8,9],[8]),([10,11,12,13],[])] ?_;(simp only [A2,pick,aq_,bq_,cq_,dq_,eq_]);go_wp2_with fail;refine (HRT.o _ (HN.o _ _ _ _ (H0.o.step (Fr.t)) mem2)).mono ?_;rintro e w1 ⟨rfl,hf⟩;have H1:=q_ ((H0.o.step (Fr.t)).step hf);clear hf H0 HRT hb2;(try clear b0 bl n0 n1 nl u5 ul Hn Hb);obtain⟨_,_,_,u5,_,ul⟩:=uC_ H1.o;have hk1:w1.heap[b2]?=some (.cells #[.pointer (some ⟨U.ub,0,none⟩)] 44 (0,0)):=A5 H1.o (um_ i_);have hk2:w1.heap[b2+1]?=some (.cells #[.bool false,.slice an (zd (n:Int)).length cn] 30 (0,0)):=A5 H1.o (um_ i_);have Hn:=q_ hk2;have Hb:=q_ hk1;have b0:=hEC hk1 0;have bl:=lBk hk1;obtain⟨n0,n1,nl⟩:=l2_ hk2;clear hk1 hk2;go_wp2;refine mD_ ⟨trivial,?_⟩;go_wp2_with fail;refine (HPW.o _).mono ?_;rintro e w2 ⟨vp,rfl,hb,hf⟩;have H2:=q_ ((H1.o.step (Fr.t)).step hf);have hcm:=HCM.o w2 _ vp (HN.o _ _ _ _ H2.o mem2) hb;have HC2:=q_ hcm;clear hf H1 HCM HPW hb hcm;(try clear b0 bl n0 n1 nl u5 ul Hn Hb);obtain⟨_,_,_,u5,_,ul⟩:=uC_ H2.o;have hk1:w2.heap[b2]?=some (.cells #[.pointer (some ⟨U.ub,0,none⟩)] 44 (0,0)):=A5 H2.o (um_ i_);have hk2:w2.heap[b2+1]?=some (.cells #[.bool false,.slice an (zd (n:Int)).length cn] 30 (0,0)):=A5 H2.o (um_ i_);have Hn:=q_ hk2;have Hb:=q_ hk1;have b0:=hEC hk1 0;have bl:=lBk hk1;obtain⟨n0,n1,nl⟩:=l2_ hk2
 clear hk1 hk2;go_wp2;refine mD_ ⟨⟨ab_ (T:=30) rfl rfl rfl Tryz.underlying30 rfl k_ Hn.o rfl,trivial⟩,?_⟩;go_wp2_with fail;refine (HC2.o).mono ?_;rintro e w3 ⟨rfl,hf⟩;have H3:=q_ (H2.o.step hf);clear hf H2 HC2;(try clear b0 bl n0 n1 nl u5 ul Hn Hb);obtain⟨_,_,_,u5,_,ul⟩:=uC_ H3.o;have hk1:w3.heap[b2]?=some (.cells #[.pointer (some ⟨U.ub,0,none⟩)] 44 (0,0)):=A5 H3.o (um_ i_);have hk2:w3.heap[b2+1]?=some (.cells #[.bool false,.slice an (zd (n:Int)).length cn] 30 (0,0)):=A5 H3.o (um_ i_);have Hn:=q_ hk2;have Hb:=q_ hk1;have b0:=hEC hk1 0;have bl:=lBk hk1;obtain⟨n0,n1,nl⟩:=l2_ hk2;clear hk1 hk2;go_wp2;refine mD_ ⟨trivial,sT_ rfl ?_⟩;clear hcge;go_wp2;refine wS [([0,1,2,3,4,5],[0,1,4]),([6,7,8,9,10,11],[])] ?_;(simp only [A2,pick,aq_,bq_,cq_,dq_,eq_]);go_wp2;refine mD_ ⟨⟨ac_ (T:=44) rfl rfl rfl Tryz.underlying44 rfl b0 rfl,ac_ (T:=44) rfl rfl rfl Tryz.underlying44 rfl b0 rfl,ac_ (T:=3) rfl rfl rfl Tryz.underlying3 rfl u5 rfl,trivial⟩,?_⟩;go_wp2_with fail;refine (try_run1 (HR1.o _ _ b2 (H3.o.step (Fr.t)) ?k0)).mono ?_;case k0=>exact Hb.o
 rintro e w4 ⟨id4,rfl,ns4,h4,hp4,hl4,hi4⟩;have H4:=q_ h4;have HS4:=q_ (And.intro hp4 (And.intro hl4 hi4));clear h4 hp4 hl4 hi4 H3 HR1;(try clear b0 bl n0 n1 nl u5 ul Hn Hb);obtain⟨_,_,_,u5,_,ul⟩:=uC_ H4.o;have hk1:w4.heap[b2]?=some (.cells #[.pointer (some ⟨U.ub,0,none⟩)] 44 (0,0)):=A5 H4.o (um_ i_);have hk2:w4.heap[b2+1]?=some (.cells #[.bool false,.slice an (zd (n:Int)).length cn] 30 (0,0)):=A5 H4.o (um_ i_);have Hn:=q_ hk2;have Hb:=q_ hk1;have b0:=hEC hk1 0;have bl:=lBk hk1;obtain⟨n0,n1,nl⟩:=l2_ hk2;clear hk1 hk2;go_wp2;refine mD_ ⟨trivial,sT_ rfl ?_⟩;have H5:=q_ (ui_ (hAL H4.o #[.int .i64 0] 3));have HS5:=q_ (rG_ (A4 (uS_ H.o)) (A4 (uS_ H4.o)) HRM.o HS4.o.1 HS4.o.2.1 o_);obtain⟨kb,hkb⟩:∃ b,w4.heap.size=b:=⟨_,rfl⟩;rw [hkb] at H5;go_wp2;go_loopg [5,6,7] 200 (fun gg y z p wr=>∃ (k kb:Nat) (id:Int) (ns':List K4) (mm':List ((Int×Int)×Int)),k≤200∧200 - k≤gg∧y=.int .i64 id∧z=.int .i64 0∧p=.pointer (some ⟨kb,0,none⟩)∧Hid (RunSt W wr U L Ps F n k id kb (b2+1) b2 #[.bool false,.slice an (zd (n:Int)).length cn] ns' mm')∧Hid (ns <+: ns'));case atStart=>exact⟨0,kb,id4,ns4,mm,o_,o_,rfl,rfl,rfl,q_ ⟨H5.o,HS5.o,HKP.o.grow HS4.o.1,by rw [HF0.o];exact HS4.o.2.2⟩,q_ HS4.o.1⟩
 case round =>
  obtain⟨k,kb,id,ns',mm',hk,hgg,rfl,rfl,rfl,HH,HPX⟩:=hrel;have HR:=q_ HH.o.has;clear H4 HS4 H5 HS5 Hn Hb b0 bl n0 n1 nl u5 ul hkb;(try clear b0 bl n0 n1 nl u5 ul Hn Hb);obtain⟨_,_,_,u5,_,ul⟩:=uC_ HR.o;have hk1:wr.heap[b2]?=some (.cells #[.pointer (some ⟨U.ub,0,none⟩)] 44 (0,0)):=A5 HR.o (um_ i_);have hk2:wr.heap[b2+1]?=some (.cells #[.bool false,.slice an (zd (n:Int)).length cn] 30 (0,0)):=A5 HR.o (um_ i_);have Hn:=q_ hk2;have Hb:=q_ hk1;have b0:=hEC hk1 0;have bl:=lBk hk1;obtain⟨n0,n1,nl⟩:=l2_ hk2;clear hk1 hk2;(try clear k0 kl Hk);have hk3:wr.heap[kb]?=some (.cells #[.int .i64 (k:Int)] 3 (0,0)):=A5 HR.o (um_ i_);have Hk:=q_ hk3;have k0:=hEC hk3 0;have k0z:=hEF hk3 0;have kl:=lBk hk3;clear hk3;by_cases hlt:k<200;·
   have hb9:=HBT.o wr k (HN.o _ _ _ _ HR.o mem3) o_;have HB9:=q_ hb9;clear hb9;by_cases hbit:n / 2 ^ k % 2=1;·
    rw [hbit] at HB9;have HBI:=q_ hbit;have hkz:(k:Int)<200:=o_;clear hbit;go_wp2_with fail;refine (HB9.o).mono ?_;rintro e w6 ⟨rfl,hf⟩;have H6:=q_ (HR.o.step hf);clear hf HR HB9;(try clear b0 bl n0 n1 nl u5 ul Hn Hb);obtain⟨_,_,_,u5,_,ul⟩:=uC_ H6.o;have hk1:w6.heap[b2]?=some (.cells #[.pointer (some ⟨U.ub,0,none⟩)] 44 (0,0)):=A5 H6.o (um_ i_);have hk2:w6.heap[b2+1]?=some (.cells #[.bool false,.slice an (zd (n:Int)).length cn] 30 (0,0)):=A5 H6.o (um_ i_);have Hn:=q_ hk2;have Hb:=q_ hk1;have b0:=hEC hk1 0;have bl:=lBk hk1;obtain⟨n0,n1,nl⟩:=l2_ hk2;clear hk1 hk2;(try clear k0 kl Hk);have hk3:w6.heap[kb]?=some (.cells #[.int .i64 (k:Int)] 3 (0,0)):=A5 H6.o (um_ i_);have Hk:=q_ hk3;have k0:=hEC hk3 0;have k0z:=hEF hk3 0;have kl:=lBk hk3;clear hk3;go_wp2_with fail;refine (try_run2 (HR2.o w6 _ mem3 _ _ _ k b2 kb H6.o hlt HBI.o HH.o.room HH.o.kept HH.o.is i_ i_)).mono ?_;rintro e w7 ⟨id7,rfl,ns7,mm7,h7,hp7,hr7,hk7,hi7⟩;have H7:=q_ h7;have HS7:=q_ (And.intro hp7 (And.intro hr7 (And.intro hk7 hi7)));clear h7 hp7 hr7 hk7 hi7 H6;(try clear b0 bl n0 n1 nl u5 ul Hn Hb);obtain⟨_,_,_,u5,_,ul⟩:=uC_ H7.o;have hk1:w7.heap[b2]?=some (.cells #[.pointer (some ⟨U.ub,0,none⟩)] 44 (0,0)):=A5 H7.o (um_ i_);have hk2:w7.heap[b2+1]?=some (.cells #[.bool false,.slice an (zd (n:Int)).length cn] 30 (0,0)):=A5 H7.o (um_ i_);have Hn:=q_ hk2;have Hb:=q_ hk1;have b0:=hEC hk1 0;have bl:=lBk hk1;obtain⟨n0,n1,nl⟩:=l2_ hk2;clear hk1 hk2;(try clear k0 kl Hk);have hk3:w7.heap[kb]?=some (.cells #[.int .i64 (k:Int)] 3 (0,0)):=A5 H7.o (um_ i_);have Hk:=q_ hk3;have k0:=hEC hk3 0;have k0z:=hEF hk3 0;have kl:=lBk hk3;clear hk3
    have hw:IntKind.i64.wrap ((k:Int)+1)=(k:Int)+1:=(by simp [IntKind.wrap,IntKind.signed,IntKind.bits];omega);go_wp2;go_roundg (200 - (k+1));case measure=>omega
    case rel=>exact⟨k+1,w7.heap.size,id7,ns7,mm7,o_,Nat.le_refl _,rfl,rfl,rfl,q_ ⟨Ti H7.o k,HS7.o.2.1,HS7.o.2.2.1,by rw [HUP.o k HBI.o];exact HS7.o.2.2.2⟩,q_ (HPX.o.trans HS7.o.1)⟩
   ·rw [show n / 2 ^ k % 2=0 by omega] at HB9;have HNO:=q_ (bit_no hbit);have hkz:(k:Int)<200:=o_;clear hbit;go_wp2_with fail;refine (HB9.o).mono ?_;rintro e w6 ⟨rfl,hf⟩;have H6:=q_ (HR.o.step hf);clear hf HR HB9;(try clear b0 bl n0 n1 nl u5 ul Hn Hb);obtain⟨_,_,_,u5,_,ul⟩:=uC_ H6.o;have hk1:w6.heap[b2]?=some (.cells #[.pointer (some ⟨U.ub,0,none⟩)] 44 (0,0)):=A5 H6.o (um_ i_);have hk2:w6.heap[b2+1]?=some (.cells #[.bool false,.slice an (zd (n:Int)).length cn] 30 (0,0)):=A5 H6.o (um_ i_);have Hn:=q_ hk2;have Hb:=q_ hk1;have b0:=hEC hk1 0;have bl:=lBk hk1;obtain⟨n0,n1,nl⟩:=l2_ hk2;clear hk1 hk2;(try clear k0 kl Hk);have hk3:w6.heap[kb]?=some (.cells #[.int .i64 (k:Int)] 3 (0,0)):=A5 H6.o (um_ i_);have Hk:=q_ hk3;have k0:=hEC hk3 0;have k0z:=hEF hk3 0;have kl:=lBk hk3;clear hk3;have hw:IntKind.i64.wrap ((k:Int)+1)=(k:Int)+1:=(by simp [IntKind.wrap,IntKind.signed,IntKind.bits];omega);go_wp2;go_roundg (200 - (k+1));case measure=>omega
    case rel =>refine⟨k+1,w6.heap.size,id,ns',mm',o_,Nat.le_refl _,rfl,rfl,rfl,q_ ⟨Ti H6.o k,?_,HH.o.kept,by rw [HNO.o];exact HH.o.is⟩,HPX⟩;have:=rG_ (d:=(2000+300*(10 - k)) - (2000+300*(10 - (k+1)))) (A4 (uS_ H6.o)) (A4 (uS_ H6.o)) HH.o.room (List.prefix_refl _) o_ o_;rwa [show 2000+300*(10 - k) - (2000+300*(10 - k) - (2000+300*(10 - (k+1))))=2000+300*(10 - (k+1)) by omega] at this
  ·obtain rfl:k=200:=o_;have HI:=q_ HH.o.is;rw [HEND.o] at HI;have HRM2:=q_ HH.o.room;have HKP2:=q_ HH.o.kept;have hl2:=Mx (A4 (uS_ HR.o)) HRM2.o;clear hlt HH;go_wp2_with fail;refine (HOUT.o _ _ _ _ _ HR.o HI.o).mono ?_;rintro e w6 ⟨rfl,h6⟩;have H6:=q_ h6;have HR6:=q_ h6;clear h6 HR HOUT k0 kl k0z Hk;(try clear b0 bl n0 n1 nl u5 ul Hn Hb);obtain⟨_,_,_,u5,_,ul⟩:=uC_ H6.o;have hk1:w6.heap[b2]?=some (.cells #[.pointer (some ⟨U.ub,0,none⟩)] 44 (0,0)):=A5 H6.o (um_ i_);have hk2:w6.heap[b2+1]?=some (.cells #[.bool false,.slice an (zd (n:Int)).length cn] 30 (0,0)):=A5 H6.o (um_ i_);have Hn:=q_ hk2;have Hb:=q_ hk1;have b0:=hEC hk1 0;have bl:=lBk hk1;obtain⟨n0,n1,nl⟩:=l2_ hk2;clear hk1 hk2;go_wp2_with fail;refine (try_centre (HCT.o _ _ _ _ _ H6.o HI.o o_)).mono ?_;rintro e w7 ⟨id7,rfl,ns7,h7,hp7,hl7,hi7⟩;have H7:=q_ h7;have hrm3:=rG_ (d:=5) (A4 (uS_ HR6.o)) (A4 (uS_ h7)) HRM2.o hp7 hl7 o_;have hrm4:G0 U.r.S ns7 L 1990:=by
    have:=rG_ (d:=2000+300*(10 - 200) - 5 - 1990) (A4 (uS_ h7)) (A4 (uS_ h7)) hrm3 (List.prefix_refl _) o_ o_;exact this
   have HRM3:=q_ hrm4;have HS7:=q_ (And.intro hp7 (And.intro hl7 hi7));clear hrm3 hrm4;clear h7 hp7 hl7 hi7 H6 HCT HR6;(try clear b0 bl n0 n1 nl u5 ul Hn Hb);obtain⟨_,_,_,u5,_,ul⟩:=uC_ H7.o;have hk1:w7.heap[b2]?=some (.cells #[.pointer (some ⟨U.ub,0,none⟩)] 44 (0,0)):=A5 H7.o (um_ i_);have hk2:w7.heap[b2+1]?=some (.cells #[.bool false,.slice an (zd (n:Int)).length cn] 30 (0,0)):=A5 H7.o (um_ i_);have Hn:=q_ hk2;have Hb:=q_ hk1;have b0:=hEC hk1 0;have bl:=lBk hk1;obtain⟨n0,n1,nl⟩:=l2_ hk2;clear hk1 hk2;obtain⟨_,_,_,_,⟨u6,u7⟩,_⟩:=uC_ H7.o;have Hu:=q_ (uH_ H7.o);go_wp2;go_cut [6,10] (fun s6 s10 wx=>∃ (gb:Nat) (p:Option Addr) (q:Nat),s6=.int .i64 0∧s10=.pointer (some ⟨gb,0,none⟩)∧Hid (Has W wx (B4 false (zd (g:Int)) p q::A6 U ns7 mm' (Hp.blk gb (.cells #[.bool false,.slice p (zd (g:Int)).length q] 30 (0,0))::Hp.blk kb (.cells #[.int .i64 200] 3 (0,0))::Hp.blk (b2+1) (.cells #[.bool false,.slice an (zd (n:Int)).length cn] 30 (0,0))::Hp.blk b2 (.cells #[.pointer (some ⟨U.ub,0,none⟩)] 44 (0,0))::Ps))));case first =>
    refine wK_ [[5,9]] [[([0,1,2,3,4,9,5,6,7,8,10,11],[])],[([0,1,2,3,4,5,6,7,8,9,10,11],[])]] k_ k_ ?_;simp only [Ml];refine⟨?_,?_⟩;·
     (simp only [A2,pick,aq_,bq_,cq_,dq_,eq_]);have h8:=ui_ (hAL (H7.o.step (w':=w7.drew) (Fr.t)) #[.bool false,.slice none 0 0] 30);obtain⟨w8,hw8⟩:∃ t,w7.drew.alloc (.cells #[.bool false,.slice none 0 0] 30 (0,0))=t:=⟨_,rfl⟩;obtain⟨gb,hgb⟩:∃ t,w7.heap.size=t:=⟨_,rfl⟩;rw [hw8,show w7.drew.heap.size=gb from hgb] at h8;have H8:=q_ h8;clear h8;go_wp2_with fail;refine (HAD.o _ _ _ (O8 (ng:=false) H8.o (decide_eq_false o_) (by simp [A6,A9])) (HN.o _ _ _ _ H8.o mem4)).mono ?_;clear hw8 hgb;rintro e w9 ⟨vs,rfl,hb9,hf⟩;obtain⟨p,q,rfl,h9⟩:=Bj H8.o hf hb9 HZG.o;rw [decide_eq_false (by omega:¬ ((g:Nat):Int)<0)] at h9 ⊢;have hgk:w9.heap[gb]?=some (.cells #[.bool false,.slice none 0 0] 30 (0,0)):=A5 h9 (List.mem_cons_of_mem _ (um_ i_));obtain⟨g0,g1⟩:=e2_ hgk;have g0z:=hEF hgk 0;have g1z:=hEF hgk 1;have gl:=lBk hgk;have h10:Has W ((w9.setCell ⟨gb,0,none⟩ (.bool false)).setCell ⟨gb,1,none⟩ (.slice p (zd (g:Int)).length q)) (B4 false (zd (g:Int)) p q::A6 U ns7 mm' (Hp.blk gb (.cells #[.bool false,.slice p (zd (g:Int)).length q] 30 (0,0))::Hp.blk kb (.cells #[.int .i64 200] 3 (0,0))::Hp.blk (b2+1) (.cells #[.bool false,.slice an (zd (n:Int)).length cn] 30 (0,0))::Hp.blk b2 (.cells #[.pointer (some ⟨U.ub,0,none⟩)] 44 (0,0))::Ps)) :=
      (hST (hST (h9.ord 7 [6,0,1,2,3,4,5]) 0 (.bool false)) 1 (.slice p (zd (g:Int)).length q)).ord 7 [1,2,3,4,5,6,0]
     obtain⟨w10,hw10⟩:∃ t,(w9.setCell ⟨gb,0,none⟩ (.bool false)).setCell ⟨gb,1,none⟩ (.slice p (zd (g:Int)).length q)=t:=⟨_,rfl⟩;rw [hw10] at h10;have H10:=q_ h10;clear h9 h10 hgk hb9 hf H8;go_wp2;refine mD_ ⟨trivial,sT_ rfl ?_⟩;go_wp2_with fail;go_meet;exact⟨gb,p,q,rfl,rfl,q_ H10.o⟩
    ·(simp only [A2,pick,aq_,bq_,cq_,dq_,eq_]);go_wp2_with fail;refine (HAD.o w7.drew _ _ (O8 (ng:=false) (H7.o.step (Fr.t)) (decide_eq_false o_) (by simp [A6,A9])) (HN.o _ _ _ _ (H7.o.step (Fr.t)) mem3)).mono ?_;rintro e w8 ⟨vs,rfl,hb8,hf⟩;obtain⟨p,q,rfl,h8⟩:=Bj (H7.o.step (w':=w7.drew) (Fr.t)) hf hb8 HZG.o;rw [decide_eq_false (by omega:¬ ((g:Nat):Int)<0)] at h8 ⊢;obtain⟨w10,hw10⟩:∃ t,w8.alloc (.cells #[.bool false,.slice p (zd (g:Int)).length q] 30 (0,0))=t:=⟨_,rfl⟩;obtain⟨gb,hgb⟩:∃ t,w8.heap.size=t:=⟨_,rfl⟩;have h10:Has W w10 (B4 false (zd (g:Int)) p q::A6 U ns7 mm' (Hp.blk gb (.cells #[.bool false,.slice p (zd (g:Int)).length q] 30 (0,0))::Hp.blk kb (.cells #[.int .i64 200] 3 (0,0))::Hp.blk (b2+1) (.cells #[.bool false,.slice an (zd (n:Int)).length cn] 30 (0,0))::Hp.blk b2 (.cells #[.pointer (some ⟨U.ub,0,none⟩)] 44 (0,0))::Ps)):=by
      have:=hAL h8 #[.bool false,.slice p (zd (g:Int)).length q] 30;rw [hw10,hgb] at this;exact this.ord 7 [1,2,3,4,5,6,0]
     have H10:=q_ h10;clear h8 h10 hb8 hf;go_wp2;refine mD_ ⟨trivial,sT_ rfl ?_⟩;go_wp2_with fail;go_meet;exact⟨gb,p,q,rfl,rfl,q_ H10.o⟩
   case rest =>
    obtain⟨gb,p,q,rfl,rfl,HCC⟩:=hcut;clear H7 Hu Hn Hb b0 bl n0 n1 nl u5 u6 u7 ul;go_wp2;(try clear b0 bl n0 n1 nl u5 u6 u7 ul k0 k0z kl g0 g1 g0z g1z gl Hn Hb Hu);have hgk:wc.heap[gb]?=some (.cells #[.bool false,.slice p (zd (g:Int)).length q] 30 (0,0)):=A5 HCC.o (List.mem_cons_of_mem _ (um_ i_));obtain⟨g0,g1,gl⟩:=l2_ hgk;have hbk:wc.heap[b2]?=some (.cells #[.pointer (some ⟨U.ub,0,none⟩)] 44 (0,0)):=A5 HCC.o (List.mem_cons_of_mem _ (um_ i_));have b0:=hEC hbk 0;have bl:=lBk hbk;have huk:wc.heap[U.ub]?=some (.cells (L1 U) 85 (0,0)):=A5 HCC.o (by simp [A6,A9,Ow]);have u5:=hEC huk 5;have u6:=hEC huk 6;have u7:=hEC huk 7;have u5z:=hEF huk 5;have u6z:=hEF huk 6;have u7z:=hEF huk 7;have ul:=lBk huk;simp only [L1] at u5 u6 u7;clear hgk hbk huk;refine wS [([0,1,2,3,4,5,6],[1,3]),([7,8,9],[])] ?_;(simp only [A2,pick,aq_,bq_,cq_,dq_,eq_]);have h11:=hST (Of (ui_ (HCC.o.step (w':=wc.drew) (Fr.t)))) 5 (.int .i64 id7);obtain⟨w11,hw11⟩:∃ t,(wc.drew.setCell ⟨U.ub,5,none⟩ (.int .i64 id7))=t:=⟨_,rfl⟩;rw [hw11] at h11;have H11:=q_ h11;clear h11;go_wp2;clear hw11 u5 u6 u7 u5z u6z u7z ul g0 g1 gl b0 bl;have hgk:w11.heap[gb]?=some (.cells #[.bool false,.slice p (zd (g:Int)).length q] 30 (0,0)):=A5 H11.o i_;have hbk:w11.heap[b2]?=some (.cells #[.pointer (some ⟨U.ub,0,none⟩)] 44 (0,0)):=A5 H11.o i_;have hbc:=hEC hbk 0;refine mD_ ⟨⟨ac_ (T:=44) rfl rfl rfl Tryz.underlying44 rfl hbc rfl,ab_ (T:=30) rfl rfl rfl Tryz.underlying30 rfl k_ hgk rfl,trivial⟩,?_⟩;have huk:=Has.blk H11.o;have u6:=hEC huk 6;have u7:=hEC huk 7;have u6z:=hEF huk 6;have u7z:=hEF huk 7;have ul:=lBk huk;have hu6:((L1 U).setIfInBounds 5 (.int .i64 id7))[6]?=some (.bool false):=rfl
    have hu7:((L1 U).setIfInBounds 5 (.int .i64 id7))[7]?=some (.slice U.ga (zd (U.G:Int)).length U.gc):=rfl;rw [hu6] at u6;rw [hu7] at u7;clear hgk hbk hbc huk hu6 hu7;go_wp2;refine mD_ ⟨trivial,sT_ rfl ?_⟩;go_wp2;go_ret;obtain rfl:=HG.o;exact⟨rfl,id7,p,q,ns7,mm',uni_done H11.o,HPX.o.trans HS7.o.1,HRM3.o,HKP2.o.grow HS7.o.1,HS7.o.2.2⟩
end Go.Proofs.YtebolidfbflkmaaGreat
namespace Go.Proofs.YtebolidfbflkmaaGreat
open Go Go.RowKit Rg Mp Hp Qs Ev Bn Uni
def El:Tr→Bool
 | .leaf v=>decide (v=0)
 | .node a b c d=>El a && El b && El c && El d
def X9 (rb:Nat) (mm:List (Int×Bool)):Res where
 holds w F:=MapIs w rb (Value.int .i64) Value.bool mm∧F=[rb]
 keep:=fun ⟨h1,h2⟩ hk=>⟨h1.of_block (hk _ (by simp [h2])),h2⟩
 lt:=fun ⟨h1,h2⟩ x hx=>by rw [h2] at hx;simp at hx;subst hx;exact h1.lt
def BInv (s:Int) (ns:List K4) (mm:List (Int×Bool)):Prop:=∀ e∈mm,e.2=El (tr s ns e.1)
variable {W w:World}{rb:Nat}{Ps:List Res}
theorem bput {mm mm':List (Int×Bool)} {q:Obj} (h:Has W w (X9 rb mm::Ps)) (hq:MapIs { w with heap:=w.heap.setIfInBounds rb q } rb (Value.int .i64) Value.bool mm'):Has W { w with heap:=w.heap.setIfInBounds rb q } (X9 rb mm'::Ps) :=
 h.turn fun F ⟨h1,h2⟩=>⟨F,⟨hq,h2⟩,(Fr.refl F w).setBlock (.inl (by simp [h2])) q,fun x hx=>.inl hx⟩
variable {id:Int}
theorem Su {ops:Array Oper} {rest:List Oper} {o:Oper} {act:Act} {Q:Exit→Act→World→Prop} {mm:List (Int×Bool)} {f:Bool} {P:Res} {m x u:Operand}
  (hg:o.guard=none) (ho:o.op=.mapUpdate 106 m x u) (hm:act.eval m=.map (some rb)) (hx:act.eval x=.int .i64 id) (hu:act.eval u=.bool f) (h:Has W w (P::X9 rb mm::Ps))
  (hnext:∀ w',Has W w' (P::X9 rb (put mm id f)::Ps)→wpList Tryz.prog ops Q rest (act.put o.dst undef) w'):wpList Tryz.prog ops Q (o::rest) act w:=by
 obtain⟨F8,hM,_⟩:=h.swap.head;exact Br (f:=Value.int .i64) (g:=Value.bool) (k:=id) (v:=f) hg ho hm hx hu hM Tryz.underlying106 J8 fun q hq=>hnext _ (bput h.swap hq).swap
def Xe (b rb:Nat) (vc:Array Value):Prop:=vc[0]?=some (.pointer (some ⟨b,0,none⟩))∧vc[8]?=some (.map (some rb))
def viL (b rb vb:Nat) (s:Int) (ns:List K4) (vc:Array Value) (mm:List (Int×Bool)) (Ps:List Res):List Res :=
 sTR b s ns::X9 rb mm::Hp.blk vb (.cells vc 108 (0,0))::Ps
def Dr (W:World) (b rb vb:Nat) (s:Int) (ns:List K4) (vc:Array Value) (t:Tr) (Ps:List Res) (e:Ending) (w':World):Prop :=
 ∃ mm',e=.returned (.bool (El t))∧Has W w' (viL b rb vb s ns vc mm' Ps)∧BInv s ns mm'
def X6 (W:World) (b rb vb:Nat) (s:Int) (ns:List K4) (vc:Array Value) (n:Nat):Prop :=
 ∀ (w:World) (Ps:List Res) (mm:List (Int×Bool)) (id:Int) (t:Tr),Has W w (viL b rb vb s ns vc mm Ps)→BInv s ns mm→Is s ns n id t →
  Calls Tryz.prog 104 #[.pointer (some ⟨vb,0,none⟩),.int .i64 id] w (Dr W b rb vb s ns vc t Ps)
variable {b vb:Nat}{s:Int}{ns:List K4}{vc:Array Value}
theorem Du {mm:List (Int×Bool)} (hv:Xe b rb vc) (h:Has W w (viL b rb vb s ns vc mm Ps)) :
  w.cell? ⟨vb,0,none⟩=some (.pointer (some ⟨b,0,none⟩))∧w.cell? ⟨vb,8,none⟩=some (.map (some rb))∧vb<w.heap.size∧MapIs w rb (Value.int .i64) Value.bool mm∧rb<w.heap.size:=by
 obtain⟨h1,_,h3⟩:=hCE h.third;obtain⟨F,hm,_⟩:=h.swap.head;exact⟨(h1 0).trans hv.1,(h1 8).trans hv.2,h3,hm,hm.lt⟩
variable {n:Nat}{t:Tr}
theorem Rj {mm:List (Int×Bool)} (hv:Xe b rb vc) (h:Has W w (viL b rb vb s ns vc mm Ps)) (hI:BInv s ns mm) (hi:Is s ns n id t) {p:Bool} (hg:get? mm id=some p) :
  Calls Tryz.prog 104 #[.pointer (some ⟨vb,0,none⟩),.int .i64 id] w (Dr W b rb vb s ns vc t Ps):=by
 obtain⟨v0,v8,vl,hm,hml⟩:=Du hv h;have hp:p=El t:=(hI _ (Ma hg)).trans (congrArg El hi.2.1);have HP:=q_ hp;have HM:=q_ hm;have HG:=q_ hg;have H:=q_ h;have HI:=q_ hI;clear h hi hg hm hp hI;go_enter Tryz.func104,Tryz.ntmps104;go_wp2_with (at_lookup;refine Bc (f:=Value.int .i64) (g:=Value.bool) (k:=id) (z:=.bool false) rfl rfl rfl rfl HM.o Tryz.underlying106 J8 k_ HG.o ?_);go_ret;exact⟨mm,by rw [HP.o];rfl,H.o.step (Fr.t),HI.o⟩
theorem Jz {mm:List (Int×Bool)} (h:BInv s ns mm) (hi:Is s ns n id t) {b:Bool} (hb:El t=b):BInv s ns (put mm id b):=fun e he=>by
 rcases M4 he with h1|rfl
 ·exact h e h1
 ·exact (hb.symm.trans (congrArg El hi.2.1.symm))
theorem blank_leaf {mm:List (Int×Bool)} (hv:Xe b rb vc) (h:Has W w (viL b rb vb s ns vc mm Ps)) (hI:BInv s ns mm) (hi:Is s ns 0 id t) (hg:get? mm id=none) :
  Calls Tryz.prog 104 #[.pointer (some ⟨vb,0,none⟩),.int .i64 id] w (Dr W b rb vb s ns vc t Ps):=by
 obtain⟨v0,v8,vl,hm,hml⟩:=Du hv h;obtain⟨_,_,ht⟩:=hi.zero (A4 h);obtain⟨bb,hbb⟩:∃ bb,(id == 0)=bb:=⟨_,rfl⟩;have hp:El t=bb:=by rw [ht];exact hbb
 have HV:=q_ hv;have HP:=q_ hp;have HM:=q_ hm;have HG:=q_ hg;have H:=q_ h;have HI:=q_ (Jz hI hi hp);have HK:=q_ (fun w1 Qs (h1:Has W w1 (sTR b s ns::Qs))=>E6 h1 hi);unfold Dr;rw [hp];clear h hi hg hm hp hI ht hv;go_enter Tryz.func104,Tryz.ntmps104;go_wp2_with (at_lookup;refine Ad (f:=Value.int .i64) (g:=Value.bool) (k:=id) (z:=.bool false) rfl rfl rfl rfl HM.o Tryz.underlying106 J8 k_ HG.o ?_);refine (HK.o _ _ (H.o.step (Fr.t))).mono ?_;rintro e w1 ⟨rfl,h1,hf⟩;clear v0 v8 vl HM hml hf H HK;obtain⟨v0,v8,vl,hm,hml⟩:=Du HV.o h1;have H1:=q_ h1;have HM1:=q_ hm;clear h1 hm;go_wp2_with (at_mapUpdate;refine Su (W:=W) (id:=id) (f:=bb) rfl rfl rfl rfl rfl (P:=sTR b s ns) (Ps:=Hp.blk vb (.cells vc 108 (0,0))::Ps) (H1.o.step (Fr.t)) ?_);intro w2 h2;have H2:=q_ h2;clear h2;go_wp2;go_ret;exact⟨_,rfl,H2.o,HI.o⟩
theorem blank_node {mm:List (Int×Bool)} (hv:Xe b rb vc) (ih:X6 W b rb vb s ns vc n) (h:Has W w (viL b rb vb s ns vc mm Ps)) (hI:BInv s ns mm) (hi:Is s ns (n+1) id t) (hg:get? mm id=none) :
  Calls Tryz.prog 104 #[.pointer (some ⟨vb,0,none⟩),.int .i64 id] w (Dr W b rb vb s ns vc t Ps):=by
 obtain⟨v0,v8,vl,hm,hml⟩:=Du hv h;have hgd:=A4 h;obtain⟨hs,_,hq⟩:=hi.node hgd;have h2s:=hgd.1;obtain⟨kk,hkk⟩:∃ kk,A0 s ns id=kk:=⟨_,rfl⟩;have HQ:=q_ (hkk▸hq);have HK:=q_ (fun w1 Qs (h1:Has W w1 (sTR b s ns::Qs))=>hkk▸Bg h1 hi);have hid0:(id == 0)=false:=by rw [beq_eq_false_iff_ne];omega
 have HIS:=q_ hi;have HIH:=q_ ih;have HIV:=q_ hI;have HBT:=q_ (show El t=(El (Tr.q t 0) && El (Tr.q t 1) && El (Tr.q t 2) && El (Tr.q t 3)) by rw [tr_node4 hi.2.2.1];rfl);have HV:=q_ hv;have HM:=q_ hm;have HG:=q_ hg;have H:=q_ h;unfold Dr;clear h hi hg hm hI hv hs hq h2s hkk ih hgd;go_enter Tryz.func104,Tryz.ntmps104;go_wp2_with (at_lookup;refine Ad (f:=Value.int .i64) (g:=Value.bool) (k:=id) (z:=.bool false) rfl rfl rfl rfl HM.o Tryz.underlying106 J8 k_ HG.o ?_);refine (HK.o _ _ (H.o.step (Fr.t))).mono ?_;rintro e w1 ⟨rfl,h1,hf⟩;have h2:Has W (w1.alloc (.cells #[.int .i64 kk.a,.int .i64 kk.b,.int .i64 kk.c,.int .i64 kk.d] 132 (0,0))) (viL b rb vb s ns vc mm (Hp.blk w1.heap.size (.cells #[.int .i64 kk.a,.int .i64 kk.b,.int .i64 kk.c,.int .i64 kk.d] 132 (0,0))::Ps)):=(hAL h1 #[.int .i64 kk.a,.int .i64 kk.b,.int .i64 kk.c,.int .i64 kk.d] 132).ord 4 [1,2,3,0];obtain⟨w2,hw2⟩:∃ t,w1.alloc (.cells #[.int .i64 kk.a,.int .i64 kk.b,.int .i64 kk.c,.int .i64 kk.d] 132 (0,0))=t:=⟨_,rfl⟩;obtain⟨kb,hkb⟩:∃ t,w1.heap.size=t:=⟨_,rfl⟩;rw [hw2,hkb] at h2;have H2:=q_ h2;clear v0 v8 vl HM hml hf H HK h1 h2;obtain⟨v0,v8,vl,hm_,hml⟩:=Du HV.o H2.o;have hk_:=A5 H2.o (b:=kb) (o:=.cells #[.int .i64 kk.a,.int .i64 kk.b,.int .i64 kk.c,.int .i64 kk.d] 132 (0,0)) (by simp [viL]);obtain⟨k0,k1,k2,k3,kl⟩:=l4_ hk_;clear hm_ hml hk_;go_wp2_with fail;refine (HIH.o _ _ _ _ _ H2.o HIV.o (HQ.o 0 o_)).mono ?_;rintro e w3 ⟨mm3,rfl,h3,i3⟩;have H3:=q_ h3;have I3:=q_ i3;clear h3 i3 H2 HIV v0 v8 vl k0 k1 k2 k3 kl;obtain⟨v0,v8,vl,hm_,hml⟩:=Du HV.o H3.o;have hk_:=A5 H3.o (b:=kb) (o:=.cells #[.int .i64 kk.a,.int .i64 kk.b,.int .i64 kk.c,.int .i64 kk.d] 132 (0,0)) (by simp [viL]);obtain⟨k0,k1⟩:=e2_ hk_
 have k2:=hEC hk_ 2;have k3:=hEC hk_ 3;have kl:=lBk hk_;clear hm_ hml hk_;obtain⟨b0,e0⟩:∃ x,El (Tr.q t 0)=x:=⟨_,rfl⟩;rw [e0];have E0:=q_ e0;clear e0;cases b0 with
 | false =>have HX:=q_ (Jz I3.o HIS.o (b:=false) (by rw [HBT.o,E0.o];rfl));go_wp2_with (at_mapUpdate;refine Su (W:=W) (id:=id) (f:=false) rfl rfl rfl rfl rfl (P:=sTR b s ns) (Ps:=Hp.blk vb (.cells vc 108 (0,0))::Hp.blk kb (.cells #[.int .i64 kk.a,.int .i64 kk.b,.int .i64 kk.c,.int .i64 kk.d] 132 (0,0))::Ps) (H3.o.step (Fr.t)) ?_);intro w9 h9;have H9:=q_ h9;clear h9;go_wp2;go_ret;refine⟨_,?_,H9.o.ord 4 [0,1,2],HX.o⟩;have hp_:El t=false:=(by rw [HBT.o,E0.o];rfl);rw [hp_];rfl
 | true =>
  go_wp2_with fail;refine (HIH.o _ _ _ _ _ H3.o I3.o (HQ.o 1 o_)).mono ?_;rintro e w4 ⟨mm4,rfl,h4,i4⟩;have H4:=q_ h4;have I4:=q_ i4;clear h4 i4 H3 I3 v0 v8 vl k0 k1 k2 k3 kl;obtain⟨v0,v8,vl,hm_,hml⟩:=Du HV.o H4.o;have hk_:=A5 H4.o (b:=kb) (o:=.cells #[.int .i64 kk.a,.int .i64 kk.b,.int .i64 kk.c,.int .i64 kk.d] 132 (0,0)) (by simp [viL]);obtain⟨k0,k1,k2,k3,kl⟩:=l4_ hk_;clear hm_ hml hk_;obtain⟨b1,e1⟩:∃ x,El (Tr.q t 1)=x:=⟨_,rfl⟩;rw [e1];have E1:=q_ e1;clear e1;cases b1 with
  | false =>have HX:=q_ (Jz I4.o HIS.o (b:=false) (by rw [HBT.o,E0.o,E1.o];rfl));go_wp2_with (at_mapUpdate;refine Su (W:=W) (id:=id) (f:=false) rfl rfl rfl rfl rfl (P:=sTR b s ns) (Ps:=Hp.blk vb (.cells vc 108 (0,0))::Hp.blk kb (.cells #[.int .i64 kk.a,.int .i64 kk.b,.int .i64 kk.c,.int .i64 kk.d] 132 (0,0))::Ps) (H4.o.step (Fr.t)) ?_);intro w9 h9;have H9:=q_ h9;clear h9;go_wp2;go_ret;refine⟨_,?_,H9.o.ord 4 [0,1,2],HX.o⟩;have hp_:El t=false:=(by rw [HBT.o,E0.o,E1.o];rfl);rw [hp_];rfl
  | true =>
   go_wp2_with fail;refine (HIH.o _ _ _ _ _ H4.o I4.o (HQ.o 2 o_)).mono ?_;rintro e w5 ⟨mm5,rfl,h5,i5⟩;have H5:=q_ h5;have I5:=q_ i5;clear h5 i5 H4 I4 v0 v8 vl k0 k1 k2 k3 kl;obtain⟨v0,v8,vl,hm_,hml⟩:=Du HV.o H5.o;have hk_:=A5 H5.o (b:=kb) (o:=.cells #[.int .i64 kk.a,.int .i64 kk.b,.int .i64 kk.c,.int .i64 kk.d] 132 (0,0)) (by simp [viL]);obtain⟨k0,k1,k2,k3,kl⟩:=l4_ hk_;clear hm_ hml hk_;obtain⟨b2,e2⟩:∃ x,El (Tr.q t 2)=x:=⟨_,rfl⟩;rw [e2];have E2:=q_ e2;clear e2;cases b2 with
   | false =>have HX:=q_ (Jz I5.o HIS.o (b:=false) (by rw [HBT.o,E0.o,E1.o,E2.o];rfl));go_wp2_with (at_mapUpdate;refine Su (W:=W) (id:=id) (f:=false) rfl rfl rfl rfl rfl (P:=sTR b s ns) (Ps:=Hp.blk vb (.cells vc 108 (0,0))::Hp.blk kb (.cells #[.int .i64 kk.a,.int .i64 kk.b,.int .i64 kk.c,.int .i64 kk.d] 132 (0,0))::Ps) (H5.o.step (Fr.t)) ?_);intro w9 h9;have H9:=q_ h9;clear h9;go_wp2;go_ret;refine⟨_,?_,H9.o.ord 4 [0,1,2],HX.o⟩;have hp_:El t=false:=(by rw [HBT.o,E0.o,E1.o,E2.o];rfl);rw [hp_];rfl
   | true =>go_wp2_with fail;refine (HIH.o _ _ _ _ _ H5.o I5.o (HQ.o 3 o_)).mono ?_;rintro e w6 ⟨mm6,rfl,h6,i6⟩;have H6:=q_ h6;have I6:=q_ i6;clear h6 i6 H5 I5 v0 v8 vl k0 k1 k2 k3 kl;obtain⟨v0,v8,vl,hm_,hml⟩:=Du HV.o H6.o;have hk_:=A5 H6.o (b:=kb) (o:=.cells #[.int .i64 kk.a,.int .i64 kk.b,.int .i64 kk.c,.int .i64 kk.d] 132 (0,0)) (by simp [viL]);obtain⟨k0,k1,k2,k3,kl⟩:=l4_ hk_;clear hm_ hml hk_;obtain⟨b3,e3⟩:∃ x,El (Tr.q t 3)=x:=⟨_,rfl⟩;rw [e3];have E3:=q_ e3;clear e3;have HX:=q_ (Jz I6.o HIS.o (b:=b3) (by rw [HBT.o,E0.o,E1.o,E2.o,E3.o];rfl));go_wp2_with (at_mapUpdate;refine Su (W:=W) (id:=id) (f:=b3) rfl rfl rfl rfl rfl (P:=sTR b s ns) (Ps:=Hp.blk vb (.cells vc 108 (0,0))::Hp.blk kb (.cells #[.int .i64 kk.a,.int .i64 kk.b,.int .i64 kk.c,.int .i64 kk.d] 132 (0,0))::Ps) (H6.o.step (Fr.t)) ?_);intro w9 h9;have H9:=q_ h9;clear h9;go_wp2;go_ret;refine⟨_,?_,H9.o.ord 4 [0,1,2],HX.o⟩;have hp_:El t=b3:=(by rw [HBT.o,E0.o,E1.o,E2.o,E3.o];rfl);rw [hp_];rfl
theorem Q9 {W:World} {b rb vb:Nat} {s:Int} {ns:List K4} {vc:Array Value} (hv:Xe b rb vc):∀ n,X6 W b rb vb s ns vc n
 | 0=>fun w Ps mm id t h hI hi=>by
  cases hg:get? mm id with
  | none=>exact blank_leaf hv h hI hi hg
  | some p=>exact Rj hv h hI hi hg
 | n+1=>fun w Ps mm id t h hI hi=>by
  cases hg:get? mm id with
  | none=>exact blank_node hv (Q9 hv n) h hI hi hg
  | some p=>exact Rj hv h hI hi hg
end Go.Proofs.YtebolidfbflkmaaGreat
