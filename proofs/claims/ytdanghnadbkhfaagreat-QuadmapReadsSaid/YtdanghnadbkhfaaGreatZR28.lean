/- Own texts of this claim, part 29: no condition. -/
import Derived.Deep.RegionHeld3
import Derived.Deep.DeepCutAuto
import Derived.IntWalk
import Derived.Test.YtdanghnadbkhfaaGreatZR27
import Derived.Test.YtdanghnadbkhfaaGreatZR15
section
namespace Go.Proofs.YtdanghnadbkhfaaGreat
open Go Go.RowKit Rg Mp Hp Qs Ev Bn Pt
set_option linter.unusedVariables false
set_option linter.unusedSimpArgs false
theorem Rframe_result {fn:Func} {p:Tmp} (h:fn.results=#[.cell p 102]) {tmps:Array Value} {b:Nat} {w':World} {f:FV} (h4:tmps.getD p undef=.pointer (some ⟨b,0,none⟩)) (hb:w'.heap[b]?=some (.cells (fCL f) 102 (0,0))) :
  (results fn tmps).run Tryz.prog w'=.ok (fvV f) w':=by
 rw [results_cell1 h,h4]
 simp only [asAddr,Sem.run_pure,Result.andThen]
 rw [run_loadVar_row w' b _ _ _ _ _ hb Tryz.underlying102 rfl (by kernel_rfl)]
 rfl
def bxR (p:Nat) (X:BV):Res:=Hp.blk p (.cells #[.bool false,.slice X.2.1 (zd (X.1:Int)).length X.2.2] 27 (0,0))
def fxR (p:Nat) (f:FV):Res:=Hp.blk p (.cells (fCL f) 102 (0,0))
def JI (W:World) (Ps:List Res) (L:List BV) (a b:FV) (X Y:BV) (ob rb yb xb bb ab:Nat) (g0 g1 g2 g3:Nat) (wr:World) (k:Nat):Prop :=
 ∃ y0 y1 y2 y3 L',Has W wr (fxR ob (true,y0,y1,y2,y3)::fxR rb (zFV false)::bxR yb Y::bxR xb X::fxR bb b::fxR ab a::poolR L'::Ps)∧(∀ x∈L,x∈L')∧InL L' (true,y0,y1,y2,y3) ∧
  (if 0<k then y0.1=g0 else y0=zBV)∧(if 1<k then y1.1=g1 else y1=zBV)∧(if 2<k then y2.1=g2 else y2=zBV)∧(if 3<k then y3.1=g3 else y3=zBV)
def JPost (W:World) (Ps:List Res) (L:List BV) (o:Option Frm) (e:Ending) (w':World):Prop :=
 ∃ f L',e=.returned (fvV f)∧Has W w' (poolR L'::Ps)∧(∀ x∈L,x∈L')∧FrOk o f∧InL L' f
def jg (o:Bool) (m:Nat→Nat→Nat) (v a:Nat):Nat:=if o then m v a else v
theorem cmp_lt9 (x y:Nat):decide (cmpI (x:Int) (y:Int)<0)=decide (x<y):=by
 unfold cmpI
 rw [decide_eq_decide]
 split
 ·omega
 ·split<;>omega
theorem radd_b {w:World} {x d:BV} {U:Nat} (hx:BigIn w false (zd (x.1:Int)) x.2.1 x.2.2) (hd:BigIn w false (zd (d.1:Int)) d.2.1 d.2.2) (hU:x.1+d.1=U) (zx:Zok (x.1:Int)) (zh:Zok (d.1:Int)) (zu:Zok (U:Int)) :
  Calls Tryz.prog 89 #[.agg #[.bool false,.slice x.2.1 (zd (x.1:Int)).length x.2.2],.agg #[.bool false,.slice d.2.1 (zd (d.1:Int)).length d.2.2]] w fun e w'=>∃ a c,e=.returned (.tuple #[.agg #[.bool false,.slice a (zd (U:Int)).length c],.int .i64 0])∧(BigIn w' false (zd (U:Int)) a c∧∀ g,(Value.slice a (zd (U:Int)).length c).ownBlock=some g→w.heap.size≤g)∧Fr [] w w':=by
 refine (RAdd_z (in_z' hx) (in_z' hd) zx zh (by rw [← Int.natCast_add,hU];exact zu)).mono ?_
 rw [← Int.natCast_add,hU]
 rintro e w' ⟨v,rfl,⟨a,c,rfl,h1,h2,h3⟩,hf⟩
 refine⟨a,c,?_,⟨⟨h3,zd_dig _,h1,?_⟩,h2⟩,hf⟩
 ·rw [show decide (((U:Nat):Int)<0)=false by simp]
 ·have:=zd_len zu;omega
def JL (a b:FV) (X Y:BV) (ob rb yb xb bb ab:Nat) (y0 y1 y2 y3:BV) (L':List BV) (Ps:List Res):List Res :=
 fxR ob (true,y0,y1,y2,y3)::fxR rb (zFV false)::bxR yb Y::bxR xb X::fxR bb b::fxR ab a::poolR L'::Ps
set_option maxHeartbeats 16000000 in
set_option maxRecDepth 100000 in
theorem Rjoined_h {W w:World} {L:List BV} {Ps:List Res} (h:Has W w (poolR L::Ps)) {oa ob:Option Frm} {a b:FV} (ha:FrOk oa a) (hb:FrOk ob b) (la:InL L a) (lb:InL L b) {X Y:BV} (lx:X∈L) (ly:Y∈L) {M:Nat} (hM:∀ V:Nat,V<M→Zok (V:Int))
  (ba:a.2.1.1<M∧a.2.2.1.1<M∧a.2.2.2.1.1<M∧a.2.2.2.2.1<M) (bb:b.2.1.1+X.1<M∧b.2.2.1.1+Y.1<M∧b.2.2.2.1.1+X.1<M∧b.2.2.2.2.1+Y.1<M) :
  Calls Tryz.prog 52 #[fvV a,fvV b,bvV X,bvV Y] w (JPost W Ps L (joinF oa ob (X.1:Int) (Y.1:Int))):=by
 obtain⟨oka,a0,a1,a2,a3⟩:=a
 obtain⟨okb,b0,b1,b2,b3⟩:=b
 obtain⟨p1,hp1⟩:∃ p,w.heap.size=p:=⟨_,rfl⟩
 cases okb with
 | false =>
  have hob:ob=none:=by
   have:=hb.1
   cases ob with
   | none=>rfl
   | some x=>simp at this
  subst hob
  have HF:=Lib.hid (And.intro ha la)
  have H:=Lib.hid h
  clear h ha hb la lb lx ly hM ba bb
  simp only [fvV,fCL,bvV]
  go_enter Tryz.func52,Tryz.ntmps52
  go_wp2
  refine bodyPost_ret (Rframe_result rfl (b:=p1+1+1+1+1) (f:=(oka,a0,a1,a2,a3)) rfl ?_) rfl ⟨(oka,a0,a1,a2,a3),L,rfl,H.out.step (by (repeat first|exact Fr.refl _ _|assumption|apply Fr.n|apply Fr.d|apply Fr.a|refine Fr.s ?_ (.inr (by simp;try omega)) _)),fun _ hx=>hx,HF.out.1,HF.out.2⟩
  (repeat first|rw [if_pos (by omega)]|rw [if_neg (by omega)]|rw [hDR]|rw [hDN]|rw [hAz]|rw [hSz]|rw [hAC]|rw [hSC]|rw [oMS]|rw [uPC]|rw [lSZ]|rw [lSS]|rfl)
 | true =>
  obtain⟨⟨xl,xt,xr,xm⟩,rfl⟩:∃ x,ob=some x:=by
   have:=hb.1
   cases ob with
   | none=>simp at this
   | some x=>exact⟨x,rfl⟩
  obtain⟨JO,hJO⟩:∃ J,joinF oa (some (xl,xt,xr,xm)) (X.1:Int) (Y.1:Int)=J:=⟨_,rfl⟩
  rw [hJO]
  have HJO:=Lib.hid hJO
  clear hJO
  have H0:=Lib.hid h
  have HM:=Lib.hid hM
  have HB:=Lib.hid (And.intro ba bb)
  have HA:=Lib.hid ha
  have HFB:=Lib.hid hb
  have HIN:=Lib.hid (And.intro la (And.intro lb (And.intro lx ly)))
  clear h ha hb la lb lx ly hM ba bb
  have h1:=hAL (hAL (hAL (hAL (hAL (hAL (z_in H0.out) (fCL (oka,a0,a1,a2,a3)) 102) (fCL (true,b0,b1,b2,b3)) 102) #[.bool false,.slice X.2.1 (zd (X.1:Int)).length X.2.2] 27) #[.bool false,.slice Y.2.1 (zd (Y.1:Int)).length Y.2.2] 27) (fCL (zFV false)) 102) (fCL (zFV true)) 102
  rw [fcells_zero,fcells_zero] at h1
  simp only [fCL,hAz,hp1] at h1
  have H1:=Lib.hid h1
  clear h1 H0
  simp only [fvV,fCL,bvV]
  go_enter Tryz.func52,Tryz.ntmps52
  go_wp2
  obtain⟨p2,hp2⟩:∃ p,p1+1=p:=⟨_,rfl⟩
  rw [hp2] at H1 ⊢
  obtain⟨p3,hp3⟩:∃ p,p2+1=p:=⟨_,rfl⟩
  rw [hp3] at H1 ⊢
  obtain⟨p4,hp4⟩:∃ p,p3+1=p:=⟨_,rfl⟩
  rw [hp4] at H1 ⊢
  obtain⟨p5,hp5⟩:∃ p,p4+1=p:=⟨_,rfl⟩
  rw [hp5] at H1 ⊢
  obtain⟨p6,hp6⟩:∃ p,p5+1=p:=⟨_,rfl⟩
  rw [hp6] at H1 ⊢
  clear hp1 hp2 hp3 hp4 hp5 hp6
  go_loopw [10] (fun z wr=>∃ i:Int,z=.int .i64 i∧At5 (JI W Ps L (oka,a0,a1,a2,a3) (true,b0,b1,b2,b3) X Y p6 p5 p4 p3 p2 p1 (jg oka min (b0.1+X.1) a0.1) (jg oka min (b1.1+Y.1) a1.1) (jg oka max (b2.1+X.1) a2.1) (jg oka max (b3.1+Y.1) a3.1) wr) i) (fun z _=>4 - (intOf z).toNat)
  case atStart =>
   refine⟨0,rfl,.inl ⟨rfl,zBV,zBV,zBV,zBV,zBV::L,?_,fun x hx=>by simp [hx],⟨by simp,by simp,by simp,by simp⟩,rfl,rfl,rfl,rfl⟩⟩
   have h9:=H1.out
   unfold fxR bxR
   rw [show ((true,zBV,zBV,zBV,zBV):FV)=zFV true from rfl,fcells_zero,fcells_zero]
   simp only [fCL]
   exact h9
  case round =>
   obtain⟨i,rfl,hz⟩:=hrel
   clear H1
   rcases hz with ⟨rfl,hz⟩|⟨rfl,hz⟩|⟨rfl,hz⟩|⟨rfl,hz⟩|⟨rfl,hz⟩
   ·
    obtain⟨y0,y1,y2,y3,L',h,hm,hin,c0,c1,c2,c3⟩:=hz
    have hb:=(h.ord 8 [4]).blk
    have b0c:_=some (Value.bool false):=hEC hb 0
    have b1c:_=some (Value.slice b0.2.1 (zd (b0.1:Int)).length b0.2.2):=hEC hb 1
    have bl:=lBk hb
    clear hb
    have hb:=(h.ord 8 [3]).blk
    have x0c:_=some (Value.bool false):=hEC hb 0
    have x1c:_=some (Value.slice X.2.1 (zd (X.1:Int)).length X.2.2):=hEC hb 1
    have xlc:=lBk hb
    clear hb
    have hb:=(h.ord 8 [2]).blk
    have y0c:_=some (Value.bool false):=hEC hb 0
    have y1c:_=some (Value.slice Y.2.1 (zd (Y.1:Int)).length Y.2.2):=hEC hb 1
    have ylc:=lBk hb
    clear hb
    have H:=Lib.hid (show Has W wr (JL (oka,a0,a1,a2,a3) (true,b0,b1,b2,b3) X Y p6 p5 p4 p3 p2 p1 y0 y1 y2 y3 L' Ps) from h)
    have HML:=Lib.hid hm
    have HYN:=Lib.hid hin
    have HC:=Lib.hid (And.intro c0 (And.intro c1 (And.intro c2 c3)))
    clear h hm hin c0 c1 c2 c3
    go_upto_region 10 with fail
    refine aBW (fun w'=>Has W w' (bxR wr.heap.size X::JL (oka,a0,a1,a2,a3) (true,b0,b1,b2,b3) X Y p6 p5 p4 p3 p2 p1 y0 y1 y2 y3 L' Ps)) (hAL H.out _ _) ?_
    intro w3 h3
    obtain⟨db,hdb⟩:∃ x,wr.heap.size=x:=⟨_,rfl⟩
    rw [hdb] at h3 ⊢
    clear b0c b1c bl x0c x1c xlc y0c y1c ylc H hdb
    have hb:=(h3.ord 8 [5]).blk
    have s0:_=some (Value.bool false):=hEC hb 0
    have s1:_=some (Value.slice b0.2.1 (zd (b0.1:Int)).length b0.2.2):=hEC hb 1
    have sl:=lBk hb
    clear hb
    have hb:=(h3.ord 8 [0]).blk
    have t0:_=some (Value.bool false):=hEC hb 0
    have t1:_=some (Value.slice X.2.1 (zd (X.1:Int)).length X.2.2):=hEC hb 1
    have tl:=lBk hb
    clear hb
    have ns0:=World.new_ne w3 _ s0
    have nt0:=World.new_ne w3 _ t0
    obtain⟨U,hU⟩:∃ U,b0.1+X.1=U:=⟨_,rfl⟩
    have HU:=Lib.hid hU
    have HUM:=Lib.hid (show U<M from by have:=HB.out.2.1;(try simp only at this);omega)
    have HADD:=Lib.hid (fun w1 (hf:Fr [] w3 w1)=>radd_b (x:=b0) (d:=X) (pool_in (h3.step hf) (by simp [JL]) (HML.out _ HIN.out.2.1.1)) (pool_in (h3.step hf) (by simp [JL]) (HML.out _ HIN.out.2.2.1)) hU (HM.out _ (by have:=HUM.out;omega)) (HM.out _ (by have:=HUM.out;omega)) (HM.out _ HUM.out))
    have HR:=Lib.hid h3
    clear hU h3
    go_cut [12] (fun s12 wx=>∃ (vb:Nat) (va:Option Addr) (vc:Nat),s12=.pointer (some ⟨vb,0,none⟩)∧Hid (Has W wx (bigR false (zd (U:Int)) va vc::bxR vb (U,va,vc)::JL (oka,a0,a1,a2,a3) (true,b0,b1,b2,b3) X Y p6 p5 p4 p3 p2 p1 y0 y1 y2 y3 L' Ps)))
    case first =>
     go_region_held3 (fun w'=>w'.cell? ⟨p2,0,none⟩=some (.bool false)∧w'.cell? ⟨p2,1,none⟩=some (.slice b0.2.1 (zd (b0.1:Int)).length b0.2.2)∧w'.cell? ⟨db,0,none⟩=some (.bool false)∧w'.cell? ⟨db,1,none⟩=some (.slice X.2.1 (zd (X.1:Int)).length X.2.2)) (first|go_keep|exact⟨kA0,kA1,kA2,kA3⟩)
      ((go_at_call 89;refine (HADD.out _ ?_).mono ?_;(· (repeat first|exact Fr.refl _ _|assumption|apply Fr.n|apply Fr.d|apply Fr.a|refine Fr.s ?_ (.inl (by simp)) _));rintro e wA ⟨va,vc,rfl,hbA,hfA⟩;have HBA:=Lib.hid hbA;clear hbA;have hrA:Fr [] w3 wA:=Fr.trans0 (by (repeat first|exact Fr.refl _ _|assumption|apply Fr.n|apply Fr.d|apply Fr.a|refine Fr.s ?_ (.inl (by simp)) _)) hfA;have kA0:=(hrA.cell (p:=⟨p2,0,none⟩) sl (by simp)).trans s0;have kA1:=(hrA.cell (p:=⟨p2,1,none⟩) sl (by simp)).trans s1;have kA2:=(hrA.cell (p:=⟨db,0,none⟩) tl (by simp)).trans t0;have kA3:=(hrA.cell (p:=⟨db,1,none⟩) tl (by simp)).trans t1;have nA0:=World.new_ne wA _ kA0;obtain⟨cA,zA⟩:=frcell hfA;(try (have sA:w3.heap.size<wA.heap.size:=by have h:=hfA.size;(try simp at h);omega))))
     all_goals
      go_wp2_with fail
      go_meet
      first
       | exact⟨_,va,vc,rfl,Lib.hid (hAL (has_bigin ((HR.out.ord 1 []).step (by (repeat first|exact Fr.refl _ _|assumption|apply Fr.n|apply Fr.d|apply Fr.a|refine Fr.s ?_ (.inr (by simp;try omega)) _))) hfA HBA.out) #[.bool false,.slice va (zd (U:Int)).length vc] 27).swap⟩
       | exact⟨_,va,vc,rfl,Lib.hid (hST (hST (has_bigin ((hAL (HR.out.ord 1 []) #[.bool false,.slice none 0 0] 27).step (by (repeat first|exact Fr.refl _ _|assumption|apply Fr.n|apply Fr.d|apply Fr.a|refine Fr.s ?_ (.inr (by simp;try omega)) _))) hfA HBA.out).swap 0 (.bool false)) 1 (.slice va (zd (U:Int)).length vc)).swap⟩
       | exact⟨_,va,vc,rfl,Lib.hid (hST (hST (has_bigin ((hAL ((HR.out.ord 1 []).step (by (repeat first|exact Fr.refl _ _|assumption|apply Fr.n|apply Fr.d|apply Fr.a|refine Fr.s ?_ (.inr (by simp;try omega)) _))) #[.bool false,.slice none 0 0] 27).step (by (repeat first|exact Fr.refl _ _|assumption|apply Fr.n|apply Fr.d|apply Fr.a|refine Fr.s ?_ (.inr (by simp;try omega)) _))) hfA HBA.out).swap 0 (.bool false)) 1 (.slice va (zd (U:Int)).length vc)).swap⟩
    case rest =>
     obtain⟨vb,va,vc,rfl,HCU⟩:=hcut
     clear HR HADD s0 s1 sl t0 t1 tl ns0 nt0
     have h4:=HCU.out
     have hbx:=(h4.ord 8 [1]).blk
     have v0:_=some (Value.bool false):=hEC hbx 0
     have v1:_=some (Value.slice va (zd (U:Int)).length vc):=hEC hbx 1
     have vz0:=hEF hbx 0
     have vz1:=hEF hbx 1
     have vl:=lBk hbx
     have hba:=(h4.ord 8 [7]).blk
     have a8:_=some (Value.bool oka):=hEC hba 8
     have aa0:_=some (Value.bool false):=hEC hba 0
     have aa1:_=some (Value.slice a0.2.1 (zd (a0.1:Int)).length a0.2.2):=hEC hba 1
     have al:=lBk hba
     clear hbx hba h4
     have HT:=Lib.hid ((pool_add (HCU.out.ord 9 [0,8,1,2,3,4,5,6,7])).ord 8 [1,2,3,4,5,6,7,0])
     cases oka with
     | false =>
      have hb:=(HCU.out.ord 8 [2]).blk
      have o0:_=some (Value.bool false):=hEC hb 0
      have o1:_=some (Value.slice y0.2.1 (zd (y0.1:Int)).length y0.2.2):=hEC hb 1
      have oz0:=hEF hb 0
      have oz1:=hEF hb 1
      have ol:=lBk hb
      clear hb
      go_wp2
      (refine wRT (by kernel_rfl) (by kernel_rfl) ?_)
      go_wp2
      refine Strict.intro rfl ?_
      go_wp2
      go_roundw
      case rel =>
       have h9:=(hST (hST HT.out.swap 0 (.bool false)) 1 (.slice va (zd (U:Int)).length vc)).ord 2 [0]
       exact⟨1,rfl,(.inr (.inl ⟨rfl,(U,va,vc),y1,y2,y3,(U,va,vc)::L',h9.step (by (repeat first|exact Fr.refl _ _|assumption|apply Fr.n|apply Fr.d|apply Fr.a|refine Fr.s ?_ (.inr (by simp;try omega)) _)),fun x hx=>by simp [HML.out x hx],by have h:=HYN.out;simp only [InL] at h ⊢;simp [h],(by have:=HU.out;simp [jg];omega),(by have h:=HC.out.2.1;simpa using h),(by have h:=HC.out.2.2.1;simpa using h),(by have h:=HC.out.2.2.2;simpa using h)⟩))⟩
      case measure=>simp [intOf]
     | true =>
      obtain⟨cp,hcp⟩:∃ cp,decide (cmpI (a0.1:Int) (U:Int)<0)=cp:=⟨_,rfl⟩
      have HCP:=Lib.hid (hcp▸(cmp_lt9 a0.1 U).symm:decide (a0.1<U)=cp)
      go_wp2
      (refine wRT (by kernel_rfl) (by kernel_rfl) ?_)
      go_wp2_with fail
      refine (RCompare_z (in_z' (pool_in (e:=a0) (HCU.out.step (by (repeat first|exact Fr.refl _ _|assumption|apply Fr.n|apply Fr.d|apply Fr.a|refine Fr.s ?_ (.inr (by simp;try omega)) _))) (by simp [JL]) (HML.out _ HIN.out.1.1))) (in_z (big_mem9 (a:=va) (c:=vc) (neg:=false) (HCU.out.step (by (repeat first|exact Fr.refl _ _|assumption|apply Fr.n|apply Fr.d|apply Fr.a|refine Fr.s ?_ (.inr (by simp;try omega)) _))) (by simp))) (HM.out _ (by have:=HB.out.1.1;(try simp only at this);omega)) (HM.out _ HUM.out)).mono ?_
      rintro e w7 ⟨rfl,hf7⟩
      have h7:=HT.out.step (Fr.trans0 (by (repeat first|exact Fr.refl _ _|assumption|apply Fr.n|apply Fr.d|apply Fr.a|refine Fr.s ?_ (.inr (by simp;try omega)) _)) hf7)
      have H7:=Lib.hid h7
      clear v0 v1 vz0 vz1 vl a8 aa0 aa1 al HT hf7
      have hbx:=(h7.ord 8 [0]).blk
      have v0:_=some (Value.bool false):=hEC hbx 0
      have v1:_=some (Value.slice va (zd (U:Int)).length vc):=hEC hbx 1
      have vz0:=hEF hbx 0
      have vz1:=hEF hbx 1
      have vl:=lBk hbx
      have hba:=(h7.ord 8 [6]).blk
      have aa0:_=some (Value.bool false):=hEC hba 0
      have aa1:_=some (Value.slice a0.2.1 (zd (a0.1:Int)).length a0.2.2):=hEC hba 1
      have al:=lBk hba
      have hb:=(h7.ord 8 [1]).blk
      have o0:_=some (Value.bool false):=hEC hb 0
      have o1:_=some (Value.slice y0.2.1 (zd (y0.1:Int)).length y0.2.2):=hEC hb 1
      have oz0:=hEF hb 0
      have oz1:=hEF hb 1
      have ol:=lBk hb
      clear hb
      have hne:p6≠vb:=(h7.ord 2 [1,0]).blk_ne
      clear hbx hba h7
      cases cp with
      | true =>
       go_wp2
       refine Strict.intro rfl ?_
       go_wp2
       go_roundw
       case rel =>
        have h8:=hST (hST H7.out 0 (.bool false)) 1 (.slice a0.2.1 (zd (a0.1:Int)).length a0.2.2)
        have h9:=(hST (hST h8.swap 0 (.bool false)) 1 (.slice a0.2.1 (zd (a0.1:Int)).length a0.2.2)).ord 2 [0]
        exact⟨1,rfl,(.inr (.inl ⟨rfl,a0,y1,y2,y3,(U,va,vc)::L',h9.step (by (repeat first|exact Fr.refl _ _|assumption|apply Fr.n|apply Fr.d|apply Fr.a|refine Fr.s ?_ (.inr (by simp;try omega)) _)),fun x hx=>by simp [HML.out x hx],by have h:=HYN.out;have h2:=HML.out _ HIN.out.1.1;simp only [InL] at h h2 ⊢;simp [h,h2],(by have h1:=HU.out;have h2:=HCP.out;simp [jg] at h2 ⊢;omega),(by have h:=HC.out.2.1;simpa using h),(by have h:=HC.out.2.2.1;simpa using h),(by have h:=HC.out.2.2.2;simpa using h)⟩))⟩
       case measure=>simp [intOf]
      | false =>
       go_wp2
       refine Strict.intro rfl ?_
       go_wp2
       go_roundw
       case rel =>
        have h9:=(hST (hST H7.out.swap 0 (.bool false)) 1 (.slice va (zd (U:Int)).length vc)).ord 2 [0]
        exact⟨1,rfl,(.inr (.inl ⟨rfl,(U,va,vc),y1,y2,y3,(U,va,vc)::L',h9.step (by (repeat first|exact Fr.refl _ _|assumption|apply Fr.n|apply Fr.d|apply Fr.a|refine Fr.s ?_ (.inr (by simp;try omega)) _)),fun x hx=>by simp [HML.out x hx],by have h:=HYN.out;simp only [InL] at h ⊢;simp [h],(by have h1:=HU.out;have h2:=HCP.out;simp [jg] at h2 ⊢;omega),(by have h:=HC.out.2.1;simpa using h),(by have h:=HC.out.2.2.1;simpa using h),(by have h:=HC.out.2.2.2;simpa using h)⟩))⟩
       case measure=>simp [intOf]
   ·
    obtain⟨y0,y1,y2,y3,L',h,hm,hin,c0,c1,c2,c3⟩:=hz
    have hb:=(h.ord 8 [4]).blk
    have b0c:_=some (Value.bool false):=hEC hb 2
    have b1c:_=some (Value.slice b1.2.1 (zd (b1.1:Int)).length b1.2.2):=hEC hb 3
    have bl:=lBk hb
    clear hb
    have hb:=(h.ord 8 [3]).blk
    have x0c:_=some (Value.bool false):=hEC hb 0
    have x1c:_=some (Value.slice X.2.1 (zd (X.1:Int)).length X.2.2):=hEC hb 1
    have xlc:=lBk hb
    clear hb
    have hb:=(h.ord 8 [2]).blk
    have y0c:_=some (Value.bool false):=hEC hb 0
    have y1c:_=some (Value.slice Y.2.1 (zd (Y.1:Int)).length Y.2.2):=hEC hb 1
    have ylc:=lBk hb
    clear hb
    have H:=Lib.hid (show Has W wr (JL (oka,a0,a1,a2,a3) (true,b0,b1,b2,b3) X Y p6 p5 p4 p3 p2 p1 y0 y1 y2 y3 L' Ps) from h)
    have HML:=Lib.hid hm
    have HYN:=Lib.hid hin
    have HC:=Lib.hid (And.intro c0 (And.intro c1 (And.intro c2 c3)))
    clear h hm hin c0 c1 c2 c3
    go_upto_region 10 with fail
    refine aBW (fun w'=>Has W w' (bxR wr.heap.size Y::JL (oka,a0,a1,a2,a3) (true,b0,b1,b2,b3) X Y p6 p5 p4 p3 p2 p1 y0 y1 y2 y3 L' Ps)) (hAL H.out _ _) ?_
    intro w3 h3
    obtain⟨db,hdb⟩:∃ x,wr.heap.size=x:=⟨_,rfl⟩
    rw [hdb] at h3 ⊢
    clear b0c b1c bl x0c x1c xlc y0c y1c ylc H hdb
    have hb:=(h3.ord 8 [5]).blk
    have s0:_=some (Value.bool false):=hEC hb 2
    have s1:_=some (Value.slice b1.2.1 (zd (b1.1:Int)).length b1.2.2):=hEC hb 3
    have sl:=lBk hb
    clear hb
    have hb:=(h3.ord 8 [0]).blk
    have t0:_=some (Value.bool false):=hEC hb 0
    have t1:_=some (Value.slice Y.2.1 (zd (Y.1:Int)).length Y.2.2):=hEC hb 1
    have tl:=lBk hb
    clear hb
    have ns0:=World.new_ne w3 _ s0
    have nt0:=World.new_ne w3 _ t0
    obtain⟨U,hU⟩:∃ U,b1.1+Y.1=U:=⟨_,rfl⟩
    have HU:=Lib.hid hU
    have HUM:=Lib.hid (show U<M from by have:=HB.out.2.2.1;(try simp only at this);omega)
    have HADD:=Lib.hid (fun w1 (hf:Fr [] w3 w1)=>radd_b (x:=b1) (d:=Y) (pool_in (h3.step hf) (by simp [JL]) (HML.out _ HIN.out.2.1.2.1)) (pool_in (h3.step hf) (by simp [JL]) (HML.out _ HIN.out.2.2.2)) hU (HM.out _ (by have:=HUM.out;omega)) (HM.out _ (by have:=HUM.out;omega)) (HM.out _ HUM.out))
    have HR:=Lib.hid h3
    clear hU h3
    go_cut [12] (fun s12 wx=>∃ (vb:Nat) (va:Option Addr) (vc:Nat),s12=.pointer (some ⟨vb,0,none⟩)∧Hid (Has W wx (bigR false (zd (U:Int)) va vc::bxR vb (U,va,vc)::JL (oka,a0,a1,a2,a3) (true,b0,b1,b2,b3) X Y p6 p5 p4 p3 p2 p1 y0 y1 y2 y3 L' Ps)))
    case first =>
     go_region_held3 (fun w'=>w'.cell? ⟨p2,2,none⟩=some (.bool false)∧w'.cell? ⟨p2,3,none⟩=some (.slice b1.2.1 (zd (b1.1:Int)).length b1.2.2)∧w'.cell? ⟨db,0,none⟩=some (.bool false)∧w'.cell? ⟨db,1,none⟩=some (.slice Y.2.1 (zd (Y.1:Int)).length Y.2.2)) (first|go_keep|exact⟨kA0,kA1,kA2,kA3⟩)
      ((go_at_call 89;refine (HADD.out _ ?_).mono ?_;(· (repeat first|exact Fr.refl _ _|assumption|apply Fr.n|apply Fr.d|apply Fr.a|refine Fr.s ?_ (.inl (by simp)) _));rintro e wA ⟨va,vc,rfl,hbA,hfA⟩;have HBA:=Lib.hid hbA;clear hbA;have hrA:Fr [] w3 wA:=Fr.trans0 (by (repeat first|exact Fr.refl _ _|assumption|apply Fr.n|apply Fr.d|apply Fr.a|refine Fr.s ?_ (.inl (by simp)) _)) hfA;have kA0:=(hrA.cell (p:=⟨p2,2,none⟩) sl (by simp)).trans s0;have kA1:=(hrA.cell (p:=⟨p2,3,none⟩) sl (by simp)).trans s1;have kA2:=(hrA.cell (p:=⟨db,0,none⟩) tl (by simp)).trans t0;have kA3:=(hrA.cell (p:=⟨db,1,none⟩) tl (by simp)).trans t1;have nA0:=World.new_ne wA _ kA0;obtain⟨cA,zA⟩:=frcell hfA;(try (have sA:w3.heap.size<wA.heap.size:=by have h:=hfA.size;(try simp at h);omega))))
     all_goals
      go_wp2_with fail
      go_meet
      first
       | exact⟨_,va,vc,rfl,Lib.hid (hAL (has_bigin ((HR.out.ord 1 []).step (by (repeat first|exact Fr.refl _ _|assumption|apply Fr.n|apply Fr.d|apply Fr.a|refine Fr.s ?_ (.inr (by simp;try omega)) _))) hfA HBA.out) #[.bool false,.slice va (zd (U:Int)).length vc] 27).swap⟩
       | exact⟨_,va,vc,rfl,Lib.hid (hST (hST (has_bigin ((hAL (HR.out.ord 1 []) #[.bool false,.slice none 0 0] 27).step (by (repeat first|exact Fr.refl _ _|assumption|apply Fr.n|apply Fr.d|apply Fr.a|refine Fr.s ?_ (.inr (by simp;try omega)) _))) hfA HBA.out).swap 0 (.bool false)) 1 (.slice va (zd (U:Int)).length vc)).swap⟩
       | exact⟨_,va,vc,rfl,Lib.hid (hST (hST (has_bigin ((hAL ((HR.out.ord 1 []).step (by (repeat first|exact Fr.refl _ _|assumption|apply Fr.n|apply Fr.d|apply Fr.a|refine Fr.s ?_ (.inr (by simp;try omega)) _))) #[.bool false,.slice none 0 0] 27).step (by (repeat first|exact Fr.refl _ _|assumption|apply Fr.n|apply Fr.d|apply Fr.a|refine Fr.s ?_ (.inr (by simp;try omega)) _))) hfA HBA.out).swap 0 (.bool false)) 1 (.slice va (zd (U:Int)).length vc)).swap⟩
    case rest =>
     obtain⟨vb,va,vc,rfl,HCU⟩:=hcut
     clear HR HADD s0 s1 sl t0 t1 tl ns0 nt0
     have h4:=HCU.out
     have hbx:=(h4.ord 8 [1]).blk
     have v0:_=some (Value.bool false):=hEC hbx 0
     have v1:_=some (Value.slice va (zd (U:Int)).length vc):=hEC hbx 1
     have vz0:=hEF hbx 0
     have vz1:=hEF hbx 1
     have vl:=lBk hbx
     have hba:=(h4.ord 8 [7]).blk
     have a8:_=some (Value.bool oka):=hEC hba 8
     have aa0:_=some (Value.bool false):=hEC hba 2
     have aa1:_=some (Value.slice a1.2.1 (zd (a1.1:Int)).length a1.2.2):=hEC hba 3
     have al:=lBk hba
     clear hbx hba h4
     have HT:=Lib.hid ((pool_add (HCU.out.ord 9 [0,8,1,2,3,4,5,6,7])).ord 8 [1,2,3,4,5,6,7,0])
     cases oka with
     | false =>
      have hb:=(HCU.out.ord 8 [2]).blk
      have o0:_=some (Value.bool false):=hEC hb 2
      have o1:_=some (Value.slice y1.2.1 (zd (y1.1:Int)).length y1.2.2):=hEC hb 3
      have oz0:=hEF hb 2
      have oz1:=hEF hb 3
      have ol:=lBk hb
      clear hb
      go_wp2
      (refine wRT (by kernel_rfl) (by kernel_rfl) ?_)
      go_wp2
      refine Strict.intro rfl ?_
      go_wp2
      go_roundw
      case rel =>
       have h9:=(hST (hST HT.out.swap 2 (.bool false)) 3 (.slice va (zd (U:Int)).length vc)).ord 2 [0]
       exact⟨2,rfl,(.inr (.inr (.inl ⟨rfl,y0,(U,va,vc),y2,y3,(U,va,vc)::L',h9.step (by (repeat first|exact Fr.refl _ _|assumption|apply Fr.n|apply Fr.d|apply Fr.a|refine Fr.s ?_ (.inr (by simp;try omega)) _)),fun x hx=>by simp [HML.out x hx],by have h:=HYN.out;simp only [InL] at h ⊢;simp [h],(by have h:=HC.out.1;simpa using h),(by have:=HU.out;simp [jg];omega),(by have h:=HC.out.2.2.1;simpa using h),(by have h:=HC.out.2.2.2;simpa using h)⟩)))⟩
      case measure=>simp [intOf]
     | true =>
      obtain⟨cp,hcp⟩:∃ cp,decide (cmpI (a1.1:Int) (U:Int)<0)=cp:=⟨_,rfl⟩
      have HCP:=Lib.hid (hcp▸(cmp_lt9 a1.1 U).symm:decide (a1.1<U)=cp)
      go_wp2
      (refine wRT (by kernel_rfl) (by kernel_rfl) ?_)
      go_wp2_with fail
      refine (RCompare_z (in_z' (pool_in (e:=a1) (HCU.out.step (by (repeat first|exact Fr.refl _ _|assumption|apply Fr.n|apply Fr.d|apply Fr.a|refine Fr.s ?_ (.inr (by simp;try omega)) _))) (by simp [JL]) (HML.out _ HIN.out.1.2.1))) (in_z (big_mem9 (a:=va) (c:=vc) (neg:=false) (HCU.out.step (by (repeat first|exact Fr.refl _ _|assumption|apply Fr.n|apply Fr.d|apply Fr.a|refine Fr.s ?_ (.inr (by simp;try omega)) _))) (by simp))) (HM.out _ (by have:=HB.out.1.2.1;(try simp only at this);omega)) (HM.out _ HUM.out)).mono ?_
      rintro e w7 ⟨rfl,hf7⟩
      have h7:=HT.out.step (Fr.trans0 (by (repeat first|exact Fr.refl _ _|assumption|apply Fr.n|apply Fr.d|apply Fr.a|refine Fr.s ?_ (.inr (by simp;try omega)) _)) hf7)
      have H7:=Lib.hid h7
      clear v0 v1 vz0 vz1 vl a8 aa0 aa1 al HT hf7
      have hbx:=(h7.ord 8 [0]).blk
      have v0:_=some (Value.bool false):=hEC hbx 0
      have v1:_=some (Value.slice va (zd (U:Int)).length vc):=hEC hbx 1
      have vz0:=hEF hbx 0
      have vz1:=hEF hbx 1
      have vl:=lBk hbx
      have hba:=(h7.ord 8 [6]).blk
      have aa0:_=some (Value.bool false):=hEC hba 2
      have aa1:_=some (Value.slice a1.2.1 (zd (a1.1:Int)).length a1.2.2):=hEC hba 3
      have al:=lBk hba
      have hb:=(h7.ord 8 [1]).blk
      have o0:_=some (Value.bool false):=hEC hb 2
      have o1:_=some (Value.slice y1.2.1 (zd (y1.1:Int)).length y1.2.2):=hEC hb 3
      have oz0:=hEF hb 2
      have oz1:=hEF hb 3
      have ol:=lBk hb
      clear hb
      have hne:p6≠vb:=(h7.ord 2 [1,0]).blk_ne
      clear hbx hba h7
      cases cp with
      | true =>
       go_wp2
       refine Strict.intro rfl ?_
       go_wp2
       go_roundw
       case rel =>
        have h8:=hST (hST H7.out 0 (.bool false)) 1 (.slice a1.2.1 (zd (a1.1:Int)).length a1.2.2)
        have h9:=(hST (hST h8.swap 2 (.bool false)) 3 (.slice a1.2.1 (zd (a1.1:Int)).length a1.2.2)).ord 2 [0]
        exact⟨2,rfl,(.inr (.inr (.inl ⟨rfl,y0,a1,y2,y3,(U,va,vc)::L',h9.step (by (repeat first|exact Fr.refl _ _|assumption|apply Fr.n|apply Fr.d|apply Fr.a|refine Fr.s ?_ (.inr (by simp;try omega)) _)),fun x hx=>by simp [HML.out x hx],by have h:=HYN.out;have h2:=HML.out _ HIN.out.1.2.1;simp only [InL] at h h2 ⊢;simp [h,h2],(by have h:=HC.out.1;simpa using h),(by have h1:=HU.out;have h2:=HCP.out;simp [jg] at h2 ⊢;omega),(by have h:=HC.out.2.2.1;simpa using h),(by have h:=HC.out.2.2.2;simpa using h)⟩)))⟩
       case measure=>simp [intOf]
      | false =>
       go_wp2
       refine Strict.intro rfl ?_
       go_wp2
       go_roundw
       case rel =>
        have h9:=(hST (hST H7.out.swap 2 (.bool false)) 3 (.slice va (zd (U:Int)).length vc)).ord 2 [0]
        exact⟨2,rfl,(.inr (.inr (.inl ⟨rfl,y0,(U,va,vc),y2,y3,(U,va,vc)::L',h9.step (by (repeat first|exact Fr.refl _ _|assumption|apply Fr.n|apply Fr.d|apply Fr.a|refine Fr.s ?_ (.inr (by simp;try omega)) _)),fun x hx=>by simp [HML.out x hx],by have h:=HYN.out;simp only [InL] at h ⊢;simp [h],(by have h:=HC.out.1;simpa using h),(by have h1:=HU.out;have h2:=HCP.out;simp [jg] at h2 ⊢;omega),(by have h:=HC.out.2.2.1;simpa using h),(by have h:=HC.out.2.2.2;simpa using h)⟩)))⟩
       case measure=>simp [intOf]
   ·
    obtain⟨y0,y1,y2,y3,L',h,hm,hin,c0,c1,c2,c3⟩:=hz
    have hb:=(h.ord 8 [4]).blk
    have b0c:_=some (Value.bool false):=hEC hb 4
    have b1c:_=some (Value.slice b2.2.1 (zd (b2.1:Int)).length b2.2.2):=hEC hb 5
    have bl:=lBk hb
    clear hb
    have hb:=(h.ord 8 [3]).blk
    have x0c:_=some (Value.bool false):=hEC hb 0
    have x1c:_=some (Value.slice X.2.1 (zd (X.1:Int)).length X.2.2):=hEC hb 1
    have xlc:=lBk hb
    clear hb
    have hb:=(h.ord 8 [2]).blk
    have y0c:_=some (Value.bool false):=hEC hb 0
    have y1c:_=some (Value.slice Y.2.1 (zd (Y.1:Int)).length Y.2.2):=hEC hb 1
    have ylc:=lBk hb
    clear hb
    have H:=Lib.hid (show Has W wr (JL (oka,a0,a1,a2,a3) (true,b0,b1,b2,b3) X Y p6 p5 p4 p3 p2 p1 y0 y1 y2 y3 L' Ps) from h)
    have HML:=Lib.hid hm
    have HYN:=Lib.hid hin
    have HC:=Lib.hid (And.intro c0 (And.intro c1 (And.intro c2 c3)))
    clear h hm hin c0 c1 c2 c3
    go_upto_region 10 with fail
    refine aBW (fun w'=>Has W w' (bxR wr.heap.size X::JL (oka,a0,a1,a2,a3) (true,b0,b1,b2,b3) X Y p6 p5 p4 p3 p2 p1 y0 y1 y2 y3 L' Ps)) (hAL H.out _ _) ?_
    intro w3 h3
    obtain⟨db,hdb⟩:∃ x,wr.heap.size=x:=⟨_,rfl⟩
    rw [hdb] at h3 ⊢
    clear b0c b1c bl x0c x1c xlc y0c y1c ylc H hdb
    have hb:=(h3.ord 8 [5]).blk
    have s0:_=some (Value.bool false):=hEC hb 4
    have s1:_=some (Value.slice b2.2.1 (zd (b2.1:Int)).length b2.2.2):=hEC hb 5
    have sl:=lBk hb
    clear hb
    have hb:=(h3.ord 8 [0]).blk
    have t0:_=some (Value.bool false):=hEC hb 0
    have t1:_=some (Value.slice X.2.1 (zd (X.1:Int)).length X.2.2):=hEC hb 1
    have tl:=lBk hb
    clear hb
    have ns0:=World.new_ne w3 _ s0
    have nt0:=World.new_ne w3 _ t0
    obtain⟨U,hU⟩:∃ U,b2.1+X.1=U:=⟨_,rfl⟩
    have HU:=Lib.hid hU
    have HUM:=Lib.hid (show U<M from by have:=HB.out.2.2.2.1;(try simp only at this);omega)
    have HADD:=Lib.hid (fun w1 (hf:Fr [] w3 w1)=>radd_b (x:=b2) (d:=X) (pool_in (h3.step hf) (by simp [JL]) (HML.out _ HIN.out.2.1.2.2.1)) (pool_in (h3.step hf) (by simp [JL]) (HML.out _ HIN.out.2.2.1)) hU (HM.out _ (by have:=HUM.out;omega)) (HM.out _ (by have:=HUM.out;omega)) (HM.out _ HUM.out))
    have HR:=Lib.hid h3
    clear hU h3
    go_cut [12] (fun s12 wx=>∃ (vb:Nat) (va:Option Addr) (vc:Nat),s12=.pointer (some ⟨vb,0,none⟩)∧Hid (Has W wx (bigR false (zd (U:Int)) va vc::bxR vb (U,va,vc)::JL (oka,a0,a1,a2,a3) (true,b0,b1,b2,b3) X Y p6 p5 p4 p3 p2 p1 y0 y1 y2 y3 L' Ps)))
    case first =>
     go_region_held3 (fun w'=>w'.cell? ⟨p2,4,none⟩=some (.bool false)∧w'.cell? ⟨p2,5,none⟩=some (.slice b2.2.1 (zd (b2.1:Int)).length b2.2.2)∧w'.cell? ⟨db,0,none⟩=some (.bool false)∧w'.cell? ⟨db,1,none⟩=some (.slice X.2.1 (zd (X.1:Int)).length X.2.2)) (first|go_keep|exact⟨kA0,kA1,kA2,kA3⟩)
      ((go_at_call 89;refine (HADD.out _ ?_).mono ?_;(· (repeat first|exact Fr.refl _ _|assumption|apply Fr.n|apply Fr.d|apply Fr.a|refine Fr.s ?_ (.inl (by simp)) _));rintro e wA ⟨va,vc,rfl,hbA,hfA⟩;have HBA:=Lib.hid hbA;clear hbA;have hrA:Fr [] w3 wA:=Fr.trans0 (by (repeat first|exact Fr.refl _ _|assumption|apply Fr.n|apply Fr.d|apply Fr.a|refine Fr.s ?_ (.inl (by simp)) _)) hfA;have kA0:=(hrA.cell (p:=⟨p2,4,none⟩) sl (by simp)).trans s0;have kA1:=(hrA.cell (p:=⟨p2,5,none⟩) sl (by simp)).trans s1;have kA2:=(hrA.cell (p:=⟨db,0,none⟩) tl (by simp)).trans t0;have kA3:=(hrA.cell (p:=⟨db,1,none⟩) tl (by simp)).trans t1;have nA0:=World.new_ne wA _ kA0;obtain⟨cA,zA⟩:=frcell hfA;(try (have sA:w3.heap.size<wA.heap.size:=by have h:=hfA.size;(try simp at h);omega))))
     all_goals
      go_wp2_with fail
      go_meet
      first
       | exact⟨_,va,vc,rfl,Lib.hid (hAL (has_bigin ((HR.out.ord 1 []).step (by (repeat first|exact Fr.refl _ _|assumption|apply Fr.n|apply Fr.d|apply Fr.a|refine Fr.s ?_ (.inr (by simp;try omega)) _))) hfA HBA.out) #[.bool false,.slice va (zd (U:Int)).length vc] 27).swap⟩
       | exact⟨_,va,vc,rfl,Lib.hid (hST (hST (has_bigin ((hAL (HR.out.ord 1 []) #[.bool false,.slice none 0 0] 27).step (by (repeat first|exact Fr.refl _ _|assumption|apply Fr.n|apply Fr.d|apply Fr.a|refine Fr.s ?_ (.inr (by simp;try omega)) _))) hfA HBA.out).swap 0 (.bool false)) 1 (.slice va (zd (U:Int)).length vc)).swap⟩
       | exact⟨_,va,vc,rfl,Lib.hid (hST (hST (has_bigin ((hAL ((HR.out.ord 1 []).step (by (repeat first|exact Fr.refl _ _|assumption|apply Fr.n|apply Fr.d|apply Fr.a|refine Fr.s ?_ (.inr (by simp;try omega)) _))) #[.bool false,.slice none 0 0] 27).step (by (repeat first|exact Fr.refl _ _|assumption|apply Fr.n|apply Fr.d|apply Fr.a|refine Fr.s ?_ (.inr (by simp;try omega)) _))) hfA HBA.out).swap 0 (.bool false)) 1 (.slice va (zd (U:Int)).length vc)).swap⟩
    case rest =>
     obtain⟨vb,va,vc,rfl,HCU⟩:=hcut
     clear HR HADD s0 s1 sl t0 t1 tl ns0 nt0
     have h4:=HCU.out
     have hbx:=(h4.ord 8 [1]).blk
     have v0:_=some (Value.bool false):=hEC hbx 0
     have v1:_=some (Value.slice va (zd (U:Int)).length vc):=hEC hbx 1
     have vz0:=hEF hbx 0
     have vz1:=hEF hbx 1
     have vl:=lBk hbx
     have hba:=(h4.ord 8 [7]).blk
     have a8:_=some (Value.bool oka):=hEC hba 8
     have aa0:_=some (Value.bool false):=hEC hba 4
     have aa1:_=some (Value.slice a2.2.1 (zd (a2.1:Int)).length a2.2.2):=hEC hba 5
     have al:=lBk hba
     clear hbx hba h4
     have HT:=Lib.hid ((pool_add (HCU.out.ord 9 [0,8,1,2,3,4,5,6,7])).ord 8 [1,2,3,4,5,6,7,0])
     cases oka with
     | false =>
      have hb:=(HCU.out.ord 8 [2]).blk
      have o0:_=some (Value.bool false):=hEC hb 4
      have o1:_=some (Value.slice y2.2.1 (zd (y2.1:Int)).length y2.2.2):=hEC hb 5
      have oz0:=hEF hb 4
      have oz1:=hEF hb 5
      have ol:=lBk hb
      clear hb
      go_wp2
      (refine wRT (by kernel_rfl) (by kernel_rfl) ?_)
      go_wp2
      refine Strict.intro rfl ?_
      go_wp2
      go_roundw
      case rel =>
       have h9:=(hST (hST HT.out.swap 4 (.bool false)) 5 (.slice va (zd (U:Int)).length vc)).ord 2 [0]
       exact⟨3,rfl,(.inr (.inr (.inr (.inl ⟨rfl,y0,y1,(U,va,vc),y3,(U,va,vc)::L',h9.step (by (repeat first|exact Fr.refl _ _|assumption|apply Fr.n|apply Fr.d|apply Fr.a|refine Fr.s ?_ (.inr (by simp;try omega)) _)),fun x hx=>by simp [HML.out x hx],by have h:=HYN.out;simp only [InL] at h ⊢;simp [h],(by have h:=HC.out.1;simpa using h),(by have h:=HC.out.2.1;simpa using h),(by have:=HU.out;simp [jg];omega),(by have h:=HC.out.2.2.2;simpa using h)⟩))))⟩
      case measure=>simp [intOf]
     | true =>
      obtain⟨cp,hcp⟩:∃ cp,decide (cmpI (a2.1:Int) (U:Int)<0)=cp:=⟨_,rfl⟩
      have HCP:=Lib.hid (hcp▸(cmp_lt9 a2.1 U).symm:decide (a2.1<U)=cp)
      go_wp2
      (refine wRT (by kernel_rfl) (by kernel_rfl) ?_)
      go_wp2_with fail
      refine (RCompare_z (in_z' (pool_in (e:=a2) (HCU.out.step (by (repeat first|exact Fr.refl _ _|assumption|apply Fr.n|apply Fr.d|apply Fr.a|refine Fr.s ?_ (.inr (by simp;try omega)) _))) (by simp [JL]) (HML.out _ HIN.out.1.2.2.1))) (in_z (big_mem9 (a:=va) (c:=vc) (neg:=false) (HCU.out.step (by (repeat first|exact Fr.refl _ _|assumption|apply Fr.n|apply Fr.d|apply Fr.a|refine Fr.s ?_ (.inr (by simp;try omega)) _))) (by simp))) (HM.out _ (by have:=HB.out.1.2.2.1;(try simp only at this);omega)) (HM.out _ HUM.out)).mono ?_
      rintro e w7 ⟨rfl,hf7⟩
      have h7:=HT.out.step (Fr.trans0 (by (repeat first|exact Fr.refl _ _|assumption|apply Fr.n|apply Fr.d|apply Fr.a|refine Fr.s ?_ (.inr (by simp;try omega)) _)) hf7)
      have H7:=Lib.hid h7
      clear v0 v1 vz0 vz1 vl a8 aa0 aa1 al HT hf7
      have hbx:=(h7.ord 8 [0]).blk
      have v0:_=some (Value.bool false):=hEC hbx 0
      have v1:_=some (Value.slice va (zd (U:Int)).length vc):=hEC hbx 1
      have vz0:=hEF hbx 0
      have vz1:=hEF hbx 1
      have vl:=lBk hbx
      have hba:=(h7.ord 8 [6]).blk
      have aa0:_=some (Value.bool false):=hEC hba 4
      have aa1:_=some (Value.slice a2.2.1 (zd (a2.1:Int)).length a2.2.2):=hEC hba 5
      have al:=lBk hba
      have hb:=(h7.ord 8 [1]).blk
      have o0:_=some (Value.bool false):=hEC hb 4
      have o1:_=some (Value.slice y2.2.1 (zd (y2.1:Int)).length y2.2.2):=hEC hb 5
      have oz0:=hEF hb 4
      have oz1:=hEF hb 5
      have ol:=lBk hb
      clear hb
      have hne:p6≠vb:=(h7.ord 2 [1,0]).blk_ne
      clear hbx hba h7
      cases cp with
      | false =>
       go_wp2
       refine Strict.intro rfl ?_
       go_wp2
       go_roundw
       case rel =>
        have h8:=hST (hST H7.out 0 (.bool false)) 1 (.slice a2.2.1 (zd (a2.1:Int)).length a2.2.2)
        have h9:=(hST (hST h8.swap 4 (.bool false)) 5 (.slice a2.2.1 (zd (a2.1:Int)).length a2.2.2)).ord 2 [0]
        exact⟨3,rfl,(.inr (.inr (.inr (.inl ⟨rfl,y0,y1,a2,y3,(U,va,vc)::L',h9.step (by (repeat first|exact Fr.refl _ _|assumption|apply Fr.n|apply Fr.d|apply Fr.a|refine Fr.s ?_ (.inr (by simp;try omega)) _)),fun x hx=>by simp [HML.out x hx],by have h:=HYN.out;have h2:=HML.out _ HIN.out.1.2.2.1;simp only [InL] at h h2 ⊢;simp [h,h2],(by have h:=HC.out.1;simpa using h),(by have h:=HC.out.2.1;simpa using h),(by have h1:=HU.out;have h2:=HCP.out;simp [jg] at h2 ⊢;omega),(by have h:=HC.out.2.2.2;simpa using h)⟩))))⟩
       case measure=>simp [intOf]
      | true =>
       go_wp2
       refine Strict.intro rfl ?_
       go_wp2
       go_roundw
       case rel =>
        have h9:=(hST (hST H7.out.swap 4 (.bool false)) 5 (.slice va (zd (U:Int)).length vc)).ord 2 [0]
        exact⟨3,rfl,(.inr (.inr (.inr (.inl ⟨rfl,y0,y1,(U,va,vc),y3,(U,va,vc)::L',h9.step (by (repeat first|exact Fr.refl _ _|assumption|apply Fr.n|apply Fr.d|apply Fr.a|refine Fr.s ?_ (.inr (by simp;try omega)) _)),fun x hx=>by simp [HML.out x hx],by have h:=HYN.out;simp only [InL] at h ⊢;simp [h],(by have h:=HC.out.1;simpa using h),(by have h:=HC.out.2.1;simpa using h),(by have h1:=HU.out;have h2:=HCP.out;simp [jg] at h2 ⊢;omega),(by have h:=HC.out.2.2.2;simpa using h)⟩))))⟩
       case measure=>simp [intOf]
   ·
    obtain⟨y0,y1,y2,y3,L',h,hm,hin,c0,c1,c2,c3⟩:=hz
    have hb:=(h.ord 8 [4]).blk
    have b0c:_=some (Value.bool false):=hEC hb 6
    have b1c:_=some (Value.slice b3.2.1 (zd (b3.1:Int)).length b3.2.2):=hEC hb 7
    have bl:=lBk hb
    clear hb
    have hb:=(h.ord 8 [3]).blk
    have x0c:_=some (Value.bool false):=hEC hb 0
    have x1c:_=some (Value.slice X.2.1 (zd (X.1:Int)).length X.2.2):=hEC hb 1
    have xlc:=lBk hb
    clear hb
    have hb:=(h.ord 8 [2]).blk
    have y0c:_=some (Value.bool false):=hEC hb 0
    have y1c:_=some (Value.slice Y.2.1 (zd (Y.1:Int)).length Y.2.2):=hEC hb 1
    have ylc:=lBk hb
    clear hb
    have H:=Lib.hid (show Has W wr (JL (oka,a0,a1,a2,a3) (true,b0,b1,b2,b3) X Y p6 p5 p4 p3 p2 p1 y0 y1 y2 y3 L' Ps) from h)
    have HML:=Lib.hid hm
    have HYN:=Lib.hid hin
    have HC:=Lib.hid (And.intro c0 (And.intro c1 (And.intro c2 c3)))
    clear h hm hin c0 c1 c2 c3
    go_upto_region 10 with fail
    refine aBW (fun w'=>Has W w' (bxR wr.heap.size Y::JL (oka,a0,a1,a2,a3) (true,b0,b1,b2,b3) X Y p6 p5 p4 p3 p2 p1 y0 y1 y2 y3 L' Ps)) (hAL H.out _ _) ?_
    intro w3 h3
    obtain⟨db,hdb⟩:∃ x,wr.heap.size=x:=⟨_,rfl⟩
    rw [hdb] at h3 ⊢
    clear b0c b1c bl x0c x1c xlc y0c y1c ylc H hdb
    have hb:=(h3.ord 8 [5]).blk
    have s0:_=some (Value.bool false):=hEC hb 6
    have s1:_=some (Value.slice b3.2.1 (zd (b3.1:Int)).length b3.2.2):=hEC hb 7
    have sl:=lBk hb
    clear hb
    have hb:=(h3.ord 8 [0]).blk
    have t0:_=some (Value.bool false):=hEC hb 0
    have t1:_=some (Value.slice Y.2.1 (zd (Y.1:Int)).length Y.2.2):=hEC hb 1
    have tl:=lBk hb
    clear hb
    have ns0:=World.new_ne w3 _ s0
    have nt0:=World.new_ne w3 _ t0
    obtain⟨U,hU⟩:∃ U,b3.1+Y.1=U:=⟨_,rfl⟩
    have HU:=Lib.hid hU
    have HUM:=Lib.hid (show U<M from by have:=HB.out.2.2.2.2;(try simp only at this);omega)
    have HADD:=Lib.hid (fun w1 (hf:Fr [] w3 w1)=>radd_b (x:=b3) (d:=Y) (pool_in (h3.step hf) (by simp [JL]) (HML.out _ HIN.out.2.1.2.2.2)) (pool_in (h3.step hf) (by simp [JL]) (HML.out _ HIN.out.2.2.2)) hU (HM.out _ (by have:=HUM.out;omega)) (HM.out _ (by have:=HUM.out;omega)) (HM.out _ HUM.out))
    have HR:=Lib.hid h3
    clear hU h3
    go_cut [12] (fun s12 wx=>∃ (vb:Nat) (va:Option Addr) (vc:Nat),s12=.pointer (some ⟨vb,0,none⟩)∧Hid (Has W wx (bigR false (zd (U:Int)) va vc::bxR vb (U,va,vc)::JL (oka,a0,a1,a2,a3) (true,b0,b1,b2,b3) X Y p6 p5 p4 p3 p2 p1 y0 y1 y2 y3 L' Ps)))
    case first =>
     go_region_held3 (fun w'=>w'.cell? ⟨p2,6,none⟩=some (.bool false)∧w'.cell? ⟨p2,7,none⟩=some (.slice b3.2.1 (zd (b3.1:Int)).length b3.2.2)∧w'.cell? ⟨db,0,none⟩=some (.bool false)∧w'.cell? ⟨db,1,none⟩=some (.slice Y.2.1 (zd (Y.1:Int)).length Y.2.2)) (first|go_keep|exact⟨kA0,kA1,kA2,kA3⟩)
      ((go_at_call 89;refine (HADD.out _ ?_).mono ?_;(· (repeat first|exact Fr.refl _ _|assumption|apply Fr.n|apply Fr.d|apply Fr.a|refine Fr.s ?_ (.inl (by simp)) _));rintro e wA ⟨va,vc,rfl,hbA,hfA⟩;have HBA:=Lib.hid hbA;clear hbA;have hrA:Fr [] w3 wA:=Fr.trans0 (by (repeat first|exact Fr.refl _ _|assumption|apply Fr.n|apply Fr.d|apply Fr.a|refine Fr.s ?_ (.inl (by simp)) _)) hfA;have kA0:=(hrA.cell (p:=⟨p2,6,none⟩) sl (by simp)).trans s0;have kA1:=(hrA.cell (p:=⟨p2,7,none⟩) sl (by simp)).trans s1;have kA2:=(hrA.cell (p:=⟨db,0,none⟩) tl (by simp)).trans t0;have kA3:=(hrA.cell (p:=⟨db,1,none⟩) tl (by simp)).trans t1;have nA0:=World.new_ne wA _ kA0;obtain⟨cA,zA⟩:=frcell hfA;(try (have sA:w3.heap.size<wA.heap.size:=by have h:=hfA.size;(try simp at h);omega))))
     all_goals
      go_wp2_with fail
      go_meet
      first
       | exact⟨_,va,vc,rfl,Lib.hid (hAL (has_bigin ((HR.out.ord 1 []).step (by (repeat first|exact Fr.refl _ _|assumption|apply Fr.n|apply Fr.d|apply Fr.a|refine Fr.s ?_ (.inr (by simp;try omega)) _))) hfA HBA.out) #[.bool false,.slice va (zd (U:Int)).length vc] 27).swap⟩
       | exact⟨_,va,vc,rfl,Lib.hid (hST (hST (has_bigin ((hAL (HR.out.ord 1 []) #[.bool false,.slice none 0 0] 27).step (by (repeat first|exact Fr.refl _ _|assumption|apply Fr.n|apply Fr.d|apply Fr.a|refine Fr.s ?_ (.inr (by simp;try omega)) _))) hfA HBA.out).swap 0 (.bool false)) 1 (.slice va (zd (U:Int)).length vc)).swap⟩
       | exact⟨_,va,vc,rfl,Lib.hid (hST (hST (has_bigin ((hAL ((HR.out.ord 1 []).step (by (repeat first|exact Fr.refl _ _|assumption|apply Fr.n|apply Fr.d|apply Fr.a|refine Fr.s ?_ (.inr (by simp;try omega)) _))) #[.bool false,.slice none 0 0] 27).step (by (repeat first|exact Fr.refl _ _|assumption|apply Fr.n|apply Fr.d|apply Fr.a|refine Fr.s ?_ (.inr (by simp;try omega)) _))) hfA HBA.out).swap 0 (.bool false)) 1 (.slice va (zd (U:Int)).length vc)).swap⟩
    case rest =>
     obtain⟨vb,va,vc,rfl,HCU⟩:=hcut
     clear HR HADD s0 s1 sl t0 t1 tl ns0 nt0
     have h4:=HCU.out
     have hbx:=(h4.ord 8 [1]).blk
     have v0:_=some (Value.bool false):=hEC hbx 0
     have v1:_=some (Value.slice va (zd (U:Int)).length vc):=hEC hbx 1
     have vz0:=hEF hbx 0
     have vz1:=hEF hbx 1
     have vl:=lBk hbx
     have hba:=(h4.ord 8 [7]).blk
     have a8:_=some (Value.bool oka):=hEC hba 8
     have aa0:_=some (Value.bool false):=hEC hba 6
     have aa1:_=some (Value.slice a3.2.1 (zd (a3.1:Int)).length a3.2.2):=hEC hba 7
     have al:=lBk hba
     clear hbx hba h4
     have HT:=Lib.hid ((pool_add (HCU.out.ord 9 [0,8,1,2,3,4,5,6,7])).ord 8 [1,2,3,4,5,6,7,0])
     cases oka with
     | false =>
      have hb:=(HCU.out.ord 8 [2]).blk
      have o0:_=some (Value.bool false):=hEC hb 6
      have o1:_=some (Value.slice y3.2.1 (zd (y3.1:Int)).length y3.2.2):=hEC hb 7
      have oz0:=hEF hb 6
      have oz1:=hEF hb 7
      have ol:=lBk hb
      clear hb
      go_wp2
      (refine wRT (by kernel_rfl) (by kernel_rfl) ?_)
      go_wp2
      refine Strict.intro rfl ?_
      go_wp2
      go_roundw
      case rel =>
       have h9:=(hST (hST HT.out.swap 6 (.bool false)) 7 (.slice va (zd (U:Int)).length vc)).ord 2 [0]
       exact⟨4,rfl,(.inr (.inr (.inr (.inr ⟨rfl,y0,y1,y2,(U,va,vc),(U,va,vc)::L',h9.step (by (repeat first|exact Fr.refl _ _|assumption|apply Fr.n|apply Fr.d|apply Fr.a|refine Fr.s ?_ (.inr (by simp;try omega)) _)),fun x hx=>by simp [HML.out x hx],by have h:=HYN.out;simp only [InL] at h ⊢;simp [h],(by have h:=HC.out.1;simpa using h),(by have h:=HC.out.2.1;simpa using h),(by have h:=HC.out.2.2.1;simpa using h),(by have:=HU.out;simp [jg];omega)⟩))))⟩
      case measure=>simp [intOf]
     | true =>
      obtain⟨cp,hcp⟩:∃ cp,decide (cmpI (a3.1:Int) (U:Int)<0)=cp:=⟨_,rfl⟩
      have HCP:=Lib.hid (hcp▸(cmp_lt9 a3.1 U).symm:decide (a3.1<U)=cp)
      go_wp2
      (refine wRT (by kernel_rfl) (by kernel_rfl) ?_)
      go_wp2_with fail
      refine (RCompare_z (in_z' (pool_in (e:=a3) (HCU.out.step (by (repeat first|exact Fr.refl _ _|assumption|apply Fr.n|apply Fr.d|apply Fr.a|refine Fr.s ?_ (.inr (by simp;try omega)) _))) (by simp [JL]) (HML.out _ HIN.out.1.2.2.2))) (in_z (big_mem9 (a:=va) (c:=vc) (neg:=false) (HCU.out.step (by (repeat first|exact Fr.refl _ _|assumption|apply Fr.n|apply Fr.d|apply Fr.a|refine Fr.s ?_ (.inr (by simp;try omega)) _))) (by simp))) (HM.out _ (by have:=HB.out.1.2.2.2;(try simp only at this);omega)) (HM.out _ HUM.out)).mono ?_
      rintro e w7 ⟨rfl,hf7⟩
      have h7:=HT.out.step (Fr.trans0 (by (repeat first|exact Fr.refl _ _|assumption|apply Fr.n|apply Fr.d|apply Fr.a|refine Fr.s ?_ (.inr (by simp;try omega)) _)) hf7)
      have H7:=Lib.hid h7
      clear v0 v1 vz0 vz1 vl a8 aa0 aa1 al HT hf7
      have hbx:=(h7.ord 8 [0]).blk
      have v0:_=some (Value.bool false):=hEC hbx 0
      have v1:_=some (Value.slice va (zd (U:Int)).length vc):=hEC hbx 1
      have vz0:=hEF hbx 0
      have vz1:=hEF hbx 1
      have vl:=lBk hbx
      have hba:=(h7.ord 8 [6]).blk
      have aa0:_=some (Value.bool false):=hEC hba 6
      have aa1:_=some (Value.slice a3.2.1 (zd (a3.1:Int)).length a3.2.2):=hEC hba 7
      have al:=lBk hba
      have hb:=(h7.ord 8 [1]).blk
      have o0:_=some (Value.bool false):=hEC hb 6
      have o1:_=some (Value.slice y3.2.1 (zd (y3.1:Int)).length y3.2.2):=hEC hb 7
      have oz0:=hEF hb 6
      have oz1:=hEF hb 7
      have ol:=lBk hb
      clear hb
      have hne:p6≠vb:=(h7.ord 2 [1,0]).blk_ne
      clear hbx hba h7
      cases cp with
      | false =>
       go_wp2
       refine Strict.intro rfl ?_
       go_wp2
       go_roundw
       case rel =>
        have h8:=hST (hST H7.out 0 (.bool false)) 1 (.slice a3.2.1 (zd (a3.1:Int)).length a3.2.2)
        have h9:=(hST (hST h8.swap 6 (.bool false)) 7 (.slice a3.2.1 (zd (a3.1:Int)).length a3.2.2)).ord 2 [0]
        exact⟨4,rfl,(.inr (.inr (.inr (.inr ⟨rfl,y0,y1,y2,a3,(U,va,vc)::L',h9.step (by (repeat first|exact Fr.refl _ _|assumption|apply Fr.n|apply Fr.d|apply Fr.a|refine Fr.s ?_ (.inr (by simp;try omega)) _)),fun x hx=>by simp [HML.out x hx],by have h:=HYN.out;have h2:=HML.out _ HIN.out.1.2.2.2;simp only [InL] at h h2 ⊢;simp [h,h2],(by have h:=HC.out.1;simpa using h),(by have h:=HC.out.2.1;simpa using h),(by have h:=HC.out.2.2.1;simpa using h),(by have h1:=HU.out;have h2:=HCP.out;simp [jg] at h2 ⊢;omega)⟩))))⟩
       case measure=>simp [intOf]
      | true =>
       go_wp2
       refine Strict.intro rfl ?_
       go_wp2
       go_roundw
       case rel =>
        have h9:=(hST (hST H7.out.swap 6 (.bool false)) 7 (.slice va (zd (U:Int)).length vc)).ord 2 [0]
        exact⟨4,rfl,(.inr (.inr (.inr (.inr ⟨rfl,y0,y1,y2,(U,va,vc),(U,va,vc)::L',h9.step (by (repeat first|exact Fr.refl _ _|assumption|apply Fr.n|apply Fr.d|apply Fr.a|refine Fr.s ?_ (.inr (by simp;try omega)) _)),fun x hx=>by simp [HML.out x hx],by have h:=HYN.out;simp only [InL] at h ⊢;simp [h],(by have h:=HC.out.1;simpa using h),(by have h:=HC.out.2.1;simpa using h),(by have h:=HC.out.2.2.1;simpa using h),(by have h1:=HU.out;have h2:=HCP.out;simp [jg] at h2 ⊢;omega)⟩))))⟩
       case measure=>simp [intOf]
   ·obtain⟨y0,y1,y2,y3,L',h,hm,hin,c0,c1,c2,c3⟩:=hz
    simp only [show (0:Nat)<4 by omega,show (1:Nat)<4 by omega,show (2:Nat)<4 by omega,show (3:Nat)<4 by omega,if_true] at c0 c1 c2 c3
    have hb:=h.blk
    have o0:_=some (Value.bool false):=hEC hb 0
    have o1:_=some (Value.slice y0.2.1 (zd (y0.1:Int)).length y0.2.2):=hEC hb 1
    have o2:_=some (Value.bool false):=hEC hb 2
    have o3:_=some (Value.slice y1.2.1 (zd (y1.1:Int)).length y1.2.2):=hEC hb 3
    have o4:_=some (Value.bool false):=hEC hb 4
    have o5:_=some (Value.slice y2.2.1 (zd (y2.1:Int)).length y2.2.2):=hEC hb 5
    have o6:_=some (Value.bool false):=hEC hb 6
    have o7:_=some (Value.slice y3.2.1 (zd (y3.1:Int)).length y3.2.2):=hEC hb 7
    have o8:_=some (Value.bool true):=hEC hb 8
    have ol:=lBk hb
    have hb:=h.swap.blk
    have r0':_=some (Value.bool false):=hEC hb 0
    have rz0:=hEF hb 0
    have r1':_=some (Value.slice none (zd ((0:Nat):Int)).length 0):=hEC hb 1
    have rz1:=hEF hb 1
    have r2':_=some (Value.bool false):=hEC hb 2
    have rz2:=hEF hb 2
    have r3':_=some (Value.slice none (zd ((0:Nat):Int)).length 0):=hEC hb 3
    have rz3:=hEF hb 3
    have r4':_=some (Value.bool false):=hEC hb 4
    have rz4:=hEF hb 4
    have r5':_=some (Value.slice none (zd ((0:Nat):Int)).length 0):=hEC hb 5
    have rz5:=hEF hb 5
    have r6':_=some (Value.bool false):=hEC hb 6
    have rz6:=hEF hb 6
    have r7':_=some (Value.slice none (zd ((0:Nat):Int)).length 0):=hEC hb 7
    have rz7:=hEF hb 7
    have r8':_=some (Value.bool false):=hEC hb 8
    have rz8:=hEF hb 8
    have rl:=lBk hb
    have H:=Lib.hid h
    have HE:=Lib.hid (And.intro hm (And.intro hin (And.intro c0 (And.intro c1 (And.intro c2 c3)))))
    clear h hb hm hin c0 c1 c2 c3
    go_wp2
    refine bodyPost_ret (Rframe_result rfl (b:=p5) (f:=(true,y0,y1,y2,y3)) rfl ?_) rfl ⟨(true,y0,y1,y2,y3),L',rfl,?_,HE.out.1,?_,HE.out.2.1⟩
    ·have h2:=hST (hST (hST (hST (hST (hST (hST (hST (hST H.out.swap 0 (.bool false)) 1 (.slice y0.2.1 (zd (y0.1:Int)).length y0.2.2)) 2 (.bool false)) 3 (.slice y1.2.1 (zd (y1.1:Int)).length y1.2.2)) 4 (.bool false)) 5 (.slice y2.2.1 (zd (y2.1:Int)).length y2.2.2)) 6 (.bool false)) 7 (.slice y3.2.1 (zd (y3.1:Int)).length y3.2.2)) 8 (.bool true)
     rw [fcells_store] at h2
     exact h2.blk
    ·have h2:=hST (hST (hST (hST (hST (hST (hST (hST (hST H.out.swap 0 (.bool false)) 1 (.slice y0.2.1 (zd (y0.1:Int)).length y0.2.2)) 2 (.bool false)) 3 (.slice y1.2.1 (zd (y1.1:Int)).length y1.2.2)) 4 (.bool false)) 5 (.slice y2.2.1 (zd (y2.1:Int)).length y2.2.2)) 6 (.bool false)) 7 (.slice y3.2.1 (zd (y3.1:Int)).length y3.2.2)) 8 (.bool true)
     exact h2.ord 7 [6]
    ·have h1:=HA.out
     have h2:=HFB.out
     obtain⟨e0,e1,e2,e3⟩:=HE.out.2.2
     rw [← HJO.out,joinF_co]
     simp only [FrOk,coF] at h1 h2 ⊢
     cases oa with
     | none =>
      simp only [Option.isSome_none,Option.getD_none,Option.isSome_some,Option.getD_some] at h1 h2 ⊢
      simp only [jg,h1.1,Bool.false_eq_true,if_false] at e0 e1 e2 e3 ⊢
      refine⟨trivial,?_,?_,?_,?_⟩<;>omega
     | some x =>
      simp only [Option.getD_some,Option.isSome_some] at h1 h2 ⊢
      simp only [jg,h1.1,if_true] at e0 e1 e2 e3 ⊢
      refine⟨trivial,?_,?_,?_,?_⟩<;>omega
end Go.Proofs.YtdanghnadbkhfaaGreat
end
