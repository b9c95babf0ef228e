/- Own texts of this claim, part 12: no condition. -/
import Derived.Test.YtdanghnadbkhfaaGreatZR10
set_option linter.unusedVariables false
set_option linter.unusedSimpArgs false
section
namespace Go.Proofs.YtdanghnadbkhfaaGreat
open Go Go.RowKit Rg Mp Hp Qs Ev Bn
def getQ (s:Int) (ns:List K4) (id:Int) (nx:Bool) (dx:List Nat) (ny:Bool) (dy:List Nat):Int×Int :=
 if placeE (lvl s (levs s ns) id) nx dx ny dy≠0 then (0,placeE (lvl s (levs s ns) id) nx dx ny dy) else (lookQ s ns (lvl s (levs s ns) id).toNat id (sv nx dx).toNat (sv ny dy).toNat,0)
theorem placeE_zero {s:Int} {ns:List K4} (hg:GoodQ s ns) {id:Int} {nx ny:Bool} {dx dy:List Nat} (h:placeE (lvl s (levs s ns) id) nx dx ny dy=0) :
  ∃ n:Nat,lvl s (levs s ns) id=n∧n≤256∧Is s ns n id (tr s ns id)∧RightB nx dx=true∧RightB ny dy=true∧0≤sv nx dx∧sv nx dx<((2 ^ n:Nat):Int)∧0≤sv ny dy∧sv ny dy<((2 ^ n:Nat):Int):=by
 unfold placeE at h
 split at h
 ·omega
 rename_i h0
 obtain⟨n,hn,hn2,hi⟩:=level_nat hg (id:=id) (by omega)
 rw [hn] at h ⊢
 rw [show ((n:Nat):Int).toNat=n by omega] at h
 split at h
 ·omega
 rename_i hr
 split at h
 ·rename_i hb
  simp only [Bool.and_eq_false_imp,Bool.not_eq_true] at hr
  refine⟨n,rfl,hn2,hi,?_,?_,hb⟩
  ·cases h1:RightB nx dx<;>simp_all
  ·cases h1:RightB nx dx<;>cases h2:RightB ny dy<;>simp_all
 ·omega
theorem _root_.Go.Proofs.Qs.Is.canon {s:Int} {ns:List K4} {n:Nat} {id:Int} {t:Tr} (h:Is s ns n id t):Is s ns n id (tr s ns id):=by
 have:=h.2.1
 rw [this];exact h
set_option maxHeartbeats 8000000 in
theorem Get_q {W w:World} {b:Nat} {s:Int} {ns:List K4} {Ps:List Res} (h:Has W w (sTR b s ns::Ps)) (id:Int) {nx ny:Bool} {dx dy:List Nat} {ax ay:Option Addr} {cx cy:Nat} (hx:BigIn w nx dx ax cx) (hy:BigIn w ny dy ay cy) :
  Calls Tryz.prog 9 #[.pointer (some ⟨b,0,none⟩),.int .i64 id,.agg #[.bool nx,.slice ax dx.length cx],.agg #[.bool ny,.slice ay dy.length cy]] w fun e w' =>
   e=.returned (.tuple #[.int .i64 (getQ s ns id nx dx ny dy).1,.int .i64 (getQ s ns id nx dx ny dy).2])∧Has W w' (sTR b s ns::Ps)∧Fr [] w w':=by
 have hg:=has_good h
 have HP:=Lib.hid (fun w1 (hf:Fr [] w w1)=>place_q (h.step hf) id (hx.fr hf) (hy.fr hf))
 have H:=Lib.hid h
 unfold getQ
 obtain⟨p,hp⟩:∃ p,placeE (lvl s (levs s ns) id) nx dx ny dy=p:=⟨_,rfl⟩
 rw [hp] at HP ⊢
 by_cases h0:p=0
 case neg =>
  rw [if_pos h0]
  have hb:(p != 0)=true:=by simpa using h0
  clear hp hg h hx hy h0
  go_enter Tryz.func9,Tryz.ntmps9
  go_wp2_with fail
  refine (HP.out _ (by (repeat first|exact Fr.refl _ _|assumption|apply Fr.n|apply Fr.d|apply Fr.a|refine Fr.s ?_ (.inr (by simp;try omega)) _))).mono ?_
  rintro e w1 ⟨rfl,hs,hf⟩
  have Hs:=Lib.hid hs
  have Hf:=Lib.hid (Fr.trans0 (by (repeat first|exact Fr.refl _ _|assumption|apply Fr.n|apply Fr.d|apply Fr.a|refine Fr.s ?_ (.inr (by simp;try omega)) _)) hf:Fr [] w w1)
  clear hs hf
  go_wp2
  go_ret2
  exact⟨rfl,Hs.out,Hf.out⟩
 subst h0
 have hb:((0:Int) != 0)=false:=rfl
 rw [if_neg (by simp)]
 obtain⟨n,hn,hn2,hi,hR1,hR2,hx1,hx2,hy1,hy2⟩:=placeE_zero hg hp
 obtain⟨X,zx,hnx,hdx,bx⟩:=hx.z hR1
 obtain⟨Y,zy,hny,hdy,by'⟩:=hy.z hR2
 have hsx:sv nx dx=X:=by rw [hnx,hdx,zd_sv]
 have hsy:sv ny dy=Y:=by rw [hny,hdy,zd_sv]
 have HL:=Lib.hid (fun w1 (hf:Fr [] w w1)=>Level_has (h.step hf) id)
 rw [hn] at HL
 rw [hsx,hsy,hn,show ((n:Nat):Int).toNat=n by omega]
 rw [hsx] at hx1 hx2
 rw [hsy] at hy1 hy2
 have HBx:=Lib.hid (fun w1 (k:Nat) (hk:k<2048) (hf:Fr [] w w1)=>Bit_z (k:=k) (bx.fr0 hf) zx hx1 hk)
 have HBy:=Lib.hid (fun w1 (k:Nat) (hk:k<2048) (hf:Fr [] w w1)=>Bit_z (k:=k) (by'.fr0 hf) zy hy1 hk)
 have HKi:=Lib.hid (fun w1 (hf:Fr [] w w1) k id' t (hk:Is s ns (k+1) id' t)=>Kids_has (h.step hf) hk)
 have HQ:=Lib.hid (fun k id' t (hk:Is s ns (k+1) id' t) q (hq:q<4)=>(hk.node hg).2.2 q hq)
 obtain⟨v,hv⟩:∃ v,v=lookQ s ns n id X.toNat Y.toNat:=⟨_,rfl⟩
 rw [← hv]
 have Hv:=Lib.hid hv
 have Hi:=Lib.hid hi
 clear hp hg h hx hy hi hR1 hR2 bx by' hsx hsy zx zy hx1 hx2 hy1 hy2 hnx hny hdx hdy hn hv
 go_enter Tryz.func9,Tryz.ntmps9
 go_wp2_with fail
 refine (HP.out _ (by (repeat first|exact Fr.refl _ _|assumption|apply Fr.n|apply Fr.d|apply Fr.a|refine Fr.s ?_ (.inr (by simp;try omega)) _))).mono ?_
 rintro e w1 ⟨rfl,hs,hf⟩
 have hx_:=(hf.block (w.heap.size) (by first|(simp;done)|(simp;omega)) (by simp)).trans (show _=some (.cells #[.bool nx,.slice ax dx.length cx] 27 (0,0)) by (repeat first|rw [if_pos (by omega)]|rw [if_neg (by omega)]|rw [hDR]|rw [hDN]|rw [hAz]|rw [hSz]|rw [hAC]|rw [hSC]|rw [oMS]|rw [uPC]|rw [lSZ]|rw [lSS]|rfl))
 have x0:=hEC hx_ 0
 have x1:=hEC hx_ 1
 have xl:=lBk hx_
 have Hx:=Lib.hid hx_
 clear hx_
 have hy_:=(hf.block (w.heap.size+1) (by first|(simp;done)|(simp;omega)) (by simp)).trans (show _=some (.cells #[.bool ny,.slice ay dy.length cy] 27 (0,0)) by (repeat first|rw [if_pos (by omega)]|rw [if_neg (by omega)]|rw [hDR]|rw [hDN]|rw [hAz]|rw [hSz]|rw [hAC]|rw [hSC]|rw [oMS]|rw [uPC]|rw [lSZ]|rw [lSS]|rfl))
 have y0:=hEC hy_ 0
 have y1:=hEC hy_ 1
 have yl:=lBk hy_
 have Hy:=Lib.hid hy_
 clear hy_
 have Hf:=Lib.hid (Fr.trans0 (by (repeat first|exact Fr.refl _ _|assumption|apply Fr.n|apply Fr.d|apply Fr.a|refine Fr.s ?_ (.inr (by simp;try omega)) _)) hf:Fr [] w w1)
 clear hs hf
 go_wp2_with fail
 refine (HL.out _ Hf.out).mono ?_
 rintro e w2 ⟨rfl,_,hf⟩
 (try clear x0)
 (try clear x1)
 (try clear xl)
 have hx_:=(hf.block _ (lBk Hx.out) (by simp)).trans Hx.out
 clear Hx
 have x0:=hEC hx_ 0
 have x1:=hEC hx_ 1
 have xl:=lBk hx_
 have Hx:=Lib.hid hx_
 clear hx_
 (try clear y0)
 (try clear y1)
 (try clear yl)
 have hy_:=(hf.block _ (lBk Hy.out) (by simp)).trans Hy.out
 clear Hy
 have y0:=hEC hy_ 0
 have y1:=hEC hy_ 1
 have yl:=lBk hy_
 have Hy:=Lib.hid hy_
 clear hy_
 have Hf:=Lib.hid (Hf.out.trans0 hf)
 clear hf
 clear x0 x1 xl y0 y1 yl
 go_wp2
 go_loopw [1,11] (fun x1 x11 wr=>∃ (k:Nat) (z id':Int),x11=.int .i64 z∧z=k - 1∧x1=.int .i64 id'∧k≤256∧Is s ns k id' (tr s ns id')∧v=lookQ s ns k id' X.toNat Y.toNat∧Fr [] w wr ∧
   wr.heap[w.heap.size]?=some (.cells #[.bool nx,.slice ax dx.length cx] 27 (0,0))∧wr.heap[w.heap.size+1]?=some (.cells #[.bool ny,.slice ay dy.length cy] 27 (0,0))) (fun _ x11 _=>(intOf x11+1).toNat)
 case atStart=>exact⟨n,_,id,rfl,by omega,rfl,hn2,Hi.out,Hv.out,Hf.out,Hx.out,Hy.out⟩
 case round =>
  obtain⟨k,z,id',rfl,hz,rfl,hk,hi,hv,hf,h1,h2⟩:=hrel
  clear Hf Hx Hy Hi Hv
  have Hf:=Lib.hid hf
  have Hx:=Lib.hid h1
  have Hy:=Lib.hid h2
  have Hi:=Lib.hid hi
  have Hv:=Lib.hid hv
  clear hi hv hf
  rcases k with _|k
  ·obtain rfl:z=-1:=by omega
   clear hz h1 h2
   go_wp2
   go_ret2
   refine⟨?_,H.out.step Hf.out,Hf.out⟩
   rw [show v=id' from Hv.out]
   rfl
  ·obtain rfl:z=(k:Nat):=by omega
   have hd:decide (((k:Nat):Int) ≥ 0)=true:=by simp
   clear hz
   have x0:=hEC h1 0
   have x1:=hEC h1 1
   have y0:=hEC h2 0
   have y1:=hEC h2 1
   have xl:=lBk h1
   have yl:=lBk h2
   clear h1 h2
   go_wp2_with fail
   refine (HKi.out _ Hf.out _ _ _ Hi.out).mono ?_
   rintro e w2 ⟨rfl,_,hf⟩
   (try clear x0)
   (try clear x1)
   (try clear xl)
   have hx_:=(hf.block _ (lBk Hx.out) (by simp)).trans Hx.out
   clear Hx
   have x0:=hEC hx_ 0
   have x1:=hEC hx_ 1
   have xl:=lBk hx_
   have Hx:=Lib.hid hx_
   clear hx_
   (try clear y0)
   (try clear y1)
   (try clear yl)
   have hy_:=(hf.block _ (lBk Hy.out) (by simp)).trans Hy.out
   clear Hy
   have y0:=hEC hy_ 0
   have y1:=hEC hy_ 1
   have yl:=lBk hy_
   have Hy:=Lib.hid hy_
   clear hy_
   have Hf:=Lib.hid (Hf.out.trans0 hf)
   clear hf
   obtain⟨kk,hkk⟩:∃ kk,nodeOf s ns id'=kk:=⟨_,rfl⟩
   have HQi:=Lib.hid (HQ.out _ _ _ Hi.out)
   rw [hkk] at HQi ⊢
   have Hkk:=Lib.hid hkk
   clear hkk
   obtain⟨bx,hbx⟩:∃ bx,X.toNat / 2 ^ k % 2=bx:=⟨_,rfl⟩
   obtain⟨by1,hby⟩:∃ bx,Y.toNat / 2 ^ k % 2=bx:=⟨_,rfl⟩
   have HBx1:=Lib.hid (fun w1 (hf:Fr [] w w1)=>hbx▸HBx.out w1 k (by omega) hf)
   have HBy1:=Lib.hid (fun w1 (hf:Fr [] w w1)=>hby▸HBy.out w1 k (by omega) hf)
   have hqd:qd k X.toNat Y.toNat=bx+2*by1:=by unfold qd;rw [hbx,hby]
   have Hqd:=Lib.hid hqd
   have hb2:bx<2∧by1<2:=by omega
   have hq4:bx=0∧by1=0∨bx=1∧by1=0∨bx=0∧by1=1∨bx=1∧by1=1:=by omega
   have Hq4:=Lib.hid hq4
   clear hqd hbx hby hb2 hq4
   go_wp2
   refine wRS [([0,1,3,4,2],[3]),([5,6,7,8,9,10],[])] (by kernel_rfl) (by kernel_rfl) ?_
   (simp only [wpSegs,pick,Array.getD_eq_getD_getElem?,List.getElem?_toArray,List.getElem?_cons_succ,List.getElem?_cons_zero,Option.getD_some])
   go_wp2_with fail
   refine (HBx1.out _ (by have:=Hf.out;(repeat first|exact Fr.refl _ _|assumption|apply Fr.n|apply Fr.d|apply Fr.a|refine Fr.s ?_ (.inr (by simp;try omega)) _))).mono ?_
   rintro e w3 ⟨rfl,hf⟩
   have hk_:=(hf.block (w2.heap.size) (by first|(simp;done)|(simp;omega)) (by simp)).trans (show _=some (.cells #[.int .i64 kk.a,.int .i64 kk.b,.int .i64 kk.c,.int .i64 kk.d] 81 (0,0)) by (repeat first|rw [if_pos (by omega)]|rw [if_neg (by omega)]|rw [hDR]|rw [hDN]|rw [hAz]|rw [hSz]|rw [hAC]|rw [hSC]|rw [oMS]|rw [uPC]|rw [lSZ]|rw [lSS]|rfl))
   have k0:=hEC hk_ 0
   have k1:=hEC hk_ 1
   have k2:=hEC hk_ 2
   have k3:=hEC hk_ 3
   have kl:=lBk hk_
   have Hk:=Lib.hid hk_
   clear hk_
   have hf2:Fr [] w2 w3:=Fr.trans0 (by (repeat first|exact Fr.refl _ _|assumption|apply Fr.n|apply Fr.d|apply Fr.a|refine Fr.s ?_ (.inr (by simp;try omega)) _)) hf
   (try clear x0)
   (try clear x1)
   (try clear xl)
   have hx_:=(hf2.block _ (lBk Hx.out) (by simp)).trans Hx.out
   clear Hx
   have x0:=hEC hx_ 0
   have x1:=hEC hx_ 1
   have xl:=lBk hx_
   have Hx:=Lib.hid hx_
   clear hx_
   (try clear y0)
   (try clear y1)
   (try clear yl)
   have hy_:=(hf2.block _ (lBk Hy.out) (by simp)).trans Hy.out
   clear Hy
   have y0:=hEC hy_ 0
   have y1:=hEC hy_ 1
   have yl:=lBk hy_
   have Hy:=Lib.hid hy_
   clear hy_
   have Hf:=Lib.hid (Hf.out.trans0 hf2)
   clear hf hf2
   go_wp2
   refine Mid.intro ⟨⟨aGR (T:=27) (cs:=[.bool ny,.slice ay dy.length cy]) rfl rfl rfl Tryz.underlying27 rfl (by kernel_rfl) (fun j v hj=>?rng) rfl,trivial⟩,?_⟩
   case rng =>
    rw [Nat.zero_add,hEC Hy.out,← hj]
    exact (Array.getElem?_toList (xs:=#[Value.bool ny,.slice ay dy.length cy])).symm
   go_wp2_with fail
   refine (HBy1.out _ Hf.out).mono ?_
   rintro e w4 ⟨rfl,hf⟩
   (try clear k0)
   (try clear k1)
   (try clear k2)
   (try clear k3)
   (try clear kl)
   have hk_:=(hf.block _ (lBk Hk.out) (by simp)).trans Hk.out
   clear Hk
   have k0:=hEC hk_ 0
   have k1:=hEC hk_ 1
   have k2:=hEC hk_ 2
   have k3:=hEC hk_ 3
   have kl:=lBk hk_
   have Hk:=Lib.hid hk_
   clear hk_
   (try clear x0)
   (try clear x1)
   (try clear xl)
   have hx_:=(hf.block _ (lBk Hx.out) (by simp)).trans Hx.out
   clear Hx
   have x0:=hEC hx_ 0
   have x1:=hEC hx_ 1
   have xl:=lBk hx_
   have Hx:=Lib.hid hx_
   clear hx_
   (try clear y0)
   (try clear y1)
   (try clear yl)
   have hy_:=(hf.block _ (lBk Hy.out) (by simp)).trans Hy.out
   clear Hy
   have y0:=hEC hy_ 0
   have y1:=hEC hy_ 1
   have yl:=lBk hy_
   have Hy:=Lib.hid hy_
   clear hy_
   have Hf:=Lib.hid (Hf.out.trans0 hf)
   clear hf
   have hq4:=Hq4.out
   rcases hq4 with ⟨rfl,rfl⟩|⟨rfl,rfl⟩|⟨rfl,rfl⟩|⟨rfl,rfl⟩
   ·
    have hi2:=HQi.out 0 (by omega)
    have HF:=Lib.hid (And.intro (hi2.canon) (show v=lookQ s ns k (kk.get 0) X.toNat Y.toNat by rw [Hv.out];show lookQ s ns k _ X.toNat Y.toNat=_;rw [Hqd.out,Hkk.out]))
    clear hi2
    go_wp2
    refine Mid.intro ⟨trivial,Strict.intro rfl ?_⟩
    go_wp2
    go_roundw
    case rel=>exact⟨k,_,_,rfl,rfl,rfl,by omega,HF.out.1,HF.out.2,Hf.out,Hx.out,Hy.out⟩
    case measure=>simp [intOf]
   ·
    have hi2:=HQi.out 1 (by omega)
    have HF:=Lib.hid (And.intro (hi2.canon) (show v=lookQ s ns k (kk.get 1) X.toNat Y.toNat by rw [Hv.out];show lookQ s ns k _ X.toNat Y.toNat=_;rw [Hqd.out,Hkk.out]))
    clear hi2
    go_wp2
    refine Mid.intro ⟨trivial,Strict.intro rfl ?_⟩
    go_wp2
    go_roundw
    case rel=>exact⟨k,_,_,rfl,rfl,rfl,by omega,HF.out.1,HF.out.2,Hf.out,Hx.out,Hy.out⟩
    case measure=>simp [intOf]
   ·
    have hi2:=HQi.out 2 (by omega)
    have HF:=Lib.hid (And.intro (hi2.canon) (show v=lookQ s ns k (kk.get 2) X.toNat Y.toNat by rw [Hv.out];show lookQ s ns k _ X.toNat Y.toNat=_;rw [Hqd.out,Hkk.out]))
    clear hi2
    go_wp2
    refine Mid.intro ⟨trivial,Strict.intro rfl ?_⟩
    go_wp2
    go_roundw
    case rel=>exact⟨k,_,_,rfl,rfl,rfl,by omega,HF.out.1,HF.out.2,Hf.out,Hx.out,Hy.out⟩
    case measure=>simp [intOf]
   ·
    have hi2:=HQi.out 3 (by omega)
    have HF:=Lib.hid (And.intro (hi2.canon) (show v=lookQ s ns k (kk.get 3) X.toNat Y.toNat by rw [Hv.out];show lookQ s ns k _ X.toNat Y.toNat=_;rw [Hqd.out,Hkk.out]))
    clear hi2
    go_wp2
    refine Mid.intro ⟨trivial,Strict.intro rfl ?_⟩
    go_wp2
    go_roundw
    case rel=>exact⟨k,_,_,rfl,rfl,rfl,by omega,HF.out.1,HF.out.2,Hf.out,Hx.out,Hy.out⟩
    case measure=>simp [intOf]
end Go.Proofs.YtdanghnadbkhfaaGreat
end
section
namespace Go.Proofs.YtdanghnadbkhfaaGreat
open Go Go.RowKit Rg Mp Hp Qs Ev Bn
theorem seps_mem {w:World} {P:Res}:∀ {Ps:List Res} {F:List Nat},Seps w Ps F→P∈Ps→∃ G,P.holds w G
 | Q::Ps,F,⟨F1,F2,h1,h2,_,_⟩,hm=>by
  rw [List.mem_cons] at hm
  rcases hm with rfl|hm
  ·exact⟨_,h1⟩
  ·exact seps_mem h2 hm
theorem has_mem {W w:World} {P:Res} {Ps:List Res} (h:Has W w Ps) (hm:P∈Ps):∃ G,P.holds w G:=by
 obtain⟨F,h1,_⟩:=h
 exact seps_mem h1 hm
def BigSrc (W:World) (Ps:List Res) (neg:Bool) (ds:List Nat) (a:Option Addr) (c:Nat):Prop :=
 ∀ w Qs,Has W w Qs→(∀ P∈Ps,P∈Qs)→BigIn w neg ds a c
theorem BigSrc.base {W:World} {Ps:List Res} {neg:Bool} {ds:List Nat} {a:Option Addr} {c:Nat} (h:BigIn W neg ds a c):BigSrc W Ps neg ds a c:=fun w Qs hw _=>h.fr hw.fr
theorem BigSrc.more {W:World} {Ps Qs:List Res} {neg:Bool} {ds:List Nat} {a:Option Addr} {c:Nat} (h:BigSrc W Ps neg ds a c) (hs:∀ P∈Ps,P∈Qs):BigSrc W Qs neg ds a c:=fun w Rs hw hm=>h w Rs hw fun P hP=>hm P (hs P hP)
theorem BigSrc.at {W w:World} {Ps:List Res} {neg:Bool} {ds:List Nat} {a:Option Addr} {c:Nat} (h:BigSrc W Ps neg ds a c) {P:Res} (hw:Has W w (P::Ps)):BigIn w neg ds a c:=h w _ hw fun Q hQ=>by simp [hQ]
def bigR (neg:Bool) (ds:List Nat) (a:Option Addr) (c:Nat):Res where
 holds w F:=BigIn w neg ds a c∧F=if ds.length=0 then [] else (Value.slice a ds.length c).ownBlock.toList
 keep:=fun {w w' F} ⟨h1,h2⟩ hk=>by
  refine⟨⟨?_,h1.dig,h1.len,h1.big⟩,h2⟩
  by_cases h0:ds.length=0
  ·exact⟨h1.rd.1,a,c,rfl,fun h=>by omega⟩
  ·rw [if_neg h0] at h2
   exact h1.rd.keep fun x hx _=>hk x (by rw [h2];simpa using hx)
 lt:=fun {w F} ⟨h1,h2⟩ x hx=>by
  by_cases h0:ds.length=0
  ·rw [h2,if_pos h0] at hx;cases hx
  ·rw [h2,if_neg h0] at hx
   obtain⟨_,a',c',he,h3⟩:=h1.rd
   cases he
   obtain⟨g,off,rfl,hg,_⟩:=h3 (by omega)
   simp [Value.ownBlock] at hx
   omega
theorem BigSrc.thing {W:World} {Ps:List Res} {neg:Bool} {ds:List Nat} {a:Option Addr} {c:Nat} (h:bigR neg ds a c∈Ps):BigSrc W Ps neg ds a c:=fun w Qs hw hm=>by
 obtain⟨G,h1,_⟩:=has_mem hw (hm _ h)
 exact h1
theorem has_big {W w w':World} {Ps:List Res} {z:Int} {v:Value} (h:Has W w Ps) (hf:Fr [] w w') (hb:BigZ w' (w.heap.size≤·) v z) (hz:Zok z) :
  ∃ a c,v=.agg #[.bool (decide (z<0)),.slice a (zd z).length c]∧Has W w' (bigR (decide (z<0)) (zd z) a c::Ps):=by
 obtain⟨a,c,rfl,h1,h2,h3⟩:=hb
 refine⟨a,c,rfl,h.new hf (F:=if (zd z).length=0 then [] else (Value.slice a (zd z).length c).ownBlock.toList) ⟨⟨h3,zd_dig z,h1,by have:=zd_len hz;omega⟩,rfl⟩ fun x hx=>?_⟩
 split at hx
 ·cases hx
 ·exact h2 x (by simpa using hx)
def SetAt (W:World) (b:Nat) (s:Int) (nx:Bool) (dx:List Nat) (ax:Option Addr) (cx:Nat) (ny:Bool) (dy:List Nat) (ay:Option Addr) (cy:Nat) (X Y st:Int) (n:Nat):Prop :=
 ∀ (w:World) (Ps:List Res) (ns:List K4) (id:Int) (t:Tr),Has W w (sTR b s ns::Ps)→Is s ns n id t→BigSrc W Ps nx dx ax cx→BigSrc W Ps ny dy ay cy →
  Calls Tryz.prog 73 #[.pointer (some ⟨b,0,none⟩),.int .i64 id,.agg #[.bool nx,.slice ax dx.length cx],.agg #[.bool ny,.slice ay dy.length cy],.int .i64 st] w fun e w' =>
   e=.returned (.tuple #[.int .i64 (setQ s n ns id X.toNat Y.toNat st).1.1,.int .i64 (setQ s n ns id X.toNat Y.toNat st).1.2])∧Has W w' (sTR b s (setQ s n ns id X.toNat Y.toNat st).2::Ps)
theorem SetAt.run {W:World} {b:Nat} {s:Int} {nx:Bool} {dx:List Nat} {ax:Option Addr} {cx:Nat} {ny:Bool} {dy:List Nat} {ay:Option Addr} {cy:Nat} {X Y st:Int} {n:Nat} (hs:SetAt W b s nx dx ax cx ny dy ay cy X Y st n) {w:World} {Ps:List Res} {ns:List K4} {id:Int} {t:Tr}
  (h:Has W w (sTR b s ns::Ps)) (hi:Is s ns n id t) (hx:BigSrc W Ps nx dx ax cx) (hy:BigSrc W Ps ny dy ay cy) {id' e':Int} {ms:List K4} (he:setQ s n ns id X.toNat Y.toNat st=((id',e'),ms)) :
  Calls Tryz.prog 73 #[.pointer (some ⟨b,0,none⟩),.int .i64 id,.agg #[.bool nx,.slice ax dx.length cx],.agg #[.bool ny,.slice ay dy.length cy],.int .i64 st] w fun e w' =>
   e=.returned (.tuple #[.int .i64 id',.int .i64 e'])∧Has W w' (sTR b s ms::Ps):=by
 have:=hs w Ps ns id t h hi hx hy
 rwa [he] at this
theorem bit_in {w:World} {neg:Bool} {ds:List Nat} {a:Option Addr} {c:Nat} {Z:Int} {k bit:Nat} (hb:BigIn w neg ds a c) (hn:neg=decide (Z<0)) (hd:ds=zd Z) (hz:Zok Z) (h0:0≤Z) (hk:k<2048) (he:Z.toNat / 2 ^ k % 2=bit) :
  Calls Tryz.prog 41 #[.agg #[.bool neg,.slice a ds.length c],.int .i64 k] w fun e w'=>e=.returned (.int .i64 (bit:Nat))∧Fr [] w w':=by
 subst hn;subst hd;subst he
 exact Bit_z (A:=fun _=>True) ⟨a,c,rfl,hb.len,fun _ _=>trivial,hb.rd⟩ hz h0 hk
set_option maxHeartbeats 16000000 in
theorem set_q {W:World} {b:Nat} {s:Int} {nx:Bool} {dx:List Nat} {ax:Option Addr} {cx:Nat} {ny:Bool} {dy:List Nat} {ay:Option Addr} {cy:Nat} {X Y:Int} (st:Int) (zx:Zok X) (zy:Zok Y) (hX:0≤X) (hY:0≤Y)
  (hnx:nx=decide (X<0)) (hdx:dx=zd X) (hny:ny=decide (Y<0)) (hdy:dy=zd Y):∀ n:Nat,n≤256→SetAt W b s nx dx ax cx ny dy ay cy X Y st n:=by
 intro n
 induction n with
 | zero =>
  intro _ w Ps ns id t h hi hx hy
  have hg:=has_good h
  have HK:=Lib.hid (fun w1 (hf:Fr [] w w1)=>KidsLeaf_has (h.step hf) hi)
  have H:=Lib.hid h
  clear h hi hx hy hg hnx hdx hny hdy zx zy hX hY
  go_enter Tryz.func73,Tryz.ntmps73
  go_wp2_with fail
  refine (HK.out _ (by (repeat first|exact Fr.refl _ _|assumption|apply Fr.n|apply Fr.d|apply Fr.a|refine Fr.s ?_ (.inr (by simp;try omega)) _))).mono ?_
  rintro e w1 ⟨rfl,hs,hf⟩
  have Hf:=Lib.hid (Fr.trans0 (by (repeat first|exact Fr.refl _ _|assumption|apply Fr.n|apply Fr.d|apply Fr.a|refine Fr.s ?_ (.inr (by simp;try omega)) _)) hf:Fr [] w w1)
  clear hs hf
  go_wp2
  go_ret2
  exact⟨rfl,H.out.step (by have:=Hf.out;(repeat first|exact Fr.refl _ _|assumption|apply Fr.n|apply Fr.d|apply Fr.a|refine Fr.s ?_ (.inr (by simp;try omega)) _))⟩
 | succ n ih =>
  intro hn
  have HS:=Lib.hid (ih (by omega))
  clear ih
  intro w Ps ns id t h hi hx hy
  have hg:=has_good h
  obtain⟨kk,hkk⟩:∃ kk,nodeOf s ns id=kk:=⟨_,rfl⟩
  have HQi:=Lib.hid (hkk▸(hi.node hg).2.2)
  have HK:=Lib.hid (fun w1 Qs (h1:Has W w1 (sTR b s ns::Qs))=>hkk▸Kids_has h1 hi)
  have HL:=Lib.hid (fun w1 Qs (h1:Has W w1 (sTR b s ns::Qs))=>LevelIs_has h1 hi)
  obtain⟨bx,hbx⟩:∃ bx,X.toNat / 2 ^ n % 2=bx:=⟨_,rfl⟩
  obtain⟨by1,hby⟩:∃ bx,Y.toNat / 2 ^ n % 2=bx:=⟨_,rfl⟩
  have hqd:qd n X.toNat Y.toNat=bx+2*by1:=by unfold qd;rw [hbx,hby]
  have hq4:bx=0∧by1=0∨bx=1∧by1=0∨bx=0∧by1=1∨bx=1∧by1=1:=by omega
  obtain⟨⟨id5,e5⟩,ms,hJ⟩:∃ (r:Int×Int) (ms:List K4),setQ s n ns (kk.get (bx+2*by1)) X.toNat Y.toNat st=(r,ms):=⟨_,_,rfl⟩
  have HJ:=Lib.hid hJ
  have hres:setQ s (n+1) ns id X.toNat Y.toNat st=if e5≠0 then ((0,e5),ms) else join s ms (putK kk (bx+2*by1) id5):=by
   show (if (setQ s n ns ((nodeOf s ns id).get (qd n X.toNat Y.toNat)) X.toNat Y.toNat st).1.2≠0 then _ else _)=_
   rw [hqd,hkk,hJ]
  have HBX:=Lib.hid (fun w1 (hb:BigIn w1 nx dx ax cx)=>bit_in hb hnx hdx zx hX (show n<2048 by omega) hbx)
  have HBY:=Lib.hid (fun w1 (hb:BigIn w1 ny dy ay cy)=>bit_in hb hny hdy zy hY (show n<2048 by omega) hby)
  have HSx:=Lib.hid hx
  have HSy:=Lib.hid hy
  have Hres:=Lib.hid hres
  have Hq4:=Lib.hid hq4
  have H:=Lib.hid h
  clear h hi hx hy hg hnx hdx hny hdy zx zy hX hY hqd hres hJ hq4 hbx hby hkk
  go_enter Tryz.func73,Tryz.ntmps73
  go_wp2_with fail
  have h2:=(hAL (hAL H.out #[.bool nx,.slice ax dx.length cx] 27) #[.bool ny,.slice ay dy.length cy] 27).third
  refine (HK.out _ _ h2).mono ?_
  rintro e w1 ⟨rfl,h,hf⟩
  rw [show (w.alloc (.cells #[.bool nx,.slice ax dx.length cx] 27)).heap.size=w.heap.size+1 by simp] at h
  obtain⟨xb,hxb⟩:∃ xb,w.heap.size=xb:=⟨_,rfl⟩
  obtain⟨yb,hyb⟩:∃ yb,xb+1=yb:=⟨_,rfl⟩
  rw [hxb] at h ⊢
  rw [hyb] at h ⊢
  have h:=(hAL h #[.int .i64 kk.a,.int .i64 kk.b,.int .i64 kk.c,.int .i64 kk.d] 81).swap
  obtain⟨kb,hkb⟩:∃ kb,w1.heap.size=kb:=⟨_,rfl⟩
  rw [hkb] at h
  have H1:=Lib.hid h
  clear h hf h2 H hxb hyb
  go_wp2_with fail
  refine (HL.out _ _ H1.out).mono ?_
  rintro e w2 ⟨rfl,h,hf⟩
  clear hkb H1 hf
  have hk2:=h.swap.blk
  have hy2:=h.third.blk
  have hx2:=h.fourth.blk
  have k0:=hEC hk2 0
  have k1:=hEC hk2 1
  have k2:=hEC hk2 2
  have k3:=hEC hk2 3
  have kl:=lBk hk2
  have x0:=hEC hx2 0
  have x1:=hEC hx2 1
  have xl:=lBk hx2
  have y0:=hEC hy2 0
  have y1:=hEC hy2 1
  have yl:=lBk hy2
  have HBx1:=Lib.hid (fun w3 (hf:Fr [] w2 w3)=>HBX.out w3 (HSx.out w3 _ (h.step hf) (by intro P hP;simp [hP])))
  have HBy1:=Lib.hid (fun w3 (hf:Fr [] w2 w3)=>HBY.out w3 (HSy.out w3 _ (h.step hf) (by intro P hP;simp [hP])))
  have Hk:=Lib.hid hk2
  have Hx:=Lib.hid hx2
  have Hy:=Lib.hid hy2
  have Hf:=Lib.hid (Fr.refl [] w2)
  have H:=Lib.hid h
  clear h hk2 hx2 hy2
  go_wp2
  refine wRS [([0,1,3,4,2],[3]),([5,6,7,8],[])] (by kernel_rfl) (by kernel_rfl) ?_
  (simp only [wpSegs,pick,Array.getD_eq_getD_getElem?,List.getElem?_toArray,List.getElem?_cons_succ,List.getElem?_cons_zero,Option.getD_some])
  go_wp2_with fail
  refine (HBx1.out _ (by have:=Hf.out;(repeat first|exact Fr.refl _ _|assumption|apply Fr.n|apply Fr.d|apply Fr.a|refine Fr.s ?_ (.inr (by simp;try omega)) _))).mono ?_
  rintro e w3 ⟨rfl,hf⟩
  (try clear k0)
  (try clear k1)
  (try clear k2)
  (try clear k3)
  (try clear kl)
  have hk_:=(hf.block _ (lBk Hk.out) (by simp)).trans Hk.out
  clear Hk
  have k0:=hEC hk_ 0
  have k1:=hEC hk_ 1
  have k2:=hEC hk_ 2
  have k3:=hEC hk_ 3
  have kl:=lBk hk_
  have Hk:=Lib.hid hk_
  clear hk_
  have hf2:Fr [] w2 w3:=Fr.trans0 (by (repeat first|exact Fr.refl _ _|assumption|apply Fr.n|apply Fr.d|apply Fr.a|refine Fr.s ?_ (.inr (by simp;try omega)) _)) hf
  (try clear x0)
  (try clear x1)
  (try clear xl)
  have hx_:=(hf2.block _ (lBk Hx.out) (by simp)).trans Hx.out
  clear Hx
  have x0:=hEC hx_ 0
  have x1:=hEC hx_ 1
  have xl:=lBk hx_
  have Hx:=Lib.hid hx_
  clear hx_
  (try clear y0)
  (try clear y1)
  (try clear yl)
  have hy_:=(hf2.block _ (lBk Hy.out) (by simp)).trans Hy.out
  clear Hy
  have y0:=hEC hy_ 0
  have y1:=hEC hy_ 1
  have yl:=lBk hy_
  have Hy:=Lib.hid hy_
  clear hy_
  have Hf:=Lib.hid (Hf.out.trans0 hf2)
  clear hf hf2
  go_wp2
  refine Mid.intro ⟨⟨aGR (T:=27) (cs:=[.bool ny,.slice ay dy.length cy]) rfl rfl rfl Tryz.underlying27 rfl (by kernel_rfl) (fun j v hj=>?rng) rfl,trivial⟩,?_⟩
  case rng =>
   rw [Nat.zero_add,hEC Hy.out,← hj]
   exact (Array.getElem?_toList (xs:=#[Value.bool ny,.slice ay dy.length cy])).symm
  go_wp2_with fail
  refine (HBy1.out _ Hf.out).mono ?_
  rintro e w4 ⟨rfl,hf⟩
  (try clear k0)
  (try clear k1)
  (try clear k2)
  (try clear k3)
  (try clear kl)
  have hk_:=(hf.block _ (lBk Hk.out) (by simp)).trans Hk.out
  clear Hk
  have k0:=hEC hk_ 0
  have k1:=hEC hk_ 1
  have k2:=hEC hk_ 2
  have k3:=hEC hk_ 3
  have kl:=lBk hk_
  have Hk:=Lib.hid hk_
  clear hk_
  (try clear x0)
  (try clear x1)
  (try clear xl)
  have hx_:=(hf.block _ (lBk Hx.out) (by simp)).trans Hx.out
  clear Hx
  have x0:=hEC hx_ 0
  have x1:=hEC hx_ 1
  have xl:=lBk hx_
  have Hx:=Lib.hid hx_
  clear hx_
  (try clear y0)
  (try clear y1)
  (try clear yl)
  have hy_:=(hf.block _ (lBk Hy.out) (by simp)).trans Hy.out
  clear Hy
  have y0:=hEC hy_ 0
  have y1:=hEC hy_ 1
  have yl:=lBk hy_
  have Hy:=Lib.hid hy_
  clear hy_
  have Hf:=Lib.hid (Hf.out.trans0 hf)
  clear hf
  have hq4:=Hq4.out
  have hres:=Hres.out
  rcases hq4 with ⟨rfl,rfl⟩|⟨rfl,rfl⟩|⟨rfl,rfl⟩|⟨rfl,rfl⟩
  all_goals
   go_wp2
   refine Mid.intro ⟨trivial,Strict.intro rfl ?_⟩
  ·
   have HR:=Lib.hid (fun w9 (hf9:Fr [] w2 w9)=>HS.out.run (Ps:=Hp.blk kb (.cells #[.int .i64 kk.a,.int .i64 kk.b,.int .i64 kk.c,.int .i64 kk.d] 81 (0,0))::Hp.blk yb (.cells #[.bool ny,.slice ay dy.length cy] 27 (0,0))::Hp.blk xb (.cells #[.bool nx,.slice ax dx.length cx] 27 (0,0))::Ps) (H.out.step hf9) (HQi.out 0 (by omega)) (HSx.out.more (by intro P hP;simp [hP])) (HSy.out.more (by intro P hP;simp [hP])) HJ.out)
   go_wp2
   (refine wRT (by kernel_rfl) (by kernel_rfl) ?_)
   go_wp2_with fail
   refine (HR.out _ (by have:=Hf.out;(repeat first|exact Fr.refl _ _|assumption|apply Fr.n|apply Fr.d|apply Fr.a|refine Fr.s ?_ (.inr (by simp;try omega)) _))).mono ?_
   rintro e w5 ⟨rfl,h⟩
   clear HR k0 k1 k2 k3 kl x0 x1 xl y0 y1 yl
   by_cases he5:e5=0
   ·subst he5
    have hb5:((0:Int) != 0)=false:=rfl
    have HRS:=Lib.hid (show setQ s (n+1) ns id X.toNat Y.toNat st=join s ms (putK kk 0 id5) from hres.trans (if_neg (by simp)))
    have k0:_=some (Value.int .i64 kk.a):=(hCE h.swap).1 0
    have k1:_=some (Value.int .i64 kk.b):=(hCE h.swap).1 1
    have k2:_=some (Value.int .i64 kk.c):=(hCE h.swap).1 2
    have k3:_=some (Value.int .i64 kk.d):=(hCE h.swap).1 3
    have kz:=(hCE h.swap).2.1 0
    have kl:=(hCE h.swap).2.2
    have H5:=Lib.hid (hST h.swap 0 (.int .i64 id5)).swap
    clear h hres
    go_wp2
    refine Strict.intro rfl ?_
    go_wp2_with fail
    refine (Join_has H5.out _ _ _ _).mono ?_
    rintro e w6 ⟨rfl,h⟩
    have H6:=Lib.hid h
    clear h
    go_wp2
    go_ret2
    rw [HRS.out]
    exact⟨rfl,H6.out.swap.drop.swap.drop.swap.drop⟩
   ·have hb5:(e5 != 0)=true:=by simpa using he5
    have HRS:=Lib.hid (show setQ s (n+1) ns id X.toNat Y.toNat st=((0,e5),ms) from hres.trans (if_pos he5))
    have H5:=Lib.hid h
    clear h hres he5
    go_wp2
    refine Strict.intro rfl ?_
    go_wp2
    go_ret2
    rw [HRS.out]
    exact⟨rfl,H5.out.swap.drop.swap.drop.swap.drop⟩
  ·
   have HR:=Lib.hid (fun w9 (hf9:Fr [] w2 w9)=>HS.out.run (Ps:=Hp.blk kb (.cells #[.int .i64 kk.a,.int .i64 kk.b,.int .i64 kk.c,.int .i64 kk.d] 81 (0,0))::Hp.blk yb (.cells #[.bool ny,.slice ay dy.length cy] 27 (0,0))::Hp.blk xb (.cells #[.bool nx,.slice ax dx.length cx] 27 (0,0))::Ps) (H.out.step hf9) (HQi.out 1 (by omega)) (HSx.out.more (by intro P hP;simp [hP])) (HSy.out.more (by intro P hP;simp [hP])) HJ.out)
   go_wp2
   (refine wRT (by kernel_rfl) (by kernel_rfl) ?_)
   go_wp2_with fail
   refine (HR.out _ (by have:=Hf.out;(repeat first|exact Fr.refl _ _|assumption|apply Fr.n|apply Fr.d|apply Fr.a|refine Fr.s ?_ (.inr (by simp;try omega)) _))).mono ?_
   rintro e w5 ⟨rfl,h⟩
   clear HR k0 k1 k2 k3 kl x0 x1 xl y0 y1 yl
   by_cases he5:e5=0
   ·subst he5
    have hb5:((0:Int) != 0)=false:=rfl
    have HRS:=Lib.hid (show setQ s (n+1) ns id X.toNat Y.toNat st=join s ms (putK kk 1 id5) from hres.trans (if_neg (by simp)))
    have k0:_=some (Value.int .i64 kk.a):=(hCE h.swap).1 0
    have k1:_=some (Value.int .i64 kk.b):=(hCE h.swap).1 1
    have k2:_=some (Value.int .i64 kk.c):=(hCE h.swap).1 2
    have k3:_=some (Value.int .i64 kk.d):=(hCE h.swap).1 3
    have kz:=(hCE h.swap).2.1 1
    have kl:=(hCE h.swap).2.2
    have H5:=Lib.hid (hST h.swap 1 (.int .i64 id5)).swap
    clear h hres
    go_wp2
    refine Strict.intro rfl ?_
    go_wp2_with fail
    refine (Join_has H5.out _ _ _ _).mono ?_
    rintro e w6 ⟨rfl,h⟩
    have H6:=Lib.hid h
    clear h
    go_wp2
    go_ret2
    rw [HRS.out]
    exact⟨rfl,H6.out.swap.drop.swap.drop.swap.drop⟩
   ·have hb5:(e5 != 0)=true:=by simpa using he5
    have HRS:=Lib.hid (show setQ s (n+1) ns id X.toNat Y.toNat st=((0,e5),ms) from hres.trans (if_pos he5))
    have H5:=Lib.hid h
    clear h hres he5
    go_wp2
    refine Strict.intro rfl ?_
    go_wp2
    go_ret2
    rw [HRS.out]
    exact⟨rfl,H5.out.swap.drop.swap.drop.swap.drop⟩
  ·
   have HR:=Lib.hid (fun w9 (hf9:Fr [] w2 w9)=>HS.out.run (Ps:=Hp.blk kb (.cells #[.int .i64 kk.a,.int .i64 kk.b,.int .i64 kk.c,.int .i64 kk.d] 81 (0,0))::Hp.blk yb (.cells #[.bool ny,.slice ay dy.length cy] 27 (0,0))::Hp.blk xb (.cells #[.bool nx,.slice ax dx.length cx] 27 (0,0))::Ps) (H.out.step hf9) (HQi.out 2 (by omega)) (HSx.out.more (by intro P hP;simp [hP])) (HSy.out.more (by intro P hP;simp [hP])) HJ.out)
   go_wp2
   (refine wRT (by kernel_rfl) (by kernel_rfl) ?_)
   go_wp2_with fail
   refine (HR.out _ (by have:=Hf.out;(repeat first|exact Fr.refl _ _|assumption|apply Fr.n|apply Fr.d|apply Fr.a|refine Fr.s ?_ (.inr (by simp;try omega)) _))).mono ?_
   rintro e w5 ⟨rfl,h⟩
   clear HR k0 k1 k2 k3 kl x0 x1 xl y0 y1 yl
   by_cases he5:e5=0
   ·subst he5
    have hb5:((0:Int) != 0)=false:=rfl
    have HRS:=Lib.hid (show setQ s (n+1) ns id X.toNat Y.toNat st=join s ms (putK kk 2 id5) from hres.trans (if_neg (by simp)))
    have k0:_=some (Value.int .i64 kk.a):=(hCE h.swap).1 0
    have k1:_=some (Value.int .i64 kk.b):=(hCE h.swap).1 1
    have k2:_=some (Value.int .i64 kk.c):=(hCE h.swap).1 2
    have k3:_=some (Value.int .i64 kk.d):=(hCE h.swap).1 3
    have kz:=(hCE h.swap).2.1 2
    have kl:=(hCE h.swap).2.2
    have H5:=Lib.hid (hST h.swap 2 (.int .i64 id5)).swap
    clear h hres
    go_wp2
    refine Strict.intro rfl ?_
    go_wp2_with fail
    refine (Join_has H5.out _ _ _ _).mono ?_
    rintro e w6 ⟨rfl,h⟩
    have H6:=Lib.hid h
    clear h
    go_wp2
    go_ret2
    rw [HRS.out]
    exact⟨rfl,H6.out.swap.drop.swap.drop.swap.drop⟩
   ·have hb5:(e5 != 0)=true:=by simpa using he5
    have HRS:=Lib.hid (show setQ s (n+1) ns id X.toNat Y.toNat st=((0,e5),ms) from hres.trans (if_pos he5))
    have H5:=Lib.hid h
    clear h hres he5
    go_wp2
    refine Strict.intro rfl ?_
    go_wp2
    go_ret2
    rw [HRS.out]
    exact⟨rfl,H5.out.swap.drop.swap.drop.swap.drop⟩
  ·
   have HR:=Lib.hid (fun w9 (hf9:Fr [] w2 w9)=>HS.out.run (Ps:=Hp.blk kb (.cells #[.int .i64 kk.a,.int .i64 kk.b,.int .i64 kk.c,.int .i64 kk.d] 81 (0,0))::Hp.blk yb (.cells #[.bool ny,.slice ay dy.length cy] 27 (0,0))::Hp.blk xb (.cells #[.bool nx,.slice ax dx.length cx] 27 (0,0))::Ps) (H.out.step hf9) (HQi.out 3 (by omega)) (HSx.out.more (by intro P hP;simp [hP])) (HSy.out.more (by intro P hP;simp [hP])) HJ.out)
   go_wp2
   (refine wRT (by kernel_rfl) (by kernel_rfl) ?_)
   go_wp2_with fail
   refine (HR.out _ (by have:=Hf.out;(repeat first|exact Fr.refl _ _|assumption|apply Fr.n|apply Fr.d|apply Fr.a|refine Fr.s ?_ (.inr (by simp;try omega)) _))).mono ?_
   rintro e w5 ⟨rfl,h⟩
   clear HR k0 k1 k2 k3 kl x0 x1 xl y0 y1 yl
   by_cases he5:e5=0
   ·subst he5
    have hb5:((0:Int) != 0)=false:=rfl
    have HRS:=Lib.hid (show setQ s (n+1) ns id X.toNat Y.toNat st=join s ms (putK kk 3 id5) from hres.trans (if_neg (by simp)))
    have k0:_=some (Value.int .i64 kk.a):=(hCE h.swap).1 0
    have k1:_=some (Value.int .i64 kk.b):=(hCE h.swap).1 1
    have k2:_=some (Value.int .i64 kk.c):=(hCE h.swap).1 2
    have k3:_=some (Value.int .i64 kk.d):=(hCE h.swap).1 3
    have kz:=(hCE h.swap).2.1 3
    have kl:=(hCE h.swap).2.2
    have H5:=Lib.hid (hST h.swap 3 (.int .i64 id5)).swap
    clear h hres
    go_wp2
    refine Strict.intro rfl ?_
    go_wp2_with fail
    refine (Join_has H5.out _ _ _ _).mono ?_
    rintro e w6 ⟨rfl,h⟩
    have H6:=Lib.hid h
    clear h
    go_wp2
    go_ret2
    rw [HRS.out]
    exact⟨rfl,H6.out.swap.drop.swap.drop.swap.drop⟩
   ·have hb5:(e5 != 0)=true:=by simpa using he5
    have HRS:=Lib.hid (show setQ s (n+1) ns id X.toNat Y.toNat st=((0,e5),ms) from hres.trans (if_pos he5))
    have H5:=Lib.hid h
    clear h hres he5
    go_wp2
    refine Strict.intro rfl ?_
    go_wp2
    go_ret2
    rw [HRS.out]
    exact⟨rfl,H5.out.swap.drop.swap.drop.swap.drop⟩
def changeQ (s:Int) (ns:List K4) (id:Int) (nx:Bool) (dx:List Nat) (ny:Bool) (dy:List Nat) (st:Int):(Int×Int)×List K4 :=
 if placeE (lvl s (levs s ns) id) nx dx ny dy≠0 then ((0,placeE (lvl s (levs s ns) id) nx dx ny dy),ns) else if ¬ (0≤st∧st<s) then ((0,10),ns) else setQ s (lvl s (levs s ns) id).toNat ns id (sv nx dx).toNat (sv ny dy).toNat st
set_option maxHeartbeats 8000000 in
theorem Set_q {W w:World} {b:Nat} {s:Int} {ns:List K4} {Ps:List Res} (h:Has W w (sTR b s ns::Ps)) (id:Int) {nx ny:Bool} {dx dy:List Nat} {ax ay:Option Addr} {cx cy:Nat} (hx:BigSrc W Ps nx dx ax cx) (hy:BigSrc W Ps ny dy ay cy) (st:Int) :
  Calls Tryz.prog 25 #[.pointer (some ⟨b,0,none⟩),.int .i64 id,.agg #[.bool nx,.slice ax dx.length cx],.agg #[.bool ny,.slice ay dy.length cy],.int .i64 st] w fun e w' =>
   e=.returned (.tuple #[.int .i64 (changeQ s ns id nx dx ny dy st).1.1,.int .i64 (changeQ s ns id nx dx ny dy st).1.2])∧Has W w' (sTR b s (changeQ s ns id nx dx ny dy st).2::Ps):=by
 have hg:=has_good h
 have hx1:=hx.at h
 have hy1:=hy.at h
 have HP:=Lib.hid (fun w1 (hf:Fr [] w w1)=>place_q (h.step hf) id (hx1.fr hf) (hy1.fr hf))
 have HI:=Lib.hid (fun w1 (hf:Fr [] w w1)=>isState_q (h.step hf) st)
 have H:=Lib.hid h
 unfold changeQ
 obtain⟨p,hp⟩:∃ p,placeE (lvl s (levs s ns) id) nx dx ny dy=p:=⟨_,rfl⟩
 rw [hp] at HP ⊢
 by_cases h0:p=0
 case neg =>
  rw [if_pos h0]
  have hb:(p != 0)=true:=by simpa using h0
  clear hp hg h hx hy h0 hx1 hy1 HI
  go_enter Tryz.func25,Tryz.ntmps25
  go_wp2_with fail
  refine (HP.out _ (by (repeat first|exact Fr.refl _ _|assumption|apply Fr.n|apply Fr.d|apply Fr.a|refine Fr.s ?_ (.inr (by simp;try omega)) _))).mono ?_
  rintro e w1 ⟨rfl,hs,hf⟩
  have Hf:=Lib.hid (Fr.trans0 (by (repeat first|exact Fr.refl _ _|assumption|apply Fr.n|apply Fr.d|apply Fr.a|refine Fr.s ?_ (.inr (by simp;try omega)) _)) hf:Fr [] w w1)
  clear hs hf
  go_wp2
  go_ret2
  exact⟨rfl,H.out.step Hf.out⟩
 subst h0
 have hb:((0:Int) != 0)=false:=rfl
 rw [if_neg (by simp)]
 by_cases hst:0≤st∧st<s
 case neg =>
  rw [if_pos hst]
  rw [decide_eq_false hst] at HI
  clear hp hg h hx hy hst hx1 hy1
  go_enter Tryz.func25,Tryz.ntmps25
  go_wp2_with fail
  refine (HP.out _ (by (repeat first|exact Fr.refl _ _|assumption|apply Fr.n|apply Fr.d|apply Fr.a|refine Fr.s ?_ (.inr (by simp;try omega)) _))).mono ?_
  rintro e w1 ⟨rfl,hs,hf⟩
  have Hf:=Lib.hid (Fr.trans0 (by (repeat first|exact Fr.refl _ _|assumption|apply Fr.n|apply Fr.d|apply Fr.a|refine Fr.s ?_ (.inr (by simp;try omega)) _)) hf:Fr [] w w1)
  clear hs hf
  go_wp2_with fail
  refine (HI.out _ Hf.out).mono ?_
  rintro e w2 ⟨rfl,hs,hf⟩
  have Hf:=Lib.hid (Hf.out.trans0 hf)
  clear hs hf
  go_wp2
  go_ret2
  exact⟨rfl,H.out.step Hf.out⟩
 rw [if_neg (by simpa using hst)]
 rw [decide_eq_true hst] at HI
 obtain⟨n,hn,hn2,hi,hR1,hR2,hX1,hX2,hY1,hY2⟩:=placeE_zero hg hp
 obtain⟨X,zx,hnx,hdx,bx⟩:=hx1.z hR1
 obtain⟨Y,zy,hny,hdy,by'⟩:=hy1.z hR2
 have hsx:sv nx dx=X:=by rw [hnx,hdx,zd_sv]
 have hsy:sv ny dy=Y:=by rw [hny,hdy,zd_sv]
 rw [hsx,hsy,hn,show ((n:Nat):Int).toNat=n by omega]
 rw [hsx] at hX1 hX2
 rw [hsy] at hY1 hY2
 have HS:=Lib.hid (set_q (W:=W) (b:=b) (s:=s) (ax:=ax) (cx:=cx) (ay:=ay) (cy:=cy) st zx zy hX1 hY1 hnx hdx hny hdy n hn2)
 obtain⟨⟨id5,e5⟩,ms,hJ⟩:∃ (r:Int×Int) (ms:List K4),setQ s n ns id X.toNat Y.toNat st=(r,ms):=⟨_,_,rfl⟩
 rw [hJ]
 have HR:=Lib.hid (fun w9 Qs (h9:Has W w9 (sTR b s ns::Qs)) (hs:∀ P∈Ps,P∈Qs)=>HS.out.run h9 hi (hx.more hs) (hy.more hs) hJ)
 clear hp hg h hx hy hst hx1 hy1 hn hi hR1 hR2 hX1 hX2 hY1 hY2 zx zy hnx hny hdx hdy bx by' hsx hsy hJ
 go_enter Tryz.func25,Tryz.ntmps25
 go_wp2_with fail
 refine (HP.out _ (by (repeat first|exact Fr.refl _ _|assumption|apply Fr.n|apply Fr.d|apply Fr.a|refine Fr.s ?_ (.inr (by simp;try omega)) _))).mono ?_
 rintro e w1 ⟨rfl,hs,hf⟩
 have hx_:=(hf.block (w.heap.size) (by first|(simp;done)|(simp;omega)) (by simp)).trans (show _=some (.cells #[.bool nx,.slice ax dx.length cx] 27 (0,0)) by (repeat first|rw [if_pos (by omega)]|rw [if_neg (by omega)]|rw [hDR]|rw [hDN]|rw [hAz]|rw [hSz]|rw [hAC]|rw [hSC]|rw [oMS]|rw [uPC]|rw [lSZ]|rw [lSS]|rfl))
 have x0:=hEC hx_ 0
 have x1:=hEC hx_ 1
 have xl:=lBk hx_
 have Hx:=Lib.hid hx_
 clear hx_
 have hy_:=(hf.block (w.heap.size+1) (by first|(simp;done)|(simp;omega)) (by simp)).trans (show _=some (.cells #[.bool ny,.slice ay dy.length cy] 27 (0,0)) by (repeat first|rw [if_pos (by omega)]|rw [if_neg (by omega)]|rw [hDR]|rw [hDN]|rw [hAz]|rw [hSz]|rw [hAC]|rw [hSC]|rw [oMS]|rw [uPC]|rw [lSZ]|rw [lSS]|rfl))
 have y0:=hEC hy_ 0
 have y1:=hEC hy_ 1
 have yl:=lBk hy_
 have Hy:=Lib.hid hy_
 clear hy_
 have Hf:=Lib.hid (Fr.trans0 (by (repeat first|exact Fr.refl _ _|assumption|apply Fr.n|apply Fr.d|apply Fr.a|refine Fr.s ?_ (.inr (by simp;try omega)) _)) hf:Fr [] w w1)
 clear hs hf
 go_wp2_with fail
 refine (HI.out _ Hf.out).mono ?_
 rintro e w2 ⟨rfl,hs,hf⟩
 (try clear x0)
 (try clear x1)
 (try clear xl)
 have hx_:=(hf.block _ (lBk Hx.out) (by simp)).trans Hx.out
 clear Hx
 have x0:=hEC hx_ 0
 have x1:=hEC hx_ 1
 have xl:=lBk hx_
 have Hx:=Lib.hid hx_
 clear hx_
 (try clear y0)
 (try clear y1)
 (try clear yl)
 have hy_:=(hf.block _ (lBk Hy.out) (by simp)).trans Hy.out
 clear Hy
 have y0:=hEC hy_ 0
 have y1:=hEC hy_ 1
 have yl:=lBk hy_
 have Hy:=Lib.hid hy_
 clear hy_
 have Hf:=Lib.hid (Hf.out.trans0 hf)
 clear hs hf
 go_wp2_with fail
 refine (HR.out _ _ (H.out.step (by have:=Hf.out;(repeat first|exact Fr.refl _ _|assumption|apply Fr.n|apply Fr.d|apply Fr.a|refine Fr.s ?_ (.inr (by simp;try omega)) _))) (fun P hP=>hP)).mono ?_
 rintro e w3 ⟨rfl,h3⟩
 have H3:=Lib.hid h3
 clear h3
 go_wp2
 go_ret2
 exact⟨rfl,H3.out⟩
end Go.Proofs.YtdanghnadbkhfaaGreat
end
