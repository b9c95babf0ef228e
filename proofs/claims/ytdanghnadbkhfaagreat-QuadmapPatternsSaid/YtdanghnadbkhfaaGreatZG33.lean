/- Own texts of this claim, part 34: no condition. -/
import Derived.Test.YtdanghnadbkhfaaGreatZG32
section
namespace Go.Proofs.YtdanghnadbkhfaaGreat
open Go Go.RowKit Rg Mp Hp Qs Ev Bn Pt
set_option linter.unusedVariables false
set_option linter.unusedSimpArgs false
structure CSt (W wr:World) (E:List SI) (PL:List IV) (C:List PC) (a':Option Addr) (c':Nat) (E':List SI) (PL':List IV) (Rs:List Res):Prop where
 mp:E'.map SI.pc=E.map SI.pc++C
 el:∀ e∈E',e.X∈PL'∧e.Y∈PL'
 sub:∀ z∈PL,z∈PL'
 has:Has W wr (rowI (.slice a' E'.length c') E'::poolI PL'::Rs)
theorem CSt.len {W wr:World} {E:List SI} {PL:List IV} {C:List PC} {a':Option Addr} {c':Nat} {E':List SI} {PL':List IV} {Rs:List Res} (h:CSt W wr E PL C a' c' E' PL' Rs):E'.length=E.length+C.length:=by
 have:=congrArg List.length h.mp
 simpa using this
theorem CSt.next {W wr w':World} {E:List SI} {PL PL2:List IV} {C D:List PC} {a':Option Addr} {c':Nat} {E':List SI} {PL':List IV} {Rs Rs2:List Res} {e:Ending} (h:CSt W wr E PL C a' c' E' PL' Rs) (hs:∀ z∈PL',z∈PL2) (h2:CellPost W E' PL2 Rs2 D e w') :
  ∃ a2 c2 E2 PL3,e=.returned (.slice a2 (List.length E2) c2)∧CSt W w' E PL (C++D) a2 c2 E2 PL3 Rs2:=by
 obtain⟨a2,c2,E2,PL3,rfl,⟨h3,h4,h5⟩,h6⟩:=h2
 exact⟨a2,c2,E2,PL3,rfl,by rw [h3,h.mp,List.append_assoc],h4,fun z hz=>h5 z (hs z (h.sub z hz)),h6⟩
set_option maxHeartbeats 16000000 in
set_option maxRecDepth 100000 in
theorem Rcells_succ {W:World} {b:Nat} {s:Int} {ns:List K4} {sa:Option Addr} {sc:Nat} {B:List BV} {m n:Nat} (HY:Hid (CellHyp s ns B)) (hm:m≤2000) (hn:n+1≤256) (IH:Hid (RCellAt W b s ns sa sc B m n)) {w:World} {Ps:List Res} {a:Option Addr} {c:Nat} {E:List SI} {PL:List IV} {id:Int} {t:Tr} {x y:IV} (h:Has W w (rowI (.slice a E.length c) E::poolI PL::Ps)) (hR:refR b s ns∈Ps) (hS:rowB (.slice sa B.length sc) B∈Ps) (hP:poolR B∈Ps) (hi:Is s ns (n+1) id t) (hlen:E.length+popT t≤100000) (hel:∀ e∈E,e.X∈PL∧e.Y∈PL) (hx:x∈PL) (hy:y∈PL)
  (hz:x.1.natAbs+2 ^ (n+1)≤2 ^ m∧y.1.natAbs+2 ^ (n+1)≤2 ^ m) (h0:popT t≠0) :
  Calls Tryz.prog 57 #[.pointer (some ⟨b,0,none⟩),.slice sa B.length sc,.int .i64 id,ivV x,ivV y,.slice a E.length c] w (CellPost W E PL Ps (cI (n+1) t x.1 y.1)):=by
 rw [cI_node hi.2.2.1]
 obtain⟨i,K,hid,hK,ka,kb,kc,kd,htn⟩:=hi.kids HY.out.good
 have HKD:=Lib.hid (show ∀ q,q<4→Is s ns n (K.get q) (Tr.q t q) from fun q hq=>by
  have:q=0∨q=1∨q=2∨q=3:=by omega
  rcases this with rfl|rfl|rfl|rfl
  ·exact ka
  ·exact kb
  ·exact kc
  ·exact kd)
 have HFU:=Lib.hid (show ∀ q,q<4→Full n (Tr.q t q) from fun q hq=>(HKD.out q hq).2.2.1)
 have HSUM:=Lib.hid (show popT t=sumq t 4 from by rw [htn];simp only [popT,sumq,Tr.q];omega)
 have HKO:=Lib.hid (show kidsOf s ns id=(K,true) by rw [hid];exact kids_nodeR hK)
 have HLV:=Lib.hid (hi.lvl HY.out.good)
 have HCM:=Lib.hid (show cmpI ((popT t:Nat):Int) 0=1 from by unfold cmpI;rw [if_neg (by omega),if_neg (by omega)])
 have HMM:=Lib.hid hm
 have HNN:=Lib.hid hn
 obtain⟨L9,hL9⟩:∃ L9:Int,((n+1:Nat):Int)=L9:=⟨_,rfl⟩
 have hL1:IntKind.i64.wrap (L9 - 1)=(n:Nat):=by rw [show L9 - 1=((n:Nat):Int) by omega];exact IntWalk.i64_in _ (by omega)
 rw [hL9] at HLV
 clear hid hK ka kb kc kd htn h0 hm hL9
 obtain⟨X,ax,cx⟩:=x
 obtain⟨Y,ay,cy⟩:=y
 obtain⟨k,rfl⟩:=Int.eq_ofNat_of_zero_le hi.1.1
 obtain⟨⟨V,aV,cV⟩,hBk⟩:∃ e,B[k]?=some e:=⟨_,List.getElem?_eq_getElem (by have:=HY.out.len;have:=hi.1.2;omega)⟩
 have hVp:V=popT t:=by have:=HY.out.ok k _ hBk;rw [hi.2.1] at this;exact this
 have hkl:((k:Nat):Int)<(B.length:Nat):=by have:=HY.out.len;have:=hi.1.2;omega
 have HBK:=Lib.hid hBk
 have HVZ:=Lib.hid (show Zok (V:Int) from by rw [hVp];exact pop_zok hn hi.2.2.1)
 have HVP:=Lib.hid hVp
 have HI:=Lib.hid hi
 have HM:=Lib.hid (And.intro hR (And.intro hS hP))
 have HE:=Lib.hid (And.intro hel (And.intro hx hy))
 have HZ:=Lib.hid hz
 have HLN:=Lib.hid hlen
 obtain⟨nx,hnx⟩:∃ o,decide (X<0)=o:=⟨_,rfl⟩
 obtain⟨ny,hny⟩:∃ o,decide (Y<0)=o:=⟨_,rfl⟩
 obtain⟨Dx,hDx⟩:∃ o,zd X=o:=⟨_,rfl⟩
 obtain⟨Dy,hDy⟩:∃ o,zd Y=o:=⟨_,rfl⟩
 have HND:=Lib.hid (And.intro hnx (And.intro hDx (And.intro hny hDy)))
 have h1:=(hAL (hAL h #[.bool nx,.slice ax Dx.length cx] 27) #[.bool ny,.slice ay Dy.length cy] 27).swap
 rw [hAz] at h1
 obtain⟨x9,hx9⟩:∃ z,w.heap.size=z:=⟨_,rfl⟩
 rw [hx9] at h1
 have H1:=Lib.hid h1
 simp only [ivV,hnx,hny,hDx,hDy]
 clear h hi hR hS hP hel hx hy hz hlen hBk hVp hnx hny hDx hDy h1
 go_enter Tryz.func57,Tryz.ntmps57
 go_wp2
 clear hx9
 refine aBW (fun w'=>Has W w' (Hp.blk x9 (.cells #[.bool nx,.slice ax Dx.length cx] 27 (0,0))::Hp.blk (x9+1) (.cells #[.bool ny,.slice ay Dy.length cy] 27 (0,0))::rowI (.slice a E.length c) E::poolI PL::Ps)) ?hasw ?_
 case hasw=>exact H1.out.step (by (repeat first|exact Fr.refl _ _|assumption|apply Fr.n|apply Fr.d|apply Fr.a|refine Fr.s ?_ (.inr (by simp;try omega)) _))
 clear H1
 intro w2 h2
 obtain⟨G,hG,_⟩:=has_mem_new (P:=rowB (.slice sa B.length sc) B) h2 (by simp [HM.out.2.1])
 obtain⟨g,off,rfl,hg,b0,b1⟩:=bvs_cell (Reads.of_owns hG.1) HBK.out
 simp only at b0 b1
 have HVB:=Lib.hid (show ∀ w1,Fr [] w2 w1→BigZ w1 (fun _=>True) (bvV (V,aV,cV)) (V:Int) from fun w1 hf=>in_z' (pool_in (h2.step hf) (by simp [HM.out.2.2]) (List.mem_of_getElem? HBK.out)))
 simp only [bvV] at HVB
 have H2:=Lib.hid h2
 clear h2 hG
 refine wRS [([0,1,2,3,4],[3]),([5,6],[])] (by kernel_rfl) (by kernel_rfl) ?_
 (simp only [wpSegs,pick,Array.getD_eq_getD_getElem?,List.getElem?_toArray,List.getElem?_cons_succ,List.getElem?_cons_zero,Option.getD_some])
 go_wp2_with fail
 refine (RFrom_z (x:=0) (by omega) (by omega)).mono ?_
 rintro e w3 ⟨v3,rfl,hb3,hf3'⟩
 have hf3:Fr [] w2 w3:=Fr.trans0 (by (repeat first|exact Fr.refl _ _|assumption|apply Fr.n|apply Fr.d|apply Fr.a|refine Fr.s ?_ (.inr (by simp;try omega)) _)) hf3'
 have b0:=(hf3.cell (p:=⟨g,_,none⟩) hg (by simp)).trans b0
 have b1:=(hf3.cell (p:=⟨g,_,none⟩) hg (by simp)).trans b1
 have HF3:=Lib.hid hf3
 have HB3:=Lib.hid hb3
 have HCB:=Lib.hid (show w3.rangeAt g (off+k*2) [.bool false,.slice aV (zd (V:Int)).length cV] from fun j v hj=>by
  have:j=0∨j=1∨2≤j:=by omega
  rcases this with rfl|rfl|h2
  ·cases hj;exact b0
  ·cases hj;exact b1
  ·rw [List.getElem?_eq_none (by simpa using h2)] at hj;cases hj)
 clear hf3 hf3' hb3
 go_wp2
 refine Mid.intro ⟨⟨aGR (T:=27) (cs:=[.bool false,.slice aV (zd (V:Int)).length cV]) rfl rfl rfl Tryz.underlying27 rfl (by kernel_rfl) HCB.out rfl,trivial⟩,?_⟩
 go_wp2_with fail
 refine (RCompare_z (HVB.out _ (HF3.out.trans0 (by (repeat first|exact Fr.refl _ _|assumption|apply Fr.n|apply Fr.d|apply Fr.a|refine Fr.s ?_ (.inr (by simp;try omega)) _)))) (HB3.out.fr0 (by (repeat first|exact Fr.refl _ _|assumption|apply Fr.n|apply Fr.d|apply Fr.a|refine Fr.s ?_ (.inr (by simp;try omega)) _))) HVZ.out (zok_int (by omega) (by omega))).mono ?_
 rw [HVP.out,HCM.out]
 rintro e w4 ⟨rfl,hf4⟩
 have H4:=Lib.hid (H2.out.step (HF3.out.trans0 (Fr.trans0 (by (repeat first|exact Fr.refl _ _|assumption|apply Fr.n|apply Fr.d|apply Fr.a|refine Fr.s ?_ (.inr (by simp;try omega)) _)) hf4)))
 clear hf4 HF3 HB3 HCB b0 b1 hg HVB H2
 go_wp2
 refine Mid.intro ⟨trivial,Strict.intro rfl ?_⟩
 obtain⟨G,hG,_⟩:=has_mem_new (P:=refR b s ns) H4.out (by simp [HM.out.1])
 have HK:=Lib.hid (fun w1 (hf:Fr [] w4 w1)=>RKids_calls (RefAt.fr hG hf (by simp)) ((k:Nat):Int))
 rw [HKO.out] at HK
 simp only [kv] at HK
 clear hG
 go_wp2_with fail
 refine (HK.out _ (by (repeat first|exact Fr.refl _ _|assumption|apply Fr.n|apply Fr.d|apply Fr.a|refine Fr.s ?_ (.inr (by simp;try omega)) _))).mono ?_
 rintro e w5 ⟨rfl,hf5⟩
 have h5:=H4.out.step (Fr.trans0 (by (repeat first|exact Fr.refl _ _|assumption|apply Fr.n|apply Fr.d|apply Fr.a|refine Fr.s ?_ (.inr (by simp;try omega)) _)) hf5)
 have H5:=Lib.hid h5
 clear hf5 h5 HK H4
 obtain⟨G,hG,_⟩:=has_mem_new (P:=refR b s ns) H5.out (by simp [HM.out.1])
 have HLC:=Lib.hid (fun w1 (hf:Fr [] w5 w1)=>RLevel_calls (RefAt.fr hG hf (by simp)) ((k:Nat):Int))
 rw [HLV.out] at HLC
 have h6:=hAL H5.out #[.int .i64 K.a,.int .i64 K.b,.int .i64 K.c,.int .i64 K.d] 81
 obtain⟨x13,hx13⟩:∃ z,w5.heap.size=z:=⟨_,rfl⟩
 rw [hx13] at h6
 have H6:=Lib.hid h6
 clear hG h6 H5
 go_wp2_with fail
 refine (HLC.out _ (by (repeat first|exact Fr.refl _ _|assumption|apply Fr.n|apply Fr.d|apply Fr.a|refine Fr.s ?_ (.inr (by simp;try omega)) _))).mono ?_
 rintro e w6 ⟨rfl,hf6⟩
 have H7:=Lib.hid (H6.out.step (Fr.trans0 (by (repeat first|exact Fr.refl _ _|assumption|apply Fr.n|apply Fr.d|apply Fr.a|refine Fr.s ?_ (.inr (by simp;try omega)) _)) hf6))
 clear hf6 H6 HLC hx13
 go_wp2_with fail
 refine (Rpower_h (H7.out.step (by (repeat first|exact Fr.refl _ _|assumption|apply Fr.n|apply Fr.d|apply Fr.a|refine Fr.s ?_ (.inr (by simp;try omega)) _))) (n:=n) (by omega)).mono ?_
 rintro e w7 ⟨ha,hc,rfl,h8⟩
 obtain⟨H,hH⟩:∃ H,2 ^ n=H:=⟨_,rfl⟩
 have HH:=Lib.hid hH
 rw [hH] at h8 ⊢
 have h9:=hAL h8 #[.bool false,.slice ha (zd (H:Int)).length hc] 27
 obtain⟨x15,hx15⟩:∃ z,w7.heap.size=z:=⟨_,rfl⟩
 rw [hx15] at h9
 have h9:=h9.ord 7 [5,6,3,4,2,0,1]
 simp only [List.filterMap_cons,List.filterMap_nil,List.getElem?_cons_zero,List.getElem?_cons_succ,List.drop_succ_cons,List.drop_zero,List.cons_append,List.nil_append] at h9
 have H9:=Lib.hid h9
 clear h8 h9 hH H7
 go_wp2
 clear hx15
 have HZH:=Lib.hid (show Zok (H:Int) from by rw [← HH.out];exact zok_pow (by omega))
 have HIV:=Lib.hid (show ivV (X,ax,cx)=.agg #[.bool nx,.slice ax Dx.length cx]∧ivV (Y,ay,cy)=.agg #[.bool ny,.slice ay Dy.length cy] from by
  obtain⟨h1,h2,h3,h4⟩:=HND.out
  simp only [ivV,h1,h2,h3,h4]
  exact⟨trivial,trivial⟩)
 have HPW:=Lib.hid (show 2 ^ (n+1)=H+H from by rw [Nat.pow_succ,HH.out];omega)
 have HS0:=Lib.hid (show CSt W _ E PL (cpre n t X Y 0) a c E PL (Hp.blk x9 (.cells #[.bool nx,.slice ax Dx.length cx] 27 (0,0))::Hp.blk (x9+1) (.cells #[.bool ny,.slice ay Dy.length cy] 27 (0,0))::Hp.blk x13 (.cells #[.int .i64 K.a,.int .i64 K.b,.int .i64 K.c,.int .i64 K.d] 81 (0,0))::Hp.blk x15 (.cells #[.bool false,.slice ha (zd (H:Int)).length hc] 27 (0,0))::bigR false (zd (H:Int)) ha hc::Ps) from ⟨by simp [cpre],HE.out.1,fun z hz=>hz,H9.out⟩)
 go_loopw [5,16] (fun x5 x16 wr=>∃ (v:Value) (z:Int),(v=x5∧x16=.int .i64 z)∧At5 (fun q=>∃ (a2:Option Addr) (c2:Nat) (E2:List SI) (PL2:List IV),v=.slice a2 E2.length c2∧CSt W wr E PL (cpre n t X Y q) a2 c2 E2 PL2 (Hp.blk x9 (.cells #[.bool nx,.slice ax Dx.length cx] 27 (0,0))::Hp.blk (x9+1) (.cells #[.bool ny,.slice ay Dy.length cy] 27 (0,0))::Hp.blk x13 (.cells #[.int .i64 K.a,.int .i64 K.b,.int .i64 K.c,.int .i64 K.d] 81 (0,0))::Hp.blk x15 (.cells #[.bool false,.slice ha (zd (H:Int)).length hc] 27 (0,0))::bigR false (zd (H:Int)) ha hc::Ps)) z) (fun _ x _=>4 - (intOf x).toNat)
 case atStart=>exact⟨_,0,⟨rfl,rfl⟩,.inl ⟨rfl,a,c,E,PL,rfl,HS0.out⟩⟩
 case round =>
  obtain⟨v5,z,⟨rfl,rfl⟩,hz⟩:=hrel
  clear H9 HS0
  rcases hz with ⟨rfl,hz⟩|⟨rfl,hz⟩|⟨rfl,hz⟩|⟨rfl,hz⟩|⟨rfl,hz⟩
  ·
   obtain⟨a2,c2,E2,PL2,rfl,hst⟩:=hz
   have HST:=Lib.hid hst
   have h:=hst.has
   have hb:=(h.ord 4 [2]).blk
   have r0:=hEC hb 0
   have r1:=hEC hb 1
   have rl:=lBk hb
   have hb:=(h.ord 4 [3]).blk
   have s0:=hEC hb 0
   have s1:=hEC hb 1
   have sl:=lBk hb
   clear hb
   obtain⟨x17,hx17⟩:∃ z,wr.heap.size=z:=⟨_,rfl⟩
   have HX17:=Lib.hid hx17
   have HFA:=Lib.hid (show Has W ((wr.alloc (.cells #[.bool nx,.slice ax Dx.length cx] 27 (0,0))).alloc (.cells #[.bool ny,.slice ay Dy.length cy] 27 (0,0))) (Hp.blk x17 (.cells #[.bool nx,.slice ax Dx.length cx] 27 (0,0))::Hp.blk (x17+1) (.cells #[.bool ny,.slice ay Dy.length cy] 27 (0,0))::rowI (.slice a2 E2.length c2) E2::poolI PL2::Hp.blk x9 (.cells #[.bool nx,.slice ax Dx.length cx] 27 (0,0))::Hp.blk (x9+1) (.cells #[.bool ny,.slice ay Dy.length cy] 27 (0,0))::Hp.blk x13 (.cells #[.int .i64 K.a,.int .i64 K.b,.int .i64 K.c,.int .i64 K.d] 81 (0,0))::Hp.blk x15 (.cells #[.bool false,.slice ha (zd (H:Int)).length hc] 27 (0,0))::bigR false (zd (H:Int)) ha hc::Ps) from by
    have hA:=hAL (hAL h #[.bool nx,.slice ax Dx.length cx] 27) #[.bool ny,.slice ay Dy.length cy] 27
    rw [hAz,HX17.out] at hA
    exact hA.swap)
   have HFB:=Lib.hid (show Has W ((wr.alloc (.cells #[.bool ny,.slice ay Dy.length cy] 27 (0,0))).alloc (.cells #[.bool nx,.slice ax Dx.length cx] 27 (0,0))) (Hp.blk (x17+1) (.cells #[.bool nx,.slice ax Dx.length cx] 27 (0,0))::Hp.blk x17 (.cells #[.bool ny,.slice ay Dy.length cy] 27 (0,0))::rowI (.slice a2 E2.length c2) E2::poolI PL2::Hp.blk x9 (.cells #[.bool nx,.slice ax Dx.length cx] 27 (0,0))::Hp.blk (x9+1) (.cells #[.bool ny,.slice ay Dy.length cy] 27 (0,0))::Hp.blk x13 (.cells #[.int .i64 K.a,.int .i64 K.b,.int .i64 K.c,.int .i64 K.d] 81 (0,0))::Hp.blk x15 (.cells #[.bool false,.slice ha (zd (H:Int)).length hc] 27 (0,0))::bigR false (zd (H:Int)) ha hc::Ps) from by
    have hA:=hAL (hAL h #[.bool ny,.slice ay Dy.length cy] 27) #[.bool nx,.slice ax Dx.length cx] 27
    rw [hAz,HX17.out] at hA
    exact hA)
   clear hst h
   go_wp2
   have f0:∀ o,(wr.alloc o).cell? ⟨x9,0,none⟩=_:=fun o=>(((Fr.refl [] wr).alloc o).cell (p:=⟨x9,0,none⟩) rl (by simp)).trans r0
   have g0:∀ o o2,((wr.alloc o).alloc o2).cell? ⟨x9,0,none⟩=_:=fun o o2=>((((Fr.refl [] wr).alloc o).alloc o2).cell (p:=⟨x9,0,none⟩) rl (by simp)).trans r0
   have f1:∀ o,(wr.alloc o).cell? ⟨x9,1,none⟩=_:=fun o=>(((Fr.refl [] wr).alloc o).cell (p:=⟨x9,1,none⟩) rl (by simp)).trans r1
   have g1:∀ o o2,((wr.alloc o).alloc o2).cell? ⟨x9,1,none⟩=_:=fun o o2=>((((Fr.refl [] wr).alloc o).alloc o2).cell (p:=⟨x9,1,none⟩) rl (by simp)).trans r1
   have f2:∀ o,(wr.alloc o).cell? ⟨(x9+1),0,none⟩=_:=fun o=>(((Fr.refl [] wr).alloc o).cell (p:=⟨(x9+1),0,none⟩) sl (by simp)).trans s0
   have g2:∀ o o2,((wr.alloc o).alloc o2).cell? ⟨(x9+1),0,none⟩=_:=fun o o2=>((((Fr.refl [] wr).alloc o).alloc o2).cell (p:=⟨(x9+1),0,none⟩) sl (by simp)).trans s0
   have f3:∀ o,(wr.alloc o).cell? ⟨(x9+1),1,none⟩=_:=fun o=>(((Fr.refl [] wr).alloc o).cell (p:=⟨(x9+1),1,none⟩) sl (by simp)).trans s1
   have g3:∀ o o2,((wr.alloc o).alloc o2).cell? ⟨(x9+1),1,none⟩=_:=fun o o2=>((((Fr.refl [] wr).alloc o).alloc o2).cell (p:=⟨(x9+1),1,none⟩) sl (by simp)).trans s1
   go_cut [17,18] (fun s17 s18 wx=>∃ (p q:Nat),s17=.pointer (some ⟨p,0,none⟩)∧s18=.pointer (some ⟨q,0,none⟩)∧Hid (Has W wx (Hp.blk p (.cells #[.bool nx,.slice ax Dx.length cx] 27 (0,0))::Hp.blk q (.cells #[.bool ny,.slice ay Dy.length cy] 27 (0,0))::rowI (.slice a2 E2.length c2) E2::poolI PL2::Hp.blk x9 (.cells #[.bool nx,.slice ax Dx.length cx] 27 (0,0))::Hp.blk (x9+1) (.cells #[.bool ny,.slice ay Dy.length cy] 27 (0,0))::Hp.blk x13 (.cells #[.int .i64 K.a,.int .i64 K.b,.int .i64 K.c,.int .i64 K.d] 81 (0,0))::Hp.blk x15 (.cells #[.bool false,.slice ha (zd (H:Int)).length hc] 27 (0,0))::bigR false (zd (H:Int)) ha hc::Ps)))
   case first =>
    go_region
    all_goals
     go_wp2
     go_meet
     first
      | exact⟨x17,x17+1,rfl,rfl,Lib.hid (HFA.out.step (by (repeat first|exact Fr.refl _ _|assumption|apply Fr.n|apply Fr.d|apply Fr.a|refine Fr.s ?_ (.inr (by simp;try omega)) _)))⟩
      | exact⟨x17+1,x17,rfl,rfl,Lib.hid (HFB.out.step (by (repeat first|exact Fr.refl _ _|assumption|apply Fr.n|apply Fr.d|apply Fr.a|refine Fr.s ?_ (.inr (by simp;try omega)) _)))⟩
   case rest =>
   obtain⟨p17,p18,rfl,rfl,HC⟩:=hcut
   clear r0 r1 rl s0 s1 sl hx17 HX17 HFA HFB f0 f1 f2 f3 g0 g1 g2 g3
   have hb:=HC.out.blk
   have a0:=hEC hb 0
   have a1:=hEC hb 1
   have az0:=hEF hb 0
   have az1:=hEF hb 1
   have al:=lBk hb
   have hb:=HC.out.swap.blk
   have d0:=hEC hb 0
   have d1:=hEC hb 1
   have dz0:=hEF hb 0
   have dz1:=hEF hb 1
   have dl:=lBk hb
   have hb:=(HC.out.ord 8 [7]).blk
   have m0:=hEC hb 0
   have m1:=hEC hb 1
   have ml:=lBk hb
   have hb:=(HC.out.ord 7 [6]).blk
   have n0:_=some (Value.int .i64 (K.get 0)):=hEC hb 0
   have nl:=lBk hb
   clear hb
   go_wp2
   (refine wRT (by kernel_rfl) (by kernel_rfl) ?_)
   go_wp2_with fail
   have hcall:=fun w1 (hf:Fr [] wc w1)=>IH.out w1 _ a2 c2 E2 PL2 (K.get 0) (Tr.q t 0) (X,ax,cx) (Y,ay,cy) ((HC.out.ord 4 [2,3,0,1]).step hf) (by simp [HM.out.1]) (by simp [HM.out.2.1]) (by simp [HM.out.2.2]) (HKD.out 0 (by omega)) (by have h1:=HST.out.len;rw [cpre_len HFU.out (q:=0) (by omega)] at h1;have h2:=HLN.out;have h3:=sumq_mono (t:=t) (q:=0+1) (r:=4) (by omega);have h4:=HSUM.out;have h5:sumq t (0+1)=sumq t 0+popT (Tr.q t 0):=rfl;omega) HST.out.el (HST.out.sub _ HE.out.2.1) (HST.out.sub _ HE.out.2.2) (by have h1:=HZ.out;have h2:=HPW.out;have h3:=HH.out;simp only at h1 ⊢;omega)
   simp only [HIV.out.1,HIV.out.2] at hcall
   have HCALL:=Lib.hid hcall
   clear hcall
   refine (HCALL.out _ (by (repeat first|exact Fr.refl _ _|assumption|apply Fr.n|apply Fr.d|apply Fr.a|refine Fr.s ?_ (.inr (by simp;try omega)) _))).mono ?_
   intro e w9 hpost
   obtain⟨a3,c3,E3,PL3,rfl,hst3⟩:=HST.out.next (fun z hz=>hz) hpost
   have hcq:cpre n t X Y 0++cI n (Tr.q t 0) ((X,ax,cx)).1 ((Y,ay,cy)).1=cpre n t X Y 1:=by
    simp [cpre]
   rw [hcq] at hst3
   have HST3:=Lib.hid (show CSt W w9 E PL (cpre n t X Y 1) a3 c3 E3 PL3 (Hp.blk x9 (.cells #[.bool nx,.slice ax Dx.length cx] 27 (0,0))::Hp.blk (x9+1) (.cells #[.bool ny,.slice ay Dy.length cy] 27 (0,0))::Hp.blk x13 (.cells #[.int .i64 K.a,.int .i64 K.b,.int .i64 K.c,.int .i64 K.d] 81 (0,0))::Hp.blk x15 (.cells #[.bool false,.slice ha (zd (H:Int)).length hc] 27 (0,0))::bigR false (zd (H:Int)) ha hc::Ps) from ⟨hst3.mp,hst3.el,hst3.sub,by
    have h9:=hst3.has.ord 4 [0,1]
    simp only [List.filterMap_cons,List.filterMap_nil,List.getElem?_cons_zero,List.getElem?_cons_succ,List.drop_succ_cons,List.drop_zero,List.cons_append,List.nil_append] at h9
    exact h9⟩)
   clear a0 a1 az0 az1 al d0 d1 dz0 dz1 dl m0 m1 ml n0 nl
   clear hpost hst3 hcq HCALL
   go_wp2
   refine Strict.intro rfl ?_
   go_wp2
   go_roundw
   case rel=>exact⟨_,1,⟨rfl,rfl⟩,.inr (.inl ⟨rfl,a3,c3,E3,PL3,rfl,HST3.out⟩)⟩
   case measure=>simp [intOf]
  ·
   obtain⟨a2,c2,E2,PL2,rfl,hst⟩:=hz
   have HST:=Lib.hid hst
   have h:=hst.has
   have hb:=(h.ord 4 [2]).blk
   have r0:=hEC hb 0
   have r1:=hEC hb 1
   have rl:=lBk hb
   have hb:=(h.ord 4 [3]).blk
   have s0:=hEC hb 0
   have s1:=hEC hb 1
   have sl:=lBk hb
   clear hb
   obtain⟨x17,hx17⟩:∃ z,wr.heap.size=z:=⟨_,rfl⟩
   have HX17:=Lib.hid hx17
   have HFA:=Lib.hid (show Has W ((wr.alloc (.cells #[.bool nx,.slice ax Dx.length cx] 27 (0,0))).alloc (.cells #[.bool ny,.slice ay Dy.length cy] 27 (0,0))) (Hp.blk x17 (.cells #[.bool nx,.slice ax Dx.length cx] 27 (0,0))::Hp.blk (x17+1) (.cells #[.bool ny,.slice ay Dy.length cy] 27 (0,0))::rowI (.slice a2 E2.length c2) E2::poolI PL2::Hp.blk x9 (.cells #[.bool nx,.slice ax Dx.length cx] 27 (0,0))::Hp.blk (x9+1) (.cells #[.bool ny,.slice ay Dy.length cy] 27 (0,0))::Hp.blk x13 (.cells #[.int .i64 K.a,.int .i64 K.b,.int .i64 K.c,.int .i64 K.d] 81 (0,0))::Hp.blk x15 (.cells #[.bool false,.slice ha (zd (H:Int)).length hc] 27 (0,0))::bigR false (zd (H:Int)) ha hc::Ps) from by
    have hA:=hAL (hAL h #[.bool nx,.slice ax Dx.length cx] 27) #[.bool ny,.slice ay Dy.length cy] 27
    rw [hAz,HX17.out] at hA
    exact hA.swap)
   have HFB:=Lib.hid (show Has W ((wr.alloc (.cells #[.bool ny,.slice ay Dy.length cy] 27 (0,0))).alloc (.cells #[.bool nx,.slice ax Dx.length cx] 27 (0,0))) (Hp.blk (x17+1) (.cells #[.bool nx,.slice ax Dx.length cx] 27 (0,0))::Hp.blk x17 (.cells #[.bool ny,.slice ay Dy.length cy] 27 (0,0))::rowI (.slice a2 E2.length c2) E2::poolI PL2::Hp.blk x9 (.cells #[.bool nx,.slice ax Dx.length cx] 27 (0,0))::Hp.blk (x9+1) (.cells #[.bool ny,.slice ay Dy.length cy] 27 (0,0))::Hp.blk x13 (.cells #[.int .i64 K.a,.int .i64 K.b,.int .i64 K.c,.int .i64 K.d] 81 (0,0))::Hp.blk x15 (.cells #[.bool false,.slice ha (zd (H:Int)).length hc] 27 (0,0))::bigR false (zd (H:Int)) ha hc::Ps) from by
    have hA:=hAL (hAL h #[.bool ny,.slice ay Dy.length cy] 27) #[.bool nx,.slice ax Dx.length cx] 27
    rw [hAz,HX17.out] at hA
    exact hA)
   clear hst h
   go_wp2
   have f0:∀ o,(wr.alloc o).cell? ⟨x9,0,none⟩=_:=fun o=>(((Fr.refl [] wr).alloc o).cell (p:=⟨x9,0,none⟩) rl (by simp)).trans r0
   have g0:∀ o o2,((wr.alloc o).alloc o2).cell? ⟨x9,0,none⟩=_:=fun o o2=>((((Fr.refl [] wr).alloc o).alloc o2).cell (p:=⟨x9,0,none⟩) rl (by simp)).trans r0
   have f1:∀ o,(wr.alloc o).cell? ⟨x9,1,none⟩=_:=fun o=>(((Fr.refl [] wr).alloc o).cell (p:=⟨x9,1,none⟩) rl (by simp)).trans r1
   have g1:∀ o o2,((wr.alloc o).alloc o2).cell? ⟨x9,1,none⟩=_:=fun o o2=>((((Fr.refl [] wr).alloc o).alloc o2).cell (p:=⟨x9,1,none⟩) rl (by simp)).trans r1
   have f2:∀ o,(wr.alloc o).cell? ⟨(x9+1),0,none⟩=_:=fun o=>(((Fr.refl [] wr).alloc o).cell (p:=⟨(x9+1),0,none⟩) sl (by simp)).trans s0
   have g2:∀ o o2,((wr.alloc o).alloc o2).cell? ⟨(x9+1),0,none⟩=_:=fun o o2=>((((Fr.refl [] wr).alloc o).alloc o2).cell (p:=⟨(x9+1),0,none⟩) sl (by simp)).trans s0
   have f3:∀ o,(wr.alloc o).cell? ⟨(x9+1),1,none⟩=_:=fun o=>(((Fr.refl [] wr).alloc o).cell (p:=⟨(x9+1),1,none⟩) sl (by simp)).trans s1
   have g3:∀ o o2,((wr.alloc o).alloc o2).cell? ⟨(x9+1),1,none⟩=_:=fun o o2=>((((Fr.refl [] wr).alloc o).alloc o2).cell (p:=⟨(x9+1),1,none⟩) sl (by simp)).trans s1
   go_cut [17,18] (fun s17 s18 wx=>∃ (p q:Nat),s17=.pointer (some ⟨p,0,none⟩)∧s18=.pointer (some ⟨q,0,none⟩)∧Hid (Has W wx (Hp.blk p (.cells #[.bool nx,.slice ax Dx.length cx] 27 (0,0))::Hp.blk q (.cells #[.bool ny,.slice ay Dy.length cy] 27 (0,0))::rowI (.slice a2 E2.length c2) E2::poolI PL2::Hp.blk x9 (.cells #[.bool nx,.slice ax Dx.length cx] 27 (0,0))::Hp.blk (x9+1) (.cells #[.bool ny,.slice ay Dy.length cy] 27 (0,0))::Hp.blk x13 (.cells #[.int .i64 K.a,.int .i64 K.b,.int .i64 K.c,.int .i64 K.d] 81 (0,0))::Hp.blk x15 (.cells #[.bool false,.slice ha (zd (H:Int)).length hc] 27 (0,0))::bigR false (zd (H:Int)) ha hc::Ps)))
   case first =>
    go_region
    all_goals
     go_wp2
     go_meet
     first
      | exact⟨x17,x17+1,rfl,rfl,Lib.hid (HFA.out.step (by (repeat first|exact Fr.refl _ _|assumption|apply Fr.n|apply Fr.d|apply Fr.a|refine Fr.s ?_ (.inr (by simp;try omega)) _)))⟩
      | exact⟨x17+1,x17,rfl,rfl,Lib.hid (HFB.out.step (by (repeat first|exact Fr.refl _ _|assumption|apply Fr.n|apply Fr.d|apply Fr.a|refine Fr.s ?_ (.inr (by simp;try omega)) _)))⟩
   case rest =>
   obtain⟨p17,p18,rfl,rfl,HC⟩:=hcut
   clear r0 r1 rl s0 s1 sl hx17 HX17 HFA HFB f0 f1 f2 f3 g0 g1 g2 g3
   have hb:=HC.out.blk
   have a0:=hEC hb 0
   have a1:=hEC hb 1
   have az0:=hEF hb 0
   have az1:=hEF hb 1
   have al:=lBk hb
   have hb:=HC.out.swap.blk
   have d0:=hEC hb 0
   have d1:=hEC hb 1
   have dz0:=hEF hb 0
   have dz1:=hEF hb 1
   have dl:=lBk hb
   have hb:=(HC.out.ord 8 [7]).blk
   have m0:=hEC hb 0
   have m1:=hEC hb 1
   have ml:=lBk hb
   have hb:=(HC.out.ord 7 [6]).blk
   have n0:_=some (Value.int .i64 (K.get 1)):=hEC hb 1
   have nl:=lBk hb
   clear hb
   have HXB:=Lib.hid (fun w1 (hf:Fr [] wc w1)=>(HIV.out.1▸pooli_in (L:=PL2) (HC.out.step hf) (by simp) ((HST.out.sub _ HE.out.2.1)):BigZ w1 (fun _=>True) (.agg #[.bool nx,.slice ax Dx.length cx]) X))
   have HHB:=Lib.hid (show ∀ w1,Fr [] wc w1→BigZ w1 (fun _=>True) (bvV (H,ha,hc)) (H:Int) from fun w1 hf=>(in_z' (e:=(H,ha,hc)) (big_mem9 (HC.out.step hf) (by simp))))
   simp only [bvV] at HHB
   have HZS:=Lib.hid (show Zok (X+(H:Int))∧Zok X from by
    have h1:=HZ.out
    have h2:=HPW.out
    try simp only at h1
    have h3:=HMM.out
    exact⟨zok_abs (m:=m) (by omega) (by omega),zok_abs (m:=m) (by omega) (by omega)⟩)
   go_wp2_with fail
   refine (RAdd_z (HXB.out _ (by (repeat first|exact Fr.refl _ _|assumption|apply Fr.n|apply Fr.d|apply Fr.a|refine Fr.s ?_ (.inr (by simp;try omega)) _))) (HHB.out _ (by (repeat first|exact Fr.refl _ _|assumption|apply Fr.n|apply Fr.d|apply Fr.a|refine Fr.s ?_ (.inr (by simp;try omega)) _))) HZS.out.2 HZH.out HZS.out.1).mono ?_
   rintro e w8 ⟨v8,rfl,hb8,hf8⟩
   obtain⟨aX,cX,rfl,h8⟩:=has_big (HC.out.step (by (repeat first|exact Fr.refl _ _|assumption|apply Fr.n|apply Fr.d|apply Fr.a|refine Fr.s ?_ (.inr (by simp;try omega)) _))) hf8 hb8 HZS.out.1
   obtain⟨X2,hX2⟩:∃ X2,X+(H:Int)=X2:=⟨_,rfl⟩
   rw [hX2] at h8 ⊢
   have HX2:=Lib.hid hX2
   have h9:=(pooli_add ((h8.ord 10 [0,4,1,2,3,5,6,7,8,9]))).ord 9 [1,2,3,0,4,5,6,7,8]
   simp only [List.filterMap_cons,List.filterMap_nil,List.getElem?_cons_zero,List.getElem?_cons_succ,List.drop_succ_cons,List.drop_zero,List.cons_append,List.nil_append] at h9
   obtain⟨nX,hn2⟩:∃ o,decide (X2<0)=o:=⟨_,rfl⟩
   obtain⟨DX,hD2⟩:∃ o,zd X2=o:=⟨_,rfl⟩
   rw [hn2,hD2]
   have HVX2:=Lib.hid (show ivV (X2,aX,cX)=.agg #[.bool nX,.slice aX DX.length cX] by simp only [ivV,hn2,hD2])
   clear a0 a1 az0 az1 al d0 d1 dz0 dz1 dl m0 m1 ml n0 nl
   have hb:=h9.blk
   have a0:=hEC hb 0
   have a1:=hEC hb 1
   have az0:=hEF hb 0
   have az1:=hEF hb 1
   have al:=lBk hb
   have hb:=h9.swap.blk
   have d0:=hEC hb 0
   have d1:=hEC hb 1
   have dz0:=hEF hb 0
   have dz1:=hEF hb 1
   have dl:=lBk hb
   have hb:=(h9.ord 8 [7]).blk
   have m0:=hEC hb 0
   have m1:=hEC hb 1
   have ml:=lBk hb
   have hb:=(h9.ord 7 [6]).blk
   have n0:_=some (Value.int .i64 (K.get 1)):=hEC hb 1
   have nl:=lBk hb
   clear hb
   have HS8:=Lib.hid ((hST (hST (h9) 0 (.bool nX)) 1 (.slice aX DX.length cX)))
   clear hX2 hn2 hD2 hb8 hf8 h8 h9 HXB HHB HZS
   go_wp2
   refine aBW (fun w'=>Has W w' (Hp.blk p17 (.cells #[.bool nX,.slice aX DX.length cX] 27 (0,0))::Hp.blk p18 (.cells #[.bool ny,.slice ay Dy.length cy] 27 (0,0))::rowI (.slice a2 E2.length c2) E2::poolI ((X2,aX,cX)::PL2)::Hp.blk x9 (.cells #[.bool nx,.slice ax Dx.length cx] 27 (0,0))::Hp.blk (x9+1) (.cells #[.bool ny,.slice ay Dy.length cy] 27 (0,0))::Hp.blk x13 (.cells #[.int .i64 K.a,.int .i64 K.b,.int .i64 K.c,.int .i64 K.d] 81 (0,0))::Hp.blk x15 (.cells #[.bool false,.slice ha (zd (H:Int)).length hc] 27 (0,0))::bigR false (zd (H:Int)) ha hc::Ps)) ?haswX1 ?_
   case haswX1=>exact HS8.out.step (by (repeat first|exact Fr.refl _ _|assumption|apply Fr.n|apply Fr.d|apply Fr.a|refine Fr.s ?_ (.inr (by simp;try omega)) _))
   clear HS8
   clear a0 a1 az0 az1 al d0 d1 dz0 dz1 dl m0 m1 ml n0 nl
   intro wA1 h9
   have hb:=h9.blk
   have a0:=hEC hb 0
   have a1:=hEC hb 1
   have az0:=hEF hb 0
   have az1:=hEF hb 1
   have al:=lBk hb
   have hb:=h9.swap.blk
   have d0:=hEC hb 0
   have d1:=hEC hb 1
   have dz0:=hEF hb 0
   have dz1:=hEF hb 1
   have dl:=lBk hb
   have hb:=(h9.ord 8 [7]).blk
   have m0:=hEC hb 0
   have m1:=hEC hb 1
   have ml:=lBk hb
   have hb:=(h9.ord 7 [6]).blk
   have n0:_=some (Value.int .i64 (K.get 1)):=hEC hb 1
   have nl:=lBk hb
   clear hb
   have HA1:=Lib.hid h9
   clear h9
   go_wp2
   (refine wRT (by kernel_rfl) (by kernel_rfl) ?_)
   go_wp2_with fail
   have hcall:=fun w1 (hf:Fr [] wA1 w1)=>IH.out w1 _ a2 c2 E2 ((X2,aX,cX)::PL2) (K.get 1) (Tr.q t 1) (X2,aX,cX) (Y,ay,cy) ((HA1.out.ord 4 [2,3,0,1]).step hf) (by simp [HM.out.1]) (by simp [HM.out.2.1]) (by simp [HM.out.2.2]) (HKD.out 1 (by omega)) (by have h1:=HST.out.len;rw [cpre_len HFU.out (q:=1) (by omega)] at h1;have h2:=HLN.out;have h3:=sumq_mono (t:=t) (q:=1+1) (r:=4) (by omega);have h4:=HSUM.out;have h5:sumq t (1+1)=sumq t 1+popT (Tr.q t 1):=rfl;omega) (fun e he=>⟨by simp [(HST.out.el e he).1],by simp [(HST.out.el e he).2]⟩) (by simp) (by simp [HST.out.sub _ HE.out.2.2]) (by have h1:=HZ.out;have h2:=HPW.out;have h3:=HH.out;have h4:=HX2.out;simp only at h1 ⊢;omega)
   simp only [HVX2.out,HIV.out.2] at hcall
   have HCALL:=Lib.hid hcall
   clear hcall
   refine (HCALL.out _ (by (repeat first|exact Fr.refl _ _|assumption|apply Fr.n|apply Fr.d|apply Fr.a|refine Fr.s ?_ (.inr (by simp;try omega)) _))).mono ?_
   intro e w9 hpost
   obtain⟨a3,c3,E3,PL3,rfl,hst3⟩:=HST.out.next (fun z hz=>by simp [hz]) hpost
   have hcq:cpre n t X Y 1++cI n (Tr.q t 1) ((X2,aX,cX)).1 ((Y,ay,cy)).1=cpre n t X Y 2:=by
    simp [cpre,HH.out,HX2.out]
   rw [hcq] at hst3
   have HST3:=Lib.hid (show CSt W w9 E PL (cpre n t X Y 2) a3 c3 E3 PL3 (Hp.blk x9 (.cells #[.bool nx,.slice ax Dx.length cx] 27 (0,0))::Hp.blk (x9+1) (.cells #[.bool ny,.slice ay Dy.length cy] 27 (0,0))::Hp.blk x13 (.cells #[.int .i64 K.a,.int .i64 K.b,.int .i64 K.c,.int .i64 K.d] 81 (0,0))::Hp.blk x15 (.cells #[.bool false,.slice ha (zd (H:Int)).length hc] 27 (0,0))::bigR false (zd (H:Int)) ha hc::Ps) from ⟨hst3.mp,hst3.el,hst3.sub,by
    have h9:=hst3.has.ord 4 [0,1]
    simp only [List.filterMap_cons,List.filterMap_nil,List.getElem?_cons_zero,List.getElem?_cons_succ,List.drop_succ_cons,List.drop_zero,List.cons_append,List.nil_append] at h9
    exact h9⟩)
   clear a0 a1 az0 az1 al d0 d1 dz0 dz1 dl m0 m1 ml n0 nl
   clear hpost hst3 hcq HCALL
   go_wp2
   refine Strict.intro rfl ?_
   go_wp2
   go_roundw
   case rel=>exact⟨_,2,⟨rfl,rfl⟩,.inr (.inr (.inl ⟨rfl,a3,c3,E3,PL3,rfl,HST3.out⟩))⟩
   case measure=>simp [intOf]
  ·
   obtain⟨a2,c2,E2,PL2,rfl,hst⟩:=hz
   have HST:=Lib.hid hst
   have h:=hst.has
   have hb:=(h.ord 4 [2]).blk
   have r0:=hEC hb 0
   have r1:=hEC hb 1
   have rl:=lBk hb
   have hb:=(h.ord 4 [3]).blk
   have s0:=hEC hb 0
   have s1:=hEC hb 1
   have sl:=lBk hb
   clear hb
   obtain⟨x17,hx17⟩:∃ z,wr.heap.size=z:=⟨_,rfl⟩
   have HX17:=Lib.hid hx17
   have HFA:=Lib.hid (show Has W ((wr.alloc (.cells #[.bool nx,.slice ax Dx.length cx] 27 (0,0))).alloc (.cells #[.bool ny,.slice ay Dy.length cy] 27 (0,0))) (Hp.blk x17 (.cells #[.bool nx,.slice ax Dx.length cx] 27 (0,0))::Hp.blk (x17+1) (.cells #[.bool ny,.slice ay Dy.length cy] 27 (0,0))::rowI (.slice a2 E2.length c2) E2::poolI PL2::Hp.blk x9 (.cells #[.bool nx,.slice ax Dx.length cx] 27 (0,0))::Hp.blk (x9+1) (.cells #[.bool ny,.slice ay Dy.length cy] 27 (0,0))::Hp.blk x13 (.cells #[.int .i64 K.a,.int .i64 K.b,.int .i64 K.c,.int .i64 K.d] 81 (0,0))::Hp.blk x15 (.cells #[.bool false,.slice ha (zd (H:Int)).length hc] 27 (0,0))::bigR false (zd (H:Int)) ha hc::Ps) from by
    have hA:=hAL (hAL h #[.bool nx,.slice ax Dx.length cx] 27) #[.bool ny,.slice ay Dy.length cy] 27
    rw [hAz,HX17.out] at hA
    exact hA.swap)
   have HFB:=Lib.hid (show Has W ((wr.alloc (.cells #[.bool ny,.slice ay Dy.length cy] 27 (0,0))).alloc (.cells #[.bool nx,.slice ax Dx.length cx] 27 (0,0))) (Hp.blk (x17+1) (.cells #[.bool nx,.slice ax Dx.length cx] 27 (0,0))::Hp.blk x17 (.cells #[.bool ny,.slice ay Dy.length cy] 27 (0,0))::rowI (.slice a2 E2.length c2) E2::poolI PL2::Hp.blk x9 (.cells #[.bool nx,.slice ax Dx.length cx] 27 (0,0))::Hp.blk (x9+1) (.cells #[.bool ny,.slice ay Dy.length cy] 27 (0,0))::Hp.blk x13 (.cells #[.int .i64 K.a,.int .i64 K.b,.int .i64 K.c,.int .i64 K.d] 81 (0,0))::Hp.blk x15 (.cells #[.bool false,.slice ha (zd (H:Int)).length hc] 27 (0,0))::bigR false (zd (H:Int)) ha hc::Ps) from by
    have hA:=hAL (hAL h #[.bool ny,.slice ay Dy.length cy] 27) #[.bool nx,.slice ax Dx.length cx] 27
    rw [hAz,HX17.out] at hA
    exact hA)
   clear hst h
   go_wp2
   have f0:∀ o,(wr.alloc o).cell? ⟨x9,0,none⟩=_:=fun o=>(((Fr.refl [] wr).alloc o).cell (p:=⟨x9,0,none⟩) rl (by simp)).trans r0
   have g0:∀ o o2,((wr.alloc o).alloc o2).cell? ⟨x9,0,none⟩=_:=fun o o2=>((((Fr.refl [] wr).alloc o).alloc o2).cell (p:=⟨x9,0,none⟩) rl (by simp)).trans r0
   have f1:∀ o,(wr.alloc o).cell? ⟨x9,1,none⟩=_:=fun o=>(((Fr.refl [] wr).alloc o).cell (p:=⟨x9,1,none⟩) rl (by simp)).trans r1
   have g1:∀ o o2,((wr.alloc o).alloc o2).cell? ⟨x9,1,none⟩=_:=fun o o2=>((((Fr.refl [] wr).alloc o).alloc o2).cell (p:=⟨x9,1,none⟩) rl (by simp)).trans r1
   have f2:∀ o,(wr.alloc o).cell? ⟨(x9+1),0,none⟩=_:=fun o=>(((Fr.refl [] wr).alloc o).cell (p:=⟨(x9+1),0,none⟩) sl (by simp)).trans s0
   have g2:∀ o o2,((wr.alloc o).alloc o2).cell? ⟨(x9+1),0,none⟩=_:=fun o o2=>((((Fr.refl [] wr).alloc o).alloc o2).cell (p:=⟨(x9+1),0,none⟩) sl (by simp)).trans s0
   have f3:∀ o,(wr.alloc o).cell? ⟨(x9+1),1,none⟩=_:=fun o=>(((Fr.refl [] wr).alloc o).cell (p:=⟨(x9+1),1,none⟩) sl (by simp)).trans s1
   have g3:∀ o o2,((wr.alloc o).alloc o2).cell? ⟨(x9+1),1,none⟩=_:=fun o o2=>((((Fr.refl [] wr).alloc o).alloc o2).cell (p:=⟨(x9+1),1,none⟩) sl (by simp)).trans s1
   go_cut [17,18] (fun s17 s18 wx=>∃ (p q:Nat),s17=.pointer (some ⟨p,0,none⟩)∧s18=.pointer (some ⟨q,0,none⟩)∧Hid (Has W wx (Hp.blk p (.cells #[.bool nx,.slice ax Dx.length cx] 27 (0,0))::Hp.blk q (.cells #[.bool ny,.slice ay Dy.length cy] 27 (0,0))::rowI (.slice a2 E2.length c2) E2::poolI PL2::Hp.blk x9 (.cells #[.bool nx,.slice ax Dx.length cx] 27 (0,0))::Hp.blk (x9+1) (.cells #[.bool ny,.slice ay Dy.length cy] 27 (0,0))::Hp.blk x13 (.cells #[.int .i64 K.a,.int .i64 K.b,.int .i64 K.c,.int .i64 K.d] 81 (0,0))::Hp.blk x15 (.cells #[.bool false,.slice ha (zd (H:Int)).length hc] 27 (0,0))::bigR false (zd (H:Int)) ha hc::Ps)))
   case first =>
    go_region
    all_goals
     go_wp2
     go_meet
     first
      | exact⟨x17,x17+1,rfl,rfl,Lib.hid (HFA.out.step (by (repeat first|exact Fr.refl _ _|assumption|apply Fr.n|apply Fr.d|apply Fr.a|refine Fr.s ?_ (.inr (by simp;try omega)) _)))⟩
      | exact⟨x17+1,x17,rfl,rfl,Lib.hid (HFB.out.step (by (repeat first|exact Fr.refl _ _|assumption|apply Fr.n|apply Fr.d|apply Fr.a|refine Fr.s ?_ (.inr (by simp;try omega)) _)))⟩
   case rest =>
   obtain⟨p17,p18,rfl,rfl,HC⟩:=hcut
   clear r0 r1 rl s0 s1 sl hx17 HX17 HFA HFB f0 f1 f2 f3 g0 g1 g2 g3
   have hb:=HC.out.blk
   have a0:=hEC hb 0
   have a1:=hEC hb 1
   have az0:=hEF hb 0
   have az1:=hEF hb 1
   have al:=lBk hb
   have hb:=HC.out.swap.blk
   have d0:=hEC hb 0
   have d1:=hEC hb 1
   have dz0:=hEF hb 0
   have dz1:=hEF hb 1
   have dl:=lBk hb
   have hb:=(HC.out.ord 8 [7]).blk
   have m0:=hEC hb 0
   have m1:=hEC hb 1
   have ml:=lBk hb
   have hb:=(HC.out.ord 7 [6]).blk
   have n0:_=some (Value.int .i64 (K.get 2)):=hEC hb 2
   have nl:=lBk hb
   clear hb
   have HXB:=Lib.hid (fun w1 (hf:Fr [] wc w1)=>(HIV.out.2▸pooli_in (L:=PL2) (HC.out.step hf) (by simp) ((HST.out.sub _ HE.out.2.2)):BigZ w1 (fun _=>True) (.agg #[.bool ny,.slice ay Dy.length cy]) Y))
   have HHB:=Lib.hid (show ∀ w1,Fr [] wc w1→BigZ w1 (fun _=>True) (bvV (H,ha,hc)) (H:Int) from fun w1 hf=>(in_z' (e:=(H,ha,hc)) (big_mem9 (HC.out.step hf) (by simp))))
   simp only [bvV] at HHB
   have HZS:=Lib.hid (show Zok (Y+(H:Int))∧Zok Y from by
    have h1:=HZ.out
    have h2:=HPW.out
    try simp only at h1
    have h3:=HMM.out
    exact⟨zok_abs (m:=m) (by omega) (by omega),zok_abs (m:=m) (by omega) (by omega)⟩)
   go_wp2_with fail
   refine (RAdd_z (HXB.out _ (by (repeat first|exact Fr.refl _ _|assumption|apply Fr.n|apply Fr.d|apply Fr.a|refine Fr.s ?_ (.inr (by simp;try omega)) _))) (HHB.out _ (by (repeat first|exact Fr.refl _ _|assumption|apply Fr.n|apply Fr.d|apply Fr.a|refine Fr.s ?_ (.inr (by simp;try omega)) _))) HZS.out.2 HZH.out HZS.out.1).mono ?_
   rintro e w8 ⟨v8,rfl,hb8,hf8⟩
   obtain⟨aY,cY,rfl,h8⟩:=has_big (HC.out.step (by (repeat first|exact Fr.refl _ _|assumption|apply Fr.n|apply Fr.d|apply Fr.a|refine Fr.s ?_ (.inr (by simp;try omega)) _))) hf8 hb8 HZS.out.1
   obtain⟨Y2,hX2⟩:∃ X2,Y+(H:Int)=X2:=⟨_,rfl⟩
   rw [hX2] at h8 ⊢
   have HY2:=Lib.hid hX2
   have h9:=(pooli_add ((h8.ord 10 [0,4,1,2,3,5,6,7,8,9]))).ord 9 [1,2,3,0,4,5,6,7,8]
   simp only [List.filterMap_cons,List.filterMap_nil,List.getElem?_cons_zero,List.getElem?_cons_succ,List.drop_succ_cons,List.drop_zero,List.cons_append,List.nil_append] at h9
   obtain⟨nY,hn2⟩:∃ o,decide (Y2<0)=o:=⟨_,rfl⟩
   obtain⟨DY,hD2⟩:∃ o,zd Y2=o:=⟨_,rfl⟩
   rw [hn2,hD2]
   have HVY2:=Lib.hid (show ivV (Y2,aY,cY)=.agg #[.bool nY,.slice aY DY.length cY] by simp only [ivV,hn2,hD2])
   clear a0 a1 az0 az1 al d0 d1 dz0 dz1 dl m0 m1 ml n0 nl
   have hb:=h9.blk
   have a0:=hEC hb 0
   have a1:=hEC hb 1
   have az0:=hEF hb 0
   have az1:=hEF hb 1
   have al:=lBk hb
   have hb:=h9.swap.blk
   have d0:=hEC hb 0
   have d1:=hEC hb 1
   have dz0:=hEF hb 0
   have dz1:=hEF hb 1
   have dl:=lBk hb
   have hb:=(h9.ord 8 [7]).blk
   have m0:=hEC hb 0
   have m1:=hEC hb 1
   have ml:=lBk hb
   have hb:=(h9.ord 7 [6]).blk
   have n0:_=some (Value.int .i64 (K.get 2)):=hEC hb 2
   have nl:=lBk hb
   clear hb
   have HS8:=Lib.hid ((hST (hST (h9.swap) 0 (.bool nY)) 1 (.slice aY DY.length cY)).swap)
   clear hX2 hn2 hD2 hb8 hf8 h8 h9 HXB HHB HZS
   go_wp2
   refine aBW (fun w'=>Has W w' (Hp.blk p17 (.cells #[.bool nx,.slice ax Dx.length cx] 27 (0,0))::Hp.blk p18 (.cells #[.bool nY,.slice aY DY.length cY] 27 (0,0))::rowI (.slice a2 E2.length c2) E2::poolI ((Y2,aY,cY)::PL2)::Hp.blk x9 (.cells #[.bool nx,.slice ax Dx.length cx] 27 (0,0))::Hp.blk (x9+1) (.cells #[.bool ny,.slice ay Dy.length cy] 27 (0,0))::Hp.blk x13 (.cells #[.int .i64 K.a,.int .i64 K.b,.int .i64 K.c,.int .i64 K.d] 81 (0,0))::Hp.blk x15 (.cells #[.bool false,.slice ha (zd (H:Int)).length hc] 27 (0,0))::bigR false (zd (H:Int)) ha hc::Ps)) ?haswY2 ?_
   case haswY2=>exact HS8.out.step (by (repeat first|exact Fr.refl _ _|assumption|apply Fr.n|apply Fr.d|apply Fr.a|refine Fr.s ?_ (.inr (by simp;try omega)) _))
   clear HS8
   clear a0 a1 az0 az1 al d0 d1 dz0 dz1 dl m0 m1 ml n0 nl
   intro wA1 h9
   have hb:=h9.blk
   have a0:=hEC hb 0
   have a1:=hEC hb 1
   have az0:=hEF hb 0
   have az1:=hEF hb 1
   have al:=lBk hb
   have hb:=h9.swap.blk
   have d0:=hEC hb 0
   have d1:=hEC hb 1
   have dz0:=hEF hb 0
   have dz1:=hEF hb 1
   have dl:=lBk hb
   have hb:=(h9.ord 8 [7]).blk
   have m0:=hEC hb 0
   have m1:=hEC hb 1
   have ml:=lBk hb
   have hb:=(h9.ord 7 [6]).blk
   have n0:_=some (Value.int .i64 (K.get 2)):=hEC hb 2
   have nl:=lBk hb
   clear hb
   have HA1:=Lib.hid h9
   clear h9
   go_wp2
   (refine wRT (by kernel_rfl) (by kernel_rfl) ?_)
   go_wp2_with fail
   have hcall:=fun w1 (hf:Fr [] wA1 w1)=>IH.out w1 _ a2 c2 E2 ((Y2,aY,cY)::PL2) (K.get 2) (Tr.q t 2) (X,ax,cx) (Y2,aY,cY) ((HA1.out.ord 4 [2,3,0,1]).step hf) (by simp [HM.out.1]) (by simp [HM.out.2.1]) (by simp [HM.out.2.2]) (HKD.out 2 (by omega)) (by have h1:=HST.out.len;rw [cpre_len HFU.out (q:=2) (by omega)] at h1;have h2:=HLN.out;have h3:=sumq_mono (t:=t) (q:=2+1) (r:=4) (by omega);have h4:=HSUM.out;have h5:sumq t (2+1)=sumq t 2+popT (Tr.q t 2):=rfl;omega) (fun e he=>⟨by simp [(HST.out.el e he).1],by simp [(HST.out.el e he).2]⟩) (by simp [HST.out.sub _ HE.out.2.1]) (by simp) (by have h1:=HZ.out;have h2:=HPW.out;have h3:=HH.out;have h4:=HY2.out;simp only at h1 ⊢;omega)
   simp only [HIV.out.1,HVY2.out] at hcall
   have HCALL:=Lib.hid hcall
   clear hcall
   refine (HCALL.out _ (by (repeat first|exact Fr.refl _ _|assumption|apply Fr.n|apply Fr.d|apply Fr.a|refine Fr.s ?_ (.inr (by simp;try omega)) _))).mono ?_
   intro e w9 hpost
   obtain⟨a3,c3,E3,PL3,rfl,hst3⟩:=HST.out.next (fun z hz=>by simp [hz]) hpost
   have hcq:cpre n t X Y 2++cI n (Tr.q t 2) ((X,ax,cx)).1 ((Y2,aY,cY)).1=cpre n t X Y 3:=by
    simp [cpre,HH.out,HY2.out]
   rw [hcq] at hst3
   have HST3:=Lib.hid (show CSt W w9 E PL (cpre n t X Y 3) a3 c3 E3 PL3 (Hp.blk x9 (.cells #[.bool nx,.slice ax Dx.length cx] 27 (0,0))::Hp.blk (x9+1) (.cells #[.bool ny,.slice ay Dy.length cy] 27 (0,0))::Hp.blk x13 (.cells #[.int .i64 K.a,.int .i64 K.b,.int .i64 K.c,.int .i64 K.d] 81 (0,0))::Hp.blk x15 (.cells #[.bool false,.slice ha (zd (H:Int)).length hc] 27 (0,0))::bigR false (zd (H:Int)) ha hc::Ps) from ⟨hst3.mp,hst3.el,hst3.sub,by
    have h9:=hst3.has.ord 4 [0,1]
    simp only [List.filterMap_cons,List.filterMap_nil,List.getElem?_cons_zero,List.getElem?_cons_succ,List.drop_succ_cons,List.drop_zero,List.cons_append,List.nil_append] at h9
    exact h9⟩)
   clear a0 a1 az0 az1 al d0 d1 dz0 dz1 dl m0 m1 ml n0 nl
   clear hpost hst3 hcq HCALL
   go_wp2
   refine Strict.intro rfl ?_
   go_wp2
   go_roundw
   case rel=>exact⟨_,3,⟨rfl,rfl⟩,.inr (.inr (.inr (.inl ⟨rfl,a3,c3,E3,PL3,rfl,HST3.out⟩)))⟩
   case measure=>simp [intOf]
  ·
   obtain⟨a2,c2,E2,PL2,rfl,hst⟩:=hz
   have HST:=Lib.hid hst
   have h:=hst.has
   have hb:=(h.ord 4 [2]).blk
   have r0:=hEC hb 0
   have r1:=hEC hb 1
   have rl:=lBk hb
   have hb:=(h.ord 4 [3]).blk
   have s0:=hEC hb 0
   have s1:=hEC hb 1
   have sl:=lBk hb
   clear hb
   obtain⟨x17,hx17⟩:∃ z,wr.heap.size=z:=⟨_,rfl⟩
   have HX17:=Lib.hid hx17
   have HFA:=Lib.hid (show Has W ((wr.alloc (.cells #[.bool nx,.slice ax Dx.length cx] 27 (0,0))).alloc (.cells #[.bool ny,.slice ay Dy.length cy] 27 (0,0))) (Hp.blk x17 (.cells #[.bool nx,.slice ax Dx.length cx] 27 (0,0))::Hp.blk (x17+1) (.cells #[.bool ny,.slice ay Dy.length cy] 27 (0,0))::rowI (.slice a2 E2.length c2) E2::poolI PL2::Hp.blk x9 (.cells #[.bool nx,.slice ax Dx.length cx] 27 (0,0))::Hp.blk (x9+1) (.cells #[.bool ny,.slice ay Dy.length cy] 27 (0,0))::Hp.blk x13 (.cells #[.int .i64 K.a,.int .i64 K.b,.int .i64 K.c,.int .i64 K.d] 81 (0,0))::Hp.blk x15 (.cells #[.bool false,.slice ha (zd (H:Int)).length hc] 27 (0,0))::bigR false (zd (H:Int)) ha hc::Ps) from by
    have hA:=hAL (hAL h #[.bool nx,.slice ax Dx.length cx] 27) #[.bool ny,.slice ay Dy.length cy] 27
    rw [hAz,HX17.out] at hA
    exact hA.swap)
   have HFB:=Lib.hid (show Has W ((wr.alloc (.cells #[.bool ny,.slice ay Dy.length cy] 27 (0,0))).alloc (.cells #[.bool nx,.slice ax Dx.length cx] 27 (0,0))) (Hp.blk (x17+1) (.cells #[.bool nx,.slice ax Dx.length cx] 27 (0,0))::Hp.blk x17 (.cells #[.bool ny,.slice ay Dy.length cy] 27 (0,0))::rowI (.slice a2 E2.length c2) E2::poolI PL2::Hp.blk x9 (.cells #[.bool nx,.slice ax Dx.length cx] 27 (0,0))::Hp.blk (x9+1) (.cells #[.bool ny,.slice ay Dy.length cy] 27 (0,0))::Hp.blk x13 (.cells #[.int .i64 K.a,.int .i64 K.b,.int .i64 K.c,.int .i64 K.d] 81 (0,0))::Hp.blk x15 (.cells #[.bool false,.slice ha (zd (H:Int)).length hc] 27 (0,0))::bigR false (zd (H:Int)) ha hc::Ps) from by
    have hA:=hAL (hAL h #[.bool ny,.slice ay Dy.length cy] 27) #[.bool nx,.slice ax Dx.length cx] 27
    rw [hAz,HX17.out] at hA
    exact hA)
   clear hst h
   go_wp2
   have f0:∀ o,(wr.alloc o).cell? ⟨x9,0,none⟩=_:=fun o=>(((Fr.refl [] wr).alloc o).cell (p:=⟨x9,0,none⟩) rl (by simp)).trans r0
   have g0:∀ o o2,((wr.alloc o).alloc o2).cell? ⟨x9,0,none⟩=_:=fun o o2=>((((Fr.refl [] wr).alloc o).alloc o2).cell (p:=⟨x9,0,none⟩) rl (by simp)).trans r0
   have f1:∀ o,(wr.alloc o).cell? ⟨x9,1,none⟩=_:=fun o=>(((Fr.refl [] wr).alloc o).cell (p:=⟨x9,1,none⟩) rl (by simp)).trans r1
   have g1:∀ o o2,((wr.alloc o).alloc o2).cell? ⟨x9,1,none⟩=_:=fun o o2=>((((Fr.refl [] wr).alloc o).alloc o2).cell (p:=⟨x9,1,none⟩) rl (by simp)).trans r1
   have f2:∀ o,(wr.alloc o).cell? ⟨(x9+1),0,none⟩=_:=fun o=>(((Fr.refl [] wr).alloc o).cell (p:=⟨(x9+1),0,none⟩) sl (by simp)).trans s0
   have g2:∀ o o2,((wr.alloc o).alloc o2).cell? ⟨(x9+1),0,none⟩=_:=fun o o2=>((((Fr.refl [] wr).alloc o).alloc o2).cell (p:=⟨(x9+1),0,none⟩) sl (by simp)).trans s0
   have f3:∀ o,(wr.alloc o).cell? ⟨(x9+1),1,none⟩=_:=fun o=>(((Fr.refl [] wr).alloc o).cell (p:=⟨(x9+1),1,none⟩) sl (by simp)).trans s1
   have g3:∀ o o2,((wr.alloc o).alloc o2).cell? ⟨(x9+1),1,none⟩=_:=fun o o2=>((((Fr.refl [] wr).alloc o).alloc o2).cell (p:=⟨(x9+1),1,none⟩) sl (by simp)).trans s1
   go_cut [17,18] (fun s17 s18 wx=>∃ (p q:Nat),s17=.pointer (some ⟨p,0,none⟩)∧s18=.pointer (some ⟨q,0,none⟩)∧Hid (Has W wx (Hp.blk p (.cells #[.bool nx,.slice ax Dx.length cx] 27 (0,0))::Hp.blk q (.cells #[.bool ny,.slice ay Dy.length cy] 27 (0,0))::rowI (.slice a2 E2.length c2) E2::poolI PL2::Hp.blk x9 (.cells #[.bool nx,.slice ax Dx.length cx] 27 (0,0))::Hp.blk (x9+1) (.cells #[.bool ny,.slice ay Dy.length cy] 27 (0,0))::Hp.blk x13 (.cells #[.int .i64 K.a,.int .i64 K.b,.int .i64 K.c,.int .i64 K.d] 81 (0,0))::Hp.blk x15 (.cells #[.bool false,.slice ha (zd (H:Int)).length hc] 27 (0,0))::bigR false (zd (H:Int)) ha hc::Ps)))
   case first =>
    go_region
    all_goals
     go_wp2
     go_meet
     first
      | exact⟨x17,x17+1,rfl,rfl,Lib.hid (HFA.out.step (by (repeat first|exact Fr.refl _ _|assumption|apply Fr.n|apply Fr.d|apply Fr.a|refine Fr.s ?_ (.inr (by simp;try omega)) _)))⟩
      | exact⟨x17+1,x17,rfl,rfl,Lib.hid (HFB.out.step (by (repeat first|exact Fr.refl _ _|assumption|apply Fr.n|apply Fr.d|apply Fr.a|refine Fr.s ?_ (.inr (by simp;try omega)) _)))⟩
   case rest =>
   obtain⟨p17,p18,rfl,rfl,HC⟩:=hcut
   clear r0 r1 rl s0 s1 sl hx17 HX17 HFA HFB f0 f1 f2 f3 g0 g1 g2 g3
   have hb:=HC.out.blk
   have a0:=hEC hb 0
   have a1:=hEC hb 1
   have az0:=hEF hb 0
   have az1:=hEF hb 1
   have al:=lBk hb
   have hb:=HC.out.swap.blk
   have d0:=hEC hb 0
   have d1:=hEC hb 1
   have dz0:=hEF hb 0
   have dz1:=hEF hb 1
   have dl:=lBk hb
   have hb:=(HC.out.ord 8 [7]).blk
   have m0:=hEC hb 0
   have m1:=hEC hb 1
   have ml:=lBk hb
   have hb:=(HC.out.ord 7 [6]).blk
   have n0:_=some (Value.int .i64 (K.get 3)):=hEC hb 3
   have nl:=lBk hb
   clear hb
   have HXB:=Lib.hid (fun w1 (hf:Fr [] wc w1)=>(HIV.out.1▸pooli_in (L:=PL2) (HC.out.step hf) (by simp) ((HST.out.sub _ HE.out.2.1)):BigZ w1 (fun _=>True) (.agg #[.bool nx,.slice ax Dx.length cx]) X))
   have HHB:=Lib.hid (show ∀ w1,Fr [] wc w1→BigZ w1 (fun _=>True) (bvV (H,ha,hc)) (H:Int) from fun w1 hf=>(in_z' (e:=(H,ha,hc)) (big_mem9 (HC.out.step hf) (by simp))))
   simp only [bvV] at HHB
   have HZS:=Lib.hid (show Zok (X+(H:Int))∧Zok X from by
    have h1:=HZ.out
    have h2:=HPW.out
    try simp only at h1
    have h3:=HMM.out
    exact⟨zok_abs (m:=m) (by omega) (by omega),zok_abs (m:=m) (by omega) (by omega)⟩)
   go_wp2_with fail
   refine (RAdd_z (HXB.out _ (by (repeat first|exact Fr.refl _ _|assumption|apply Fr.n|apply Fr.d|apply Fr.a|refine Fr.s ?_ (.inr (by simp;try omega)) _))) (HHB.out _ (by (repeat first|exact Fr.refl _ _|assumption|apply Fr.n|apply Fr.d|apply Fr.a|refine Fr.s ?_ (.inr (by simp;try omega)) _))) HZS.out.2 HZH.out HZS.out.1).mono ?_
   rintro e w8 ⟨v8,rfl,hb8,hf8⟩
   obtain⟨aX,cX,rfl,h8⟩:=has_big (HC.out.step (by (repeat first|exact Fr.refl _ _|assumption|apply Fr.n|apply Fr.d|apply Fr.a|refine Fr.s ?_ (.inr (by simp;try omega)) _))) hf8 hb8 HZS.out.1
   obtain⟨X2,hX2⟩:∃ X2,X+(H:Int)=X2:=⟨_,rfl⟩
   rw [hX2] at h8 ⊢
   have HX2:=Lib.hid hX2
   have h9:=(pooli_add ((h8.ord 10 [0,4,1,2,3,5,6,7,8,9]))).ord 9 [1,2,3,0,4,5,6,7,8]
   simp only [List.filterMap_cons,List.filterMap_nil,List.getElem?_cons_zero,List.getElem?_cons_succ,List.drop_succ_cons,List.drop_zero,List.cons_append,List.nil_append] at h9
   obtain⟨nX,hn2⟩:∃ o,decide (X2<0)=o:=⟨_,rfl⟩
   obtain⟨DX,hD2⟩:∃ o,zd X2=o:=⟨_,rfl⟩
   rw [hn2,hD2]
   have HVX2:=Lib.hid (show ivV (X2,aX,cX)=.agg #[.bool nX,.slice aX DX.length cX] by simp only [ivV,hn2,hD2])
   clear a0 a1 az0 az1 al d0 d1 dz0 dz1 dl m0 m1 ml n0 nl
   have hb:=h9.blk
   have a0:=hEC hb 0
   have a1:=hEC hb 1
   have az0:=hEF hb 0
   have az1:=hEF hb 1
   have al:=lBk hb
   have hb:=h9.swap.blk
   have d0:=hEC hb 0
   have d1:=hEC hb 1
   have dz0:=hEF hb 0
   have dz1:=hEF hb 1
   have dl:=lBk hb
   have hb:=(h9.ord 8 [7]).blk
   have m0:=hEC hb 0
   have m1:=hEC hb 1
   have ml:=lBk hb
   have hb:=(h9.ord 7 [6]).blk
   have n0:_=some (Value.int .i64 (K.get 3)):=hEC hb 3
   have nl:=lBk hb
   clear hb
   have HS8:=Lib.hid ((hST (hST (h9) 0 (.bool nX)) 1 (.slice aX DX.length cX)))
   clear hX2 hn2 hD2 hb8 hf8 h8 h9 HXB HHB HZS
   go_upto_region 13 with fail
   refine aBW (fun w'=>Has W w' (Hp.blk p17 (.cells #[.bool nX,.slice aX DX.length cX] 27 (0,0))::Hp.blk p18 (.cells #[.bool ny,.slice ay Dy.length cy] 27 (0,0))::rowI (.slice a2 E2.length c2) E2::poolI ((X2,aX,cX)::PL2)::Hp.blk x9 (.cells #[.bool nx,.slice ax Dx.length cx] 27 (0,0))::Hp.blk (x9+1) (.cells #[.bool ny,.slice ay Dy.length cy] 27 (0,0))::Hp.blk x13 (.cells #[.int .i64 K.a,.int .i64 K.b,.int .i64 K.c,.int .i64 K.d] 81 (0,0))::Hp.blk x15 (.cells #[.bool false,.slice ha (zd (H:Int)).length hc] 27 (0,0))::bigR false (zd (H:Int)) ha hc::Ps)) ?haswX3 ?_
   case haswX3=>exact HS8.out.step (by (repeat first|exact Fr.refl _ _|assumption|apply Fr.n|apply Fr.d|apply Fr.a|refine Fr.s ?_ (.inr (by simp;try omega)) _))
   clear HS8
   clear a0 a1 az0 az1 al d0 d1 dz0 dz1 dl m0 m1 ml n0 nl
   intro wA1 h9
   have hb:=h9.blk
   have a0:=hEC hb 0
   have a1:=hEC hb 1
   have az0:=hEF hb 0
   have az1:=hEF hb 1
   have al:=lBk hb
   have hb:=h9.swap.blk
   have d0:=hEC hb 0
   have d1:=hEC hb 1
   have dz0:=hEF hb 0
   have dz1:=hEF hb 1
   have dl:=lBk hb
   have hb:=(h9.ord 8 [7]).blk
   have m0:=hEC hb 0
   have m1:=hEC hb 1
   have ml:=lBk hb
   have hb:=(h9.ord 7 [6]).blk
   have n0:_=some (Value.int .i64 (K.get 3)):=hEC hb 3
   have nl:=lBk hb
   clear hb
   have HA1:=Lib.hid h9
   clear h9
   have HXB:=Lib.hid (fun w1 (hf:Fr [] wA1 w1)=>(HIV.out.2▸pooli_in (L:=((X2,aX,cX)::PL2)) (HA1.out.step hf) (by simp) ((by simp [HST.out.sub _ HE.out.2.2])):BigZ w1 (fun _=>True) (.agg #[.bool ny,.slice ay Dy.length cy]) Y))
   have HHB:=Lib.hid (show ∀ w1,Fr [] wA1 w1→BigZ w1 (fun _=>True) (bvV (H,ha,hc)) (H:Int) from fun w1 hf=>(in_z' (e:=(H,ha,hc)) (big_mem9 (HA1.out.step hf) (by simp))))
   simp only [bvV] at HHB
   have HZS:=Lib.hid (show Zok (Y+(H:Int))∧Zok Y from by
    have h1:=HZ.out
    have h2:=HPW.out
    try simp only at h1
    have h3:=HMM.out
    exact⟨zok_abs (m:=m) (by omega) (by omega),zok_abs (m:=m) (by omega) (by omega)⟩)
   go_wp2_with fail
   refine (RAdd_z (HXB.out _ (by (repeat first|exact Fr.refl _ _|assumption|apply Fr.n|apply Fr.d|apply Fr.a|refine Fr.s ?_ (.inr (by simp;try omega)) _))) (HHB.out _ (by (repeat first|exact Fr.refl _ _|assumption|apply Fr.n|apply Fr.d|apply Fr.a|refine Fr.s ?_ (.inr (by simp;try omega)) _))) HZS.out.2 HZH.out HZS.out.1).mono ?_
   rintro e w8 ⟨v8,rfl,hb8,hf8⟩
   obtain⟨aY,cY,rfl,h8⟩:=has_big (HA1.out.step (by (repeat first|exact Fr.refl _ _|assumption|apply Fr.n|apply Fr.d|apply Fr.a|refine Fr.s ?_ (.inr (by simp;try omega)) _))) hf8 hb8 HZS.out.1
   obtain⟨Y2,hX2⟩:∃ X2,Y+(H:Int)=X2:=⟨_,rfl⟩
   rw [hX2] at h8 ⊢
   have HY2:=Lib.hid hX2
   have h9:=(pooli_add ((h8.ord 10 [0,4,1,2,3,5,6,7,8,9]))).ord 9 [1,2,3,0,4,5,6,7,8]
   simp only [List.filterMap_cons,List.filterMap_nil,List.getElem?_cons_zero,List.getElem?_cons_succ,List.drop_succ_cons,List.drop_zero,List.cons_append,List.nil_append] at h9
   obtain⟨nY,hn2⟩:∃ o,decide (Y2<0)=o:=⟨_,rfl⟩
   obtain⟨DY,hD2⟩:∃ o,zd Y2=o:=⟨_,rfl⟩
   rw [hn2,hD2]
   have HVY2:=Lib.hid (show ivV (Y2,aY,cY)=.agg #[.bool nY,.slice aY DY.length cY] by simp only [ivV,hn2,hD2])
   clear a0 a1 az0 az1 al d0 d1 dz0 dz1 dl m0 m1 ml n0 nl
   have hb:=h9.blk
   have a0:=hEC hb 0
   have a1:=hEC hb 1
   have az0:=hEF hb 0
   have az1:=hEF hb 1
   have al:=lBk hb
   have hb:=h9.swap.blk
   have d0:=hEC hb 0
   have d1:=hEC hb 1
   have dz0:=hEF hb 0
   have dz1:=hEF hb 1
   have dl:=lBk hb
   have hb:=(h9.ord 8 [7]).blk
   have m0:=hEC hb 0
   have m1:=hEC hb 1
   have ml:=lBk hb
   have hb:=(h9.ord 7 [6]).blk
   have n0:_=some (Value.int .i64 (K.get 3)):=hEC hb 3
   have nl:=lBk hb
   clear hb
   have HS8:=Lib.hid ((hST (hST (h9.swap) 0 (.bool nY)) 1 (.slice aY DY.length cY)).swap)
   clear hX2 hn2 hD2 hb8 hf8 h8 h9 HXB HHB HZS
   go_wp2
   refine aBW (fun w'=>Has W w' (Hp.blk p17 (.cells #[.bool nX,.slice aX DX.length cX] 27 (0,0))::Hp.blk p18 (.cells #[.bool nY,.slice aY DY.length cY] 27 (0,0))::rowI (.slice a2 E2.length c2) E2::poolI ((Y2,aY,cY)::((X2,aX,cX)::PL2))::Hp.blk x9 (.cells #[.bool nx,.slice ax Dx.length cx] 27 (0,0))::Hp.blk (x9+1) (.cells #[.bool ny,.slice ay Dy.length cy] 27 (0,0))::Hp.blk x13 (.cells #[.int .i64 K.a,.int .i64 K.b,.int .i64 K.c,.int .i64 K.d] 81 (0,0))::Hp.blk x15 (.cells #[.bool false,.slice ha (zd (H:Int)).length hc] 27 (0,0))::bigR false (zd (H:Int)) ha hc::Ps)) ?haswY3 ?_
   case haswY3=>exact HS8.out.step (by (repeat first|exact Fr.refl _ _|assumption|apply Fr.n|apply Fr.d|apply Fr.a|refine Fr.s ?_ (.inr (by simp;try omega)) _))
   clear HS8
   clear a0 a1 az0 az1 al d0 d1 dz0 dz1 dl m0 m1 ml n0 nl
   intro wA2 h9
   have hb:=h9.blk
   have a0:=hEC hb 0
   have a1:=hEC hb 1
   have az0:=hEF hb 0
   have az1:=hEF hb 1
   have al:=lBk hb
   have hb:=h9.swap.blk
   have d0:=hEC hb 0
   have d1:=hEC hb 1
   have dz0:=hEF hb 0
   have dz1:=hEF hb 1
   have dl:=lBk hb
   have hb:=(h9.ord 8 [7]).blk
   have m0:=hEC hb 0
   have m1:=hEC hb 1
   have ml:=lBk hb
   have hb:=(h9.ord 7 [6]).blk
   have n0:_=some (Value.int .i64 (K.get 3)):=hEC hb 3
   have nl:=lBk hb
   clear hb
   have HA2:=Lib.hid h9
   clear h9
   go_wp2
   (refine wRT (by kernel_rfl) (by kernel_rfl) ?_)
   go_wp2_with fail
   have hcall:=fun w1 (hf:Fr [] wA2 w1)=>IH.out w1 _ a2 c2 E2 ((Y2,aY,cY)::(X2,aX,cX)::PL2) (K.get 3) (Tr.q t 3) (X2,aX,cX) (Y2,aY,cY) ((HA2.out.ord 4 [2,3,0,1]).step hf) (by simp [HM.out.1]) (by simp [HM.out.2.1]) (by simp [HM.out.2.2]) (HKD.out 3 (by omega)) (by have h1:=HST.out.len;rw [cpre_len HFU.out (q:=3) (by omega)] at h1;have h2:=HLN.out;have h3:=sumq_mono (t:=t) (q:=3+1) (r:=4) (by omega);have h4:=HSUM.out;have h5:sumq t (3+1)=sumq t 3+popT (Tr.q t 3):=rfl;omega) (fun e he=>⟨by simp [(HST.out.el e he).1],by simp [(HST.out.el e he).2]⟩) (by simp) (by simp) (by have h1:=HZ.out;have h2:=HPW.out;have h3:=HH.out;have h4:=HX2.out;have h5:=HY2.out;simp only at h1 ⊢;omega)
   simp only [HVX2.out,HVY2.out] at hcall
   have HCALL:=Lib.hid hcall
   clear hcall
   refine (HCALL.out _ (by (repeat first|exact Fr.refl _ _|assumption|apply Fr.n|apply Fr.d|apply Fr.a|refine Fr.s ?_ (.inr (by simp;try omega)) _))).mono ?_
   intro e w9 hpost
   obtain⟨a3,c3,E3,PL3,rfl,hst3⟩:=HST.out.next (fun z hz=>by simp [hz]) hpost
   have hcq:cpre n t X Y 3++cI n (Tr.q t 3) ((X2,aX,cX)).1 ((Y2,aY,cY)).1=cpre n t X Y 4:=by
    simp [cpre,HH.out,HX2.out,HY2.out]
   rw [hcq] at hst3
   have HST3:=Lib.hid (show CSt W w9 E PL (cpre n t X Y 4) a3 c3 E3 PL3 (Hp.blk x9 (.cells #[.bool nx,.slice ax Dx.length cx] 27 (0,0))::Hp.blk (x9+1) (.cells #[.bool ny,.slice ay Dy.length cy] 27 (0,0))::Hp.blk x13 (.cells #[.int .i64 K.a,.int .i64 K.b,.int .i64 K.c,.int .i64 K.d] 81 (0,0))::Hp.blk x15 (.cells #[.bool false,.slice ha (zd (H:Int)).length hc] 27 (0,0))::bigR false (zd (H:Int)) ha hc::Ps) from ⟨hst3.mp,hst3.el,hst3.sub,by
    have h9:=hst3.has.ord 4 [0,1]
    simp only [List.filterMap_cons,List.filterMap_nil,List.getElem?_cons_zero,List.getElem?_cons_succ,List.drop_succ_cons,List.drop_zero,List.cons_append,List.nil_append] at h9
    exact h9⟩)
   clear a0 a1 az0 az1 al d0 d1 dz0 dz1 dl m0 m1 ml n0 nl
   clear hpost hst3 hcq HCALL
   go_wp2
   refine Strict.intro rfl ?_
   go_wp2
   go_roundw
   case rel=>exact⟨_,4,⟨rfl,rfl⟩,.inr (.inr (.inr (.inr ⟨rfl,a3,c3,E3,PL3,rfl,HST3.out⟩)))⟩
   case measure=>simp [intOf]
  ·obtain⟨a2,c2,E2,PL2,rfl,hst⟩:=hz
   have HR:=Lib.hid (show CellPost W E PL Ps (cpre n t X Y 4) (.returned (.slice a2 E2.length c2)) wr from ⟨a2,c2,E2,PL2,rfl,⟨hst.mp,hst.el,hst.sub⟩,by
    have h9:=hst.has.ord 7 [0,1]
    simp only [List.filterMap_cons,List.filterMap_nil,List.getElem?_cons_zero,List.getElem?_cons_succ,List.drop_succ_cons,List.drop_zero,List.cons_append,List.nil_append] at h9
    exact h9⟩)
   clear hst
   go_wp2
   go_ret
   exact HR.out
end Go.Proofs.YtdanghnadbkhfaaGreat
end
