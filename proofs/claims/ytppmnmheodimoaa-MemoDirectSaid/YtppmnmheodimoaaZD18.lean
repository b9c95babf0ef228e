/- Own texts of this claim, part 19: no condition. -/
import Derived.Deep.RegionHeld3
import Derived.Deep.DeepCutAuto
import Derived.Test.YtppmnmheodimoaaZD17
import Derived.Test.YtppmnmheodimoaaZD16
section
namespace Go.Proofs.Ytppmnmheodimoaa
open Go Go.RowKit Rg Mp Hp Qs Ev Bn
set_option linter.unusedVariables false
set_option linter.unusedSimpArgs false
theorem cmp_ge {x y:Int}:decide (cmpIY x y ≥ 0)=decide (y≤x):=by
 unfold cmpIY
 rw [decide_eq_decide]
 split
 ·omega
 ·split<;>omega
theorem big_mem9 {W w:World} {Ps:List Res} {neg:Bool} {ds:List Nat} {a:Option Addr} {c:Nat} (h:Has W w Ps) (hm:bigR neg ds a c∈Ps):BigIn w neg ds a c:=by
 obtain⟨G,h1,_⟩:=has_memY h hm
 exact h1
structure PSt (w wr:World) (F:List Nat) (E:List SV) (H k:Nat) (x7:Nat) (ha:Option Addr) (hc:Nat) (i:Nat) (v:Value) (E':List SV) (L:List BV):Prop where
 le:i≤E.length
 mp:E'.map SV.spot=partQ H k ((E.take i).map SV.spot)
 el:∀ e∈E',(BvOff w F e.X∨e.X∈L)∧(BvOff w F e.Y∨e.Y∈L)
 has:Has w wr [Hp.row 117 5 v E'.length (svs E'),poolR L,Hp.blk x7 (.cells #[.bool false,.slice ha (zd (H:Int)).length hc] 114 (0,0)),bigR false (zd (H:Int)) ha hc]
theorem PSt.skip {w wr w2:World} {F:List Nat} {E:List SV} {H k x7:Nat} {ha:Option Addr} {hc i:Nat} {v:Value} {E':List SV} {L:List BV} {e:SV} (h:PSt w wr F E H k x7 ha hc i v E' L) (hp:E[i]?=some e) (hq:quadOf H e.spot≠k)
  (hw:Has w w2 [Hp.row 117 5 v E'.length (svs E'),poolR L,Hp.blk x7 (.cells #[.bool false,.slice ha (zd (H:Int)).length hc] 114 (0,0)),bigR false (zd (H:Int)) ha hc]):PSt w w2 F E H k x7 ha hc (i+1) v E' L :=
 ⟨(List.getElem?_eq_some_iff.1 hp).1,by rw [part_take hp,if_neg hq,List.append_nil];exact h.mp,h.el,hw⟩
theorem PSt.add {w wr w2:World} {F:List Nat} {E:List SV} {H k x7:Nat} {ha:Option Addr} {hc i:Nat} {v v2:Value} {E':List SV} {L L2:List BV} {e e2:SV} (h:PSt w wr F E H k x7 ha hc i v E' L) (hp:E[i]?=some e) (hq:quadOf H e.spot=k) (hs:e2.spot=intoQ H e.spot)
  (hL:∀ x∈L,x∈L2) (he:(BvOff w F e2.X∨e2.X∈L2)∧(BvOff w F e2.Y∨e2.Y∈L2))
  (hw:Has w w2 [Hp.row 117 5 v2 (E'++[e2]).length (svs (E'++[e2])),poolR L2,Hp.blk x7 (.cells #[.bool false,.slice ha (zd (H:Int)).length hc] 114 (0,0)),bigR false (zd (H:Int)) ha hc]):PSt w w2 F E H k x7 ha hc (i+1) v2 (E'++[e2]) L2 :=
 ⟨(
  List.getElem?_eq_some_iff.1 hp).1,by rw [part_take hp,if_pos hq,List.map_append,h.mp,← hs];rfl,fun x hx=>by
  rw [List.mem_append] at hx
  rcases hx with hx|hx
  ·exact⟨(h.el x hx).1.imp_right (hL _),(h.el x hx).2.imp_right (hL _)⟩
  ·rw [List.mem_singleton] at hx;subst hx;exact he,hw⟩
theorem into_eq {H vx vy X Y:Nat} {st:Int} (hx:(H≤vx∧vx=H+X)∨(¬ H≤vx∧vx=X)) (hy:(H≤vy∧vy=H+Y)∨(¬ H≤vy∧vy=Y)):(⟨X,Y,st⟩:Spot)=intoQ H ⟨vx,vy,st⟩:=by
 unfold intoQ
 simp only [Spot.mk.injEq,and_true]
 constructor<;>split<;>omega
theorem quad_iff {H vx vy k:Nat} {st:Int} (hk:k<4):quadOf H ⟨vx,vy,st⟩=k↔(decide (H≤vx)=decide (k % 2=1)∧decide (H≤vy)=decide (2≤k)):=by
 unfold quadOf
 simp only [decide_eq_decide]
 by_cases h1:H≤vx<;>by_cases h2:H≤vy<;>simp only [h1,h2,if_true,if_false,true_iff,false_iff]<;>omega
theorem PSt.len {w wr:World} {F:List Nat} {E:List SV} {H k x7:Nat} {ha:Option Addr} {hc i:Nat} {v:Value} {E':List SV} {L:List BV} (h:PSt w wr F E H k x7 ha hc i v E' L):E'.length≤E.length:=by
 have:=congrArg List.length h.mp
 rw [map_spot_len] at this
 rw [this]
 unfold partQ
 rw [List.length_map]
 refine Nat.le_trans (List.length_filter_le _ _) ?_
 rw [map_spot_len,List.length_take]
 omega
def PartPostY (w:World) (F:List Nat) (E:List SV) (H k:Nat) (e:Ending) (w':World):Prop :=
 ∃ a c E',e=.returned (.slice a (List.length E') c)∧SpAt w' F (.slice a E'.length c) E'∧E'.map SV.spot=partQ H k (E.map SV.spot)∧Fr [] w w'
theorem has_mem_new {W w:World} {P:Res}:∀ {Ps:List Res},Has W w Ps→P∈Ps→∃ G,P.holds w G∧∀ x∈G,W.heap.size≤x:=by
 intro Ps h hm
 obtain⟨As,Bs,rfl⟩:=List.append_of_mem hm
 have h2:Has W w (P::(As++Bs)):=h.perm List.perm_middle
 obtain⟨F,⟨F1,F2,h1,h3,h4,h5,h6⟩,hf,hF⟩:=h2
 exact⟨F1,h1,fun x hx=>hF x (by simp_all)⟩
theorem PSt.done {w wr:World} {F:List Nat} {E:List SV} {H k x7:Nat} {ha:Option Addr} {hc:Nat} {v a:Value} {E':List SV} {L:List BV} (hs:SpAt w F a E) (hF:∀ x∈F,x<w.heap.size) (h:PSt w wr F E H k x7 ha hc E.length v E' L):PartPostY w F E H k (.returned v) wr:=by
 have hw:=h.has
 obtain⟨av,cv,rfl,_,_⟩:=oFM hw.row
 have hpool:∀ e∈L,BvOff wr F e:=fun e he=>by
  obtain⟨G,⟨h1,h2⟩,h3⟩:=has_mem_new (P:=poolR L) hw (by simp)
  exact⟨(h1 e he).1,fun x hx hm=>by have:=h3 x ((h1 e he).2 x hx);have:=hF x hm;omega⟩
 refine⟨av,cv,E',rfl,⟨Reads.of_owns hw.row,fun _ x hx hm=>?_,fun e he=>?_⟩,?_,hw.fr⟩
 ·obtain⟨G,⟨h1,h2⟩,h3⟩:=has_mem_new (P:=Hp.row 117 5 (.slice av E'.length cv) E'.length (svs E')) hw (by simp)
  have:=h3 x (by rw [h2,hx];simp)
  have:=hF x hm
  omega
 ·obtain⟨h1,h2⟩:=h.el e he
  exact⟨h1.elim (fun h=>h.fr hw.fr) (hpool _),h2.elim (fun h=>h.fr hw.fr) (hpool _)⟩
 ·have:=h.mp
  rwa [List.take_length] at this
set_option maxHeartbeats 16000000 in
set_option maxRecDepth 100000 in
theorem Rpart_q {w:World} {F:List Nat} {a:Option Addr} {c:Nat} {E:List SV} (hs:SpAt w F (.slice a E.length c) E) (hF:∀ x∈F,x<w.heap.size) (hlen:E.length≤100000) {n:Nat} (hn:n+1≤256) (hz:∀ e∈E,e.X.1<2 ^ (n+1)∧e.Y.1<2 ^ (n+1)) {k:Nat} (hk:k<4) {K N:Int} (hK:(k:Int)=K) (hN:((n+1:Nat):Int)=N) :
  Calls Try.prog 79 #[.slice a E.length c,.int .i64 N,.int .i64 K] w (PartPostY w F E (2 ^ n) k):=by
 have HS:=Lib.hid hs
 have HF:=Lib.hid hF
 have HZ:=Lib.hid hz
 have HN:=Lib.hid hn
 have HL:=Lib.hid hlen
 have hN1:IntKind.i64.wrap (N - 1)=(n:Nat):=by rw [← hN,show (((n+1:Nat):Int) - 1)=(n:Nat) by omega];exact IntWalk.i64_in _ (by omega)
 obtain⟨H,hH⟩:∃ H,2 ^ n=H:=⟨_,rfl⟩
 have HH:=Lib.hid hH
 rw [hH]
 obtain⟨ko,hko⟩:∃ ko,decide (k % 2=1)=ko:=⟨_,rfl⟩
 obtain⟨ks,hks⟩:∃ ks,decide (2≤k)=ks:=⟨_,rfl⟩
 have hK1:(Int.tmod K 2 == 1)=ko:=by
  rw [← hko,← hK,show (Int.tmod (k:Int) 2 == 1)=decide (Int.tmod (k:Int) 2=1) from rfl,decide_eq_decide]
  have:Int.tmod (k:Int) 2=((k % 2:Nat):Int):=by rw [show (2:Int)=((2:Nat):Int) from rfl,← Int.ofNat_tmod]
  omega
 have hK2:decide (K ≥ 2)=ks:=by rw [← hks,← hK,decide_eq_decide];omega
 have HKO:=Lib.hid (And.intro hko hks)
 have HK:=Lib.hid hk
 obtain⟨m,hm⟩:∃ m,E.length=m:=⟨_,rfl⟩
 rw [hm]
 have HM:=Lib.hid hm
 have hm9:m≤100000:=by rw [← hm];exact hlen
 clear hs hF hz hn hlen hH hko hks hk hK hN hm
 go_enter Try.func79,Try.ntmps79
 go_wp2_with fail
 refine (Rpower_h (Has.nil (Fr.refl [] _)) (n:=n) (by have:=HN.out;omega)).mono ?_
 rw [HH.out]
 rintro e w1 ⟨ha,hc,rfl,h1⟩
 have h2:=hAL h1 #[.bool false,.slice ha (zd (H:Int)).length hc] 114
 have h2:=(pool_nil h2).newRow (T:=117) (size:=5) (Fr.refl [] _) (owns_nil0 _ _ _ _)
 obtain⟨x7,hx7⟩:∃ x,w1.heap.size=x:=⟨_,rfl⟩
 rw [hx7] at h2
 have HP:=Lib.hid (show PSt w _ F E H k x7 ha hc 0 (.slice none 0 0) [] [] from ⟨by omega,by rw [List.take_zero];rfl,by simp,h2⟩)
 clear h1 h2
 go_wp2
 clear hx7
 go_loopw [8,9] (fun x8 x9 wr=>∃ (i:Nat) (v8:Value) (E':List SV) (L:List BV),(v8=x8∧x9=.int .i64 (i:Nat))∧PSt w wr F E H k x7 ha hc i v8 E' L) (fun _ x _=>m - (intOf x).toNat)
 case atStart=>exact⟨0,_,[],[],⟨rfl,rfl⟩,HP.out⟩
 case round =>
  clear HP
  obtain⟨i,v8,E',L,⟨rfl,rfl⟩,hst⟩:=hrel
  have HST:=Lib.hid hst
  have him:i≤m:=by rw [← HM.out];exact hst.le
  clear hst
  by_cases hlt:i<m
  ·obtain⟨⟨⟨vx,ax,cx⟩,⟨vy,ay,cy⟩,st⟩,hp⟩:∃ p,E[i]?=some p:=⟨_,List.getElem?_eq_getElem (by rw [HM.out];exact hlt)⟩
   obtain⟨g,off,rfl,hgl,e0,e1,e2,e3,e4⟩:=svs_cell (HS.out.rd.fr HST.out.has.fr) hp
   simp only at e0 e1 e2 e3 e4
   have HP:=Lib.hid hp
   have hel:=HS.out.el _ (List.mem_of_getElem? hp)
   simp only at hel
   have HEL:=Lib.hid hel
   have hzz:=HZ.out _ (List.mem_of_getElem? hp)
   simp only at hzz
   have HZZ:=Lib.hid hzz
   clear hp hel hzz
   obtain⟨x10,hx10⟩:∃ x,wr.heap.size=x:=⟨_,rfl⟩
   have HX10:=Lib.hid hx10
   have HFA:=Lib.hid (show Has w ((wr.alloc (.cells #[.bool false,.slice ax (zd (vx:Int)).length cx] 114 (0,0))).alloc (.cells #[.bool false,.slice ay (zd (vy:Int)).length cy] 114 (0,0))) (Hp.blk x10 (.cells #[.bool false,.slice ax (zd (vx:Int)).length cx] 114 (0,0))::Hp.blk (x10+1) (.cells #[.bool false,.slice ay (zd (vy:Int)).length cy] 114 (0,0))::Hp.row 117 5 v8 E'.length (svs E')::poolR L::Hp.blk x7 (.cells #[.bool false,.slice ha (zd (H:Int)).length hc] 114 (0,0))::bigR false (zd (H:Int)) ha hc::[]) from by
    have hA:=hAL (hAL HST.out.has #[.bool false,.slice ax (zd (vx:Int)).length cx] 114) #[.bool false,.slice ay (zd (vy:Int)).length cy] 114
    rw [hAz,HX10.out] at hA
    exact hA.swap)
   have HFB:=Lib.hid (show Has w ((wr.alloc (.cells #[.bool false,.slice ay (zd (vy:Int)).length cy] 114 (0,0))).alloc (.cells #[.bool false,.slice ax (zd (vx:Int)).length cx] 114 (0,0))) (Hp.blk (x10+1) (.cells #[.bool false,.slice ax (zd (vx:Int)).length cx] 114 (0,0))::Hp.blk x10 (.cells #[.bool false,.slice ay (zd (vy:Int)).length cy] 114 (0,0))::Hp.row 117 5 v8 E'.length (svs E')::poolR L::Hp.blk x7 (.cells #[.bool false,.slice ha (zd (H:Int)).length hc] 114 (0,0))::bigR false (zd (H:Int)) ha hc::[]) from by
    have hA:=hAL (hAL HST.out.has #[.bool false,.slice ay (zd (vy:Int)).length cy] 114) #[.bool false,.slice ax (zd (vx:Int)).length cx] 114
    rw [hAz,HX10.out] at hA
    exact hA)
   go_wp2
   have f0:∀ o,(wr.alloc o).cell? ⟨g,off+i*5,none⟩=_:=fun o=>(((Fr.refl [] wr).alloc o).cell (p:=⟨g,_,none⟩) hgl (by simp)).trans e0
   have f1:∀ o,(wr.alloc o).cell? ⟨g,off+i*5+1,none⟩=_:=fun o=>(((Fr.refl [] wr).alloc o).cell (p:=⟨g,_,none⟩) hgl (by simp)).trans e1
   have f2:∀ o,(wr.alloc o).cell? ⟨g,off+i*5+2,none⟩=_:=fun o=>(((Fr.refl [] wr).alloc o).cell (p:=⟨g,_,none⟩) hgl (by simp)).trans e2
   have f3:∀ o,(wr.alloc o).cell? ⟨g,off+i*5+3,none⟩=_:=fun o=>(((Fr.refl [] wr).alloc o).cell (p:=⟨g,_,none⟩) hgl (by simp)).trans e3
   have g0:∀ o o2,((wr.alloc o).alloc o2).cell? ⟨g,off+i*5,none⟩=_:=fun o o2=>((((Fr.refl [] wr).alloc o).alloc o2).cell (p:=⟨g,_,none⟩) hgl (by simp)).trans e0
   have g1:∀ o o2,((wr.alloc o).alloc o2).cell? ⟨g,off+i*5+1,none⟩=_:=fun o o2=>((((Fr.refl [] wr).alloc o).alloc o2).cell (p:=⟨g,_,none⟩) hgl (by simp)).trans e1
   have g2:∀ o o2,((wr.alloc o).alloc o2).cell? ⟨g,off+i*5+2,none⟩=_:=fun o o2=>((((Fr.refl [] wr).alloc o).alloc o2).cell (p:=⟨g,_,none⟩) hgl (by simp)).trans e2
   have g3:∀ o o2,((wr.alloc o).alloc o2).cell? ⟨g,off+i*5+3,none⟩=_:=fun o o2=>((((Fr.refl [] wr).alloc o).alloc o2).cell (p:=⟨g,_,none⟩) hgl (by simp)).trans e3
   go_cut [10,11] (fun s10 s11 wx=>∃ (p q:Nat),s10=.pointer (some ⟨p,0,none⟩)∧s11=.pointer (some ⟨q,0,none⟩)∧Hid (Has w wx (Hp.blk p (.cells #[.bool false,.slice ax (zd (vx:Int)).length cx] 114 (0,0))::Hp.blk q (.cells #[.bool false,.slice ay (zd (vy:Int)).length cy] 114 (0,0))::Hp.row 117 5 v8 E'.length (svs E')::poolR L::Hp.blk x7 (.cells #[.bool false,.slice ha (zd (H:Int)).length hc] 114 (0,0))::bigR false (zd (H:Int)) ha hc::[])))
   case first =>
    go_region
    all_goals
     go_wp2
     go_meet
     first
      | exact⟨x10,x10+1,rfl,rfl,Lib.hid (HFA.out.step (by (repeat first|exact Fr.refl _ _|assumption|apply Fr.n|apply Fr.d|apply Fr.a|refine Fr.s ?_ (.inr (by simp;try omega)) _)))⟩
      | exact⟨x10+1,x10,rfl,rfl,Lib.hid (HFB.out.step (by (repeat first|exact Fr.refl _ _|assumption|apply Fr.n|apply Fr.d|apply Fr.a|refine Fr.s ?_ (.inr (by simp;try omega)) _)))⟩
   case rest =>
   obtain⟨p10,p11,rfl,rfl,HCUT⟩:=hcut
   clear e0 e1 e2 e3 e4 hgl hx10 HFA HFB f0 f1 f2 f3 g0 g1 g2 g3
   have h4:=HCUT.out
   clear HCUT
   have hb:=h4.blk
   have a0:=hEC hb 0
   have a1:=hEC hb 1
   have az0:=hEF hb 0
   have az1:=hEF hb 1
   have al:=lBk hb
   have hb:=h4.swap.blk
   have b0:=hEC hb 0
   have b1:=hEC hb 1
   have bz0:=hEF hb 0
   have bz1:=hEF hb 1
   have bl:=lBk hb
   have hb:=h4.ord 5 [4]
   simp only [List.filterMap_cons,List.filterMap_nil,List.getElem?_cons_zero,List.getElem?_cons_succ,List.drop_succ_cons,List.drop_zero,List.cons_append,List.nil_append,List.take_succ_cons,List.take_zero,List.eraseIdx_cons_succ,List.eraseIdx_zero,List.eraseIdx_cons_zero,List.tail_cons,Option.toList_some] at hb
   have hb:=hb.blk
   have c0:=hEC hb 0
   have c1:=hEC hb 1
   have cl:=lBk hb
   clear hb
   have H4:=Lib.hid h4
   have HXB:=Lib.hid (show ∀ w1,Fr [] w w1→BigZ w1 (fun _=>True) (bvV (vx,ax,cx)) (vx:Int) from fun w1 hf=>in_z' (HEL.out.1.1.fr hf))
   have HYB:=Lib.hid (show ∀ w1,Fr [] w w1→BigZ w1 (fun _=>True) (bvV (vy,ay,cy)) (vy:Int) from fun w1 hf=>in_z' (HEL.out.2.1.fr hf))
   have HHB:=Lib.hid (show ∀ w1 Qs,Has w w1 Qs→bigR false (zd (H:Int)) ha hc∈Qs→BigZ w1 (fun _=>True) (bvV (H,ha,hc)) (H:Int) from fun w1 Qs h hm=>in_z' (big_mem9 h hm))
   simp only [bvV] at HXB HYB HHB
   have HZX:=Lib.hid (show Zok (vx:Int)∧Zok (vy:Int)∧Zok (H:Int) from ⟨zok_lt HZZ.out.1 (by have:=HN.out;omega),zok_lt HZZ.out.2 (by have:=HN.out;omega),by rw [← HH.out];exact zok_pow (by have:=HN.out;omega)⟩)
   obtain⟨z0,hz0⟩:∃ z,cmpIY (vx:Int) (H:Int)=z:=⟨_,rfl⟩
   obtain⟨z1,hz1⟩:∃ z,cmpIY (vy:Int) (H:Int)=z:=⟨_,rfl⟩
   have HZ0:=Lib.hid hz0
   have HZ1:=Lib.hid hz1
   obtain⟨eb,hd0⟩:∃ b,decide (z0 ≥ 0)=b:=⟨_,rfl⟩
   obtain⟨sb,hd1⟩:∃ b,decide (z1 ≥ 0)=b:=⟨_,rfl⟩
   have HEB:=Lib.hid (show decide (H≤vx)=eb from by rw [← hd0,← hz0,cmp_ge,decide_eq_decide];omega)
   have HSB:=Lib.hid (show decide (H≤vy)=sb from by rw [← hd1,← hz1,cmp_ge,decide_eq_decide];omega)
   clear h4 hz0 hz1
   go_wp2
   refine wRS [([0,1,4,5,2],[4,5]),([3,6,7,8,9],[])] (by kernel_rfl) (by kernel_rfl) ?_
   (simp only [wpSegs,pick,Array.getD_eq_getD_getElem?,List.getElem?_toArray,List.getElem?_cons_succ,List.getElem?_cons_zero,Option.getD_some])
   go_wp2_with fail
   refine (RCompare_z (HXB.out _ (H4.out.fr.trans0 (by (repeat first|exact Fr.refl _ _|assumption|apply Fr.n|apply Fr.d|apply Fr.a|refine Fr.s ?_ (.inr (by simp;try omega)) _)))) (HHB.out _ _ (H4.out.step (by (repeat first|exact Fr.refl _ _|assumption|apply Fr.n|apply Fr.d|apply Fr.a|refine Fr.s ?_ (.inr (by simp;try omega)) _))) (by simp)) HZX.out.1 HZX.out.2.2).mono ?_
   rw [HZ0.out]
   rintro e w5 ⟨rfl,hf5'⟩
   have hf5:Fr [] wc w5:=Fr.trans0 (by (repeat first|exact Fr.refl _ _|assumption|apply Fr.n|apply Fr.d|apply Fr.a|refine Fr.s ?_ (.inr (by simp;try omega)) _)) hf5'
   clear hf5'
   have h4:=H4.out.step hf5
   clear a0 a1 az0 az1 al b0 b1 bz0 bz1 bl c0 c1 cl
   have hb:=h4.blk
   have a0:=hEC hb 0
   have a1:=hEC hb 1
   have az0:=hEF hb 0
   have az1:=hEF hb 1
   have al:=lBk hb
   have hb:=h4.swap.blk
   have b0:=hEC hb 0
   have b1:=hEC hb 1
   have bz0:=hEF hb 0
   have bz1:=hEF hb 1
   have bl:=lBk hb
   have hb:=h4.ord 5 [4]
   simp only [List.filterMap_cons,List.filterMap_nil,List.getElem?_cons_zero,List.getElem?_cons_succ,List.drop_succ_cons,List.drop_zero,List.cons_append,List.nil_append,List.take_succ_cons,List.take_zero,List.eraseIdx_cons_succ,List.eraseIdx_zero,List.eraseIdx_cons_zero,List.tail_cons,Option.toList_some] at hb
   have hb:=hb.blk
   have c0:=hEC hb 0
   have c1:=hEC hb 1
   have cl:=lBk hb
   clear hb
   have HA:=Lib.hid h4.blk
   have HB:=Lib.hid h4.swap.blk
   have hcb:=h4.ord 5 [4]
   simp only [List.filterMap_cons,List.filterMap_nil,List.getElem?_cons_zero,List.getElem?_cons_succ,List.drop_succ_cons,List.drop_zero,List.cons_append,List.nil_append,List.take_succ_cons,List.take_zero,List.eraseIdx_cons_succ,List.eraseIdx_zero,List.eraseIdx_cons_zero,List.tail_cons,Option.toList_some] at hcb
   have HC:=Lib.hid hcb.blk
   have H5:=Lib.hid h4
   clear h4 hf5 hcb
   go_wp2
   refine Mid.intro ⟨⟨aGR (T:=114) (cs:=[.bool false,.slice ay (zd (vy:Int)).length cy]) rfl rfl rfl Try.underlying114 rfl (by kernel_rfl) (fun j v hj=>?rngA) rfl,⟨aGR (T:=114) (cs:=[.bool false,.slice ha (zd (H:Int)).length hc]) rfl rfl rfl Try.underlying114 rfl (by kernel_rfl) (fun j v hj=>?rngB) rfl,trivial⟩⟩,?_⟩
   case rngA =>
    rw [Nat.zero_add,hEC HB.out,← hj]
    exact (Array.getElem?_toList (xs:=#[Value.bool false,.slice ay (zd (vy:Int)).length cy])).symm
   case rngB =>
    rw [Nat.zero_add,hEC HC.out,← hj]
    exact (Array.getElem?_toList (xs:=#[Value.bool false,.slice ha (zd (H:Int)).length hc])).symm
   go_wp2_with fail
   refine (RCompare_z (HYB.out _ (H5.out.fr.trans0 (by (repeat first|exact Fr.refl _ _|assumption|apply Fr.n|apply Fr.d|apply Fr.a|refine Fr.s ?_ (.inr (by simp;try omega)) _)))) (HHB.out _ _ (H5.out.step (by (repeat first|exact Fr.refl _ _|assumption|apply Fr.n|apply Fr.d|apply Fr.a|refine Fr.s ?_ (.inr (by simp;try omega)) _))) (by simp)) HZX.out.2.1 HZX.out.2.2).mono ?_
   rw [HZ1.out]
   rintro e w6 ⟨rfl,hf6⟩
   have h4:=H5.out.step hf6
   clear a0 a1 az0 az1 al b0 b1 bz0 bz1 bl c0 c1 cl HA HB HC H5 H4
   have hb:=h4.blk
   have a0:=hEC hb 0
   have a1:=hEC hb 1
   have az0:=hEF hb 0
   have az1:=hEF hb 1
   have al:=lBk hb
   have hb:=h4.swap.blk
   have b0:=hEC hb 0
   have b1:=hEC hb 1
   have bz0:=hEF hb 0
   have bz1:=hEF hb 1
   have bl:=lBk hb
   have hb:=h4.ord 5 [4]
   simp only [List.filterMap_cons,List.filterMap_nil,List.getElem?_cons_zero,List.getElem?_cons_succ,List.drop_succ_cons,List.drop_zero,List.cons_append,List.nil_append,List.take_succ_cons,List.take_zero,List.eraseIdx_cons_succ,List.eraseIdx_zero,List.eraseIdx_cons_zero,List.tail_cons,Option.toList_some] at hb
   have hb:=hb.blk
   have c0:=hEC hb 0
   have c1:=hEC hb 1
   have cl:=lBk hb
   clear hb
   have H6:=Lib.hid h4
   clear h4 hf6
   go_wp2
   refine Mid.intro ⟨trivial,Strict.intro rfl ?_⟩
   cases eb with
   | true =>
    cases sb with
    | true =>
     cases ko with
     | true =>
      cases ks with
      | true =>
       go_wp2
       refine wRS [([0,1,2],[0]),([3,4,5,6,7],[])] (by kernel_rfl) (by kernel_rfl) ?_
       (simp only [wpSegs,pick,Array.getD_eq_getD_getElem?,List.getElem?_toArray,List.getElem?_cons_succ,List.getElem?_cons_zero,Option.getD_some])
       go_wp2_with fail
       refine (RNeg_z (HHB.out _ _ (H6.out.step (by (repeat first|exact Fr.refl _ _|assumption|apply Fr.n|apply Fr.d|apply Fr.a|refine Fr.s ?_ (.inr (by simp;try omega)) _))) (by simp)) HZX.out.2.2).mono ?_
       rintro e w7 ⟨v7,rfl,hb7,hf7⟩
       have HB7:=Lib.hid hb7
       have h4:=H6.out.step (Fr.trans0 (by (repeat first|exact Fr.refl _ _|assumption|apply Fr.n|apply Fr.d|apply Fr.a|refine Fr.s ?_ (.inr (by simp;try omega)) _)) hf7)
       clear a0 a1 az0 az1 al b0 b1 bz0 bz1 bl c0 c1 cl
       have hb:=h4.blk
       have a0:=hEC hb 0
       have a1:=hEC hb 1
       have az0:=hEF hb 0
       have az1:=hEF hb 1
       have al:=lBk hb
       have hb:=h4.swap.blk
       have b0:=hEC hb 0
       have b1:=hEC hb 1
       have bz0:=hEF hb 0
       have bz1:=hEF hb 1
       have bl:=lBk hb
       have hb:=h4.ord 5 [4]
       simp only [List.filterMap_cons,List.filterMap_nil,List.getElem?_cons_zero,List.getElem?_cons_succ,List.drop_succ_cons,List.drop_zero,List.cons_append,List.nil_append,List.take_succ_cons,List.take_zero,List.eraseIdx_cons_succ,List.eraseIdx_zero,List.eraseIdx_cons_zero,List.tail_cons,Option.toList_some] at hb
       have hb:=hb.blk
       have c0:=hEC hb 0
       have c1:=hEC hb 1
       have cl:=lBk hb
       clear hb
       have HA:=Lib.hid h4.blk
       have H7:=Lib.hid h4
       clear h4 hf7 hb7
       go_wp2
       refine Mid.intro ⟨⟨aGR (T:=114) (cs:=[.bool false,.slice ax (zd (vx:Int)).length cx]) rfl rfl rfl Try.underlying114 rfl (by kernel_rfl) (fun j v hj=>?rng1) rfl,trivial⟩,?_⟩
       case rng1 =>
        rw [Nat.zero_add,hEC HA.out,← hj]
        exact (Array.getElem?_toList (xs:=#[Value.bool false,.slice ax (zd (vx:Int)).length cx])).symm
       obtain⟨D1,hD⟩:∃ D:Nat,vx=H+D:=⟨vx - H,by have:=HEB.out;simp at this;omega⟩
       have HD:=Lib.hid hD
       clear hD
       go_wp2_with fail
       refine (RAdd_z (HXB.out _ (H7.out.fr.trans0 (by (repeat first|exact Fr.refl _ _|assumption|apply Fr.n|apply Fr.d|apply Fr.a|refine Fr.s ?_ (.inr (by simp;try omega)) _)))) (HB7.out.fr0 (by (repeat first|exact Fr.refl _ _|assumption|apply Fr.n|apply Fr.d|apply Fr.a|refine Fr.s ?_ (.inr (by simp;try omega)) _))) HZX.out.1 (zok_le HZX.out.2.2 (by simp)) (zok_le HZX.out.1 (by have:=HD.out;omega))).mono ?_
       rw [show (vx:Int)+-(H:Int)=((D1:Nat):Int) by have:=HD.out;omega]
       rintro e w8 ⟨v9,rfl,hb8,hf8⟩
       obtain⟨a81,c81,rfl,h8⟩:=has_big (H7.out.step (by (repeat first|exact Fr.refl _ _|assumption|apply Fr.n|apply Fr.d|apply Fr.a|refine Fr.s ?_ (.inr (by simp;try omega)) _))) hf8 hb8 (zok_le HZX.out.1 (by have:=HD.out;omega))
       rw [show decide (((D1:Nat):Int)<0)=false by simp] at h8 ⊢
       have h4:=h8.ord 7 [1,2,3,4,5,6,0]
       simp only [List.filterMap_cons,List.filterMap_nil,List.getElem?_cons_zero,List.getElem?_cons_succ,List.drop_succ_cons,List.drop_zero,List.cons_append,List.nil_append,List.take_succ_cons,List.take_zero,List.eraseIdx_cons_succ,List.eraseIdx_zero,List.eraseIdx_cons_zero,List.tail_cons,Option.toList_some] at h4
       clear a0 a1 az0 az1 al b0 b1 bz0 bz1 bl c0 c1 cl
       have hb:=h4.blk
       have a0:=hEC hb 0
       have a1:=hEC hb 1
       have az0:=hEF hb 0
       have az1:=hEF hb 1
       have al:=lBk hb
       have hb:=h4.swap.blk
       have b0:=hEC hb 0
       have b1:=hEC hb 1
       have bz0:=hEF hb 0
       have bz1:=hEF hb 1
       have bl:=lBk hb
       have hb:=h4.ord 5 [4]
       simp only [List.filterMap_cons,List.filterMap_nil,List.getElem?_cons_zero,List.getElem?_cons_succ,List.drop_succ_cons,List.drop_zero,List.cons_append,List.nil_append,List.take_succ_cons,List.take_zero,List.eraseIdx_cons_succ,List.eraseIdx_zero,List.eraseIdx_cons_zero,List.tail_cons,Option.toList_some] at hb
       have hb:=hb.blk
       have c0:=hEC hb 0
       have c1:=hEC hb 1
       have cl:=lBk hb
       clear hb
       have H8:=Lib.hid h4
       clear h4 hf8 hb8 h8 HB7 HA
       go_wp2
       refine Mid.intro ⟨trivial,Strict.intro rfl ?_⟩
       go_wp2
       refine aBW (fun w'=>Has w w' (Hp.blk p10 (.cells #[.bool false,.slice a81 (zd (D1:Int)).length c81] 114 (0,0))::Hp.blk p11 (.cells #[.bool false,.slice ay (zd (vy:Int)).length cy] 114 (0,0))::Hp.row 117 5 v8 E'.length (svs E')::poolR ((D1,a81,c81)::L)::Hp.blk x7 (.cells #[.bool false,.slice ha (zd (H:Int)).length hc] 114 (0,0))::bigR false (zd (H:Int)) ha hc::[])) ?hasw1 ?_
       case hasw1 =>
        have h9:=(hST (hST H8.out 0 (.bool false)) 1 (.slice a81 (zd (D1:Int)).length c81))
        have h9:=h9.ord 7 [6,3,0,1,2,4,5]
        simp only [List.filterMap_cons,List.filterMap_nil,List.getElem?_cons_zero,List.getElem?_cons_succ,List.drop_succ_cons,List.drop_zero,List.cons_append,List.nil_append,List.take_succ_cons,List.take_zero,List.eraseIdx_cons_succ,List.eraseIdx_zero,List.eraseIdx_cons_zero,List.tail_cons,Option.toList_some] at h9
        have h9:=(pool_add h9).ord 6 [1,2,3,0,4,5]
        simp only [List.filterMap_cons,List.filterMap_nil,List.getElem?_cons_zero,List.getElem?_cons_succ,List.drop_succ_cons,List.drop_zero,List.cons_append,List.nil_append,List.take_succ_cons,List.take_zero,List.eraseIdx_cons_succ,List.eraseIdx_zero,List.eraseIdx_cons_zero,List.tail_cons,Option.toList_some] at h9
        exact h9.step (by (repeat first|exact Fr.refl _ _|assumption|apply Fr.n|apply Fr.d|apply Fr.a|refine Fr.s ?_ (.inr (by simp;try omega)) _))
       clear a0 a1 az0 az1 al b0 b1 bz0 bz1 bl c0 c1 cl
       intro w91 h4
       have hb:=h4.blk
       have a0:=hEC hb 0
       have a1:=hEC hb 1
       have az0:=hEF hb 0
       have az1:=hEF hb 1
       have al:=lBk hb
       have hb:=h4.swap.blk
       have b0:=hEC hb 0
       have b1:=hEC hb 1
       have bz0:=hEF hb 0
       have bz1:=hEF hb 1
       have bl:=lBk hb
       have hb:=h4.ord 5 [4]
       simp only [List.filterMap_cons,List.filterMap_nil,List.getElem?_cons_zero,List.getElem?_cons_succ,List.drop_succ_cons,List.drop_zero,List.cons_append,List.nil_append,List.take_succ_cons,List.take_zero,List.eraseIdx_cons_succ,List.eraseIdx_zero,List.eraseIdx_cons_zero,List.tail_cons,Option.toList_some] at hb
       have hb:=hb.blk
       have c0:=hEC hb 0
       have c1:=hEC hb 1
       have cl:=lBk hb
       clear hb
       have HX:=Lib.hid h4
       have HD1:=Lib.hid HD.out
       clear h4 H8 H7 HD
       clear H6
       go_wp2
       refine wRS [([0,1,2],[0]),([3,4,5,6,7],[])] (by kernel_rfl) (by kernel_rfl) ?_
       (simp only [wpSegs,pick,Array.getD_eq_getD_getElem?,List.getElem?_toArray,List.getElem?_cons_succ,List.getElem?_cons_zero,Option.getD_some])
       go_wp2_with fail
       refine (RNeg_z (HHB.out _ _ (HX.out.step (by (repeat first|exact Fr.refl _ _|assumption|apply Fr.n|apply Fr.d|apply Fr.a|refine Fr.s ?_ (.inr (by simp;try omega)) _))) (by simp)) HZX.out.2.2).mono ?_
       rintro e w7 ⟨v7,rfl,hb7,hf7⟩
       have HB7:=Lib.hid hb7
       have h4:=HX.out.step (Fr.trans0 (by (repeat first|exact Fr.refl _ _|assumption|apply Fr.n|apply Fr.d|apply Fr.a|refine Fr.s ?_ (.inr (by simp;try omega)) _)) hf7)
       clear a0 a1 az0 az1 al b0 b1 bz0 bz1 bl c0 c1 cl
       have hb:=h4.blk
       have a0:=hEC hb 0
       have a1:=hEC hb 1
       have az0:=hEF hb 0
       have az1:=hEF hb 1
       have al:=lBk hb
       have hb:=h4.swap.blk
       have b0:=hEC hb 0
       have b1:=hEC hb 1
       have bz0:=hEF hb 0
       have bz1:=hEF hb 1
       have bl:=lBk hb
       have hb:=h4.ord 5 [4]
       simp only [List.filterMap_cons,List.filterMap_nil,List.getElem?_cons_zero,List.getElem?_cons_succ,List.drop_succ_cons,List.drop_zero,List.cons_append,List.nil_append,List.take_succ_cons,List.take_zero,List.eraseIdx_cons_succ,List.eraseIdx_zero,List.eraseIdx_cons_zero,List.tail_cons,Option.toList_some] at hb
       have hb:=hb.blk
       have c0:=hEC hb 0
       have c1:=hEC hb 1
       have cl:=lBk hb
       clear hb
       have HA:=Lib.hid h4.swap.blk
       have H7:=Lib.hid h4
       clear h4 hf7 hb7
       go_wp2
       refine Mid.intro ⟨⟨aGR (T:=114) (cs:=[.bool false,.slice ay (zd (vy:Int)).length cy]) rfl rfl rfl Try.underlying114 rfl (by kernel_rfl) (fun j v hj=>?rng91) rfl,trivial⟩,?_⟩
       case rng91 =>
        rw [Nat.zero_add,hEC HA.out,← hj]
        exact (Array.getElem?_toList (xs:=#[Value.bool false,.slice ay (zd (vy:Int)).length cy])).symm
       obtain⟨D91,hD⟩:∃ D:Nat,vy=H+D:=⟨vy - H,by have:=HSB.out;simp at this;omega⟩
       have HD:=Lib.hid hD
       clear hD
       go_wp2_with fail
       refine (RAdd_z (HYB.out _ (H7.out.fr.trans0 (by (repeat first|exact Fr.refl _ _|assumption|apply Fr.n|apply Fr.d|apply Fr.a|refine Fr.s ?_ (.inr (by simp;try omega)) _)))) (HB7.out.fr0 (by (repeat first|exact Fr.refl _ _|assumption|apply Fr.n|apply Fr.d|apply Fr.a|refine Fr.s ?_ (.inr (by simp;try omega)) _))) HZX.out.2.1 (zok_le HZX.out.2.2 (by simp)) (zok_le HZX.out.2.1 (by have:=HD.out;omega))).mono ?_
       rw [show (vy:Int)+-(H:Int)=((D91:Nat):Int) by have:=HD.out;omega]
       rintro e w8 ⟨v9,rfl,hb8,hf8⟩
       obtain⟨a891,c891,rfl,h8⟩:=has_big (H7.out.step (by (repeat first|exact Fr.refl _ _|assumption|apply Fr.n|apply Fr.d|apply Fr.a|refine Fr.s ?_ (.inr (by simp;try omega)) _))) hf8 hb8 (zok_le HZX.out.2.1 (by have:=HD.out;omega))
       rw [show decide (((D91:Nat):Int)<0)=false by simp] at h8 ⊢
       have h4:=h8.ord 7 [1,2,3,4,5,6,0]
       simp only [List.filterMap_cons,List.filterMap_nil,List.getElem?_cons_zero,List.getElem?_cons_succ,List.drop_succ_cons,List.drop_zero,List.cons_append,List.nil_append,List.take_succ_cons,List.take_zero,List.eraseIdx_cons_succ,List.eraseIdx_zero,List.eraseIdx_cons_zero,List.tail_cons,Option.toList_some] at h4
       clear a0 a1 az0 az1 al b0 b1 bz0 bz1 bl c0 c1 cl
       have hb:=h4.blk
       have a0:=hEC hb 0
       have a1:=hEC hb 1
       have az0:=hEF hb 0
       have az1:=hEF hb 1
       have al:=lBk hb
       have hb:=h4.swap.blk
       have b0:=hEC hb 0
       have b1:=hEC hb 1
       have bz0:=hEF hb 0
       have bz1:=hEF hb 1
       have bl:=lBk hb
       have hb:=h4.ord 5 [4]
       simp only [List.filterMap_cons,List.filterMap_nil,List.getElem?_cons_zero,List.getElem?_cons_succ,List.drop_succ_cons,List.drop_zero,List.cons_append,List.nil_append,List.take_succ_cons,List.take_zero,List.eraseIdx_cons_succ,List.eraseIdx_zero,List.eraseIdx_cons_zero,List.tail_cons,Option.toList_some] at hb
       have hb:=hb.blk
       have c0:=hEC hb 0
       have c1:=hEC hb 1
       have cl:=lBk hb
       clear hb
       have H8:=Lib.hid h4
       clear h4 hf8 hb8 h8 HB7 HA
       go_wp2
       refine Mid.intro ⟨trivial,Strict.intro rfl ?_⟩
       go_wp2
       refine aBW (fun w'=>Has w w' (Hp.blk p10 (.cells #[.bool false,.slice a81 (zd (D1:Int)).length c81] 114 (0,0))::Hp.blk p11 (.cells #[.bool false,.slice a891 (zd (D91:Int)).length c891] 114 (0,0))::Hp.row 117 5 v8 E'.length (svs E')::poolR ((D91,a891,c891)::((D1,a81,c81)::L))::Hp.blk x7 (.cells #[.bool false,.slice ha (zd (H:Int)).length hc] 114 (0,0))::bigR false (zd (H:Int)) ha hc::[])) ?hasw91 ?_
       case hasw91 =>
        have h9:=(hST (hST H8.out.swap 0 (.bool false)) 1 (.slice a891 (zd (D91:Int)).length c891)).swap
        have h9:=h9.ord 7 [6,3,0,1,2,4,5]
        simp only [List.filterMap_cons,List.filterMap_nil,List.getElem?_cons_zero,List.getElem?_cons_succ,List.drop_succ_cons,List.drop_zero,List.cons_append,List.nil_append,List.take_succ_cons,List.take_zero,List.eraseIdx_cons_succ,List.eraseIdx_zero,List.eraseIdx_cons_zero,List.tail_cons,Option.toList_some] at h9
        have h9:=(pool_add h9).ord 6 [1,2,3,0,4,5]
        simp only [List.filterMap_cons,List.filterMap_nil,List.getElem?_cons_zero,List.getElem?_cons_succ,List.drop_succ_cons,List.drop_zero,List.cons_append,List.nil_append,List.take_succ_cons,List.take_zero,List.eraseIdx_cons_succ,List.eraseIdx_zero,List.eraseIdx_cons_zero,List.tail_cons,Option.toList_some] at h9
        exact h9.step (by (repeat first|exact Fr.refl _ _|assumption|apply Fr.n|apply Fr.d|apply Fr.a|refine Fr.s ?_ (.inr (by simp;try omega)) _))
       clear a0 a1 az0 az1 al b0 b1 bz0 bz1 bl c0 c1 cl
       intro w991 h4
       have hb:=h4.blk
       have a0:=hEC hb 0
       have a1:=hEC hb 1
       have az0:=hEF hb 0
       have az1:=hEF hb 1
       have al:=lBk hb
       have hb:=h4.swap.blk
       have b0:=hEC hb 0
       have b1:=hEC hb 1
       have bz0:=hEF hb 0
       have bz1:=hEF hb 1
       have bl:=lBk hb
       have hb:=h4.ord 5 [4]
       simp only [List.filterMap_cons,List.filterMap_nil,List.getElem?_cons_zero,List.getElem?_cons_succ,List.drop_succ_cons,List.drop_zero,List.cons_append,List.nil_append,List.take_succ_cons,List.take_zero,List.eraseIdx_cons_succ,List.eraseIdx_zero,List.eraseIdx_cons_zero,List.tail_cons,Option.toList_some] at hb
       have hb:=hb.blk
       have c0:=hEC hb 0
       have c1:=hEC hb 1
       have cl:=lBk hb
       clear hb
       have HY:=Lib.hid h4
       have HD91:=Lib.hid HD.out
       clear h4 H8 H7 HD
       obtain⟨g3,of3,he3,hgl,_,_,_,_,e4⟩:=svs_cell (HS.out.rd.fr HY.out.fr) HP.out
       cases he3
       simp only at e4
       have HO:=Lib.hid (Has.row (show Has w _ (Hp.row 117 5 v8 E'.length (svs E')::_) from (HY.out.ord 3 [2])))
       go_wp2
       (refine wRT (by kernel_rfl) (by kernel_rfl) ?_)
       go_wp2_with (at_builtin;refine append_sv (n:=E'.length) (base:=0) (xs:=svs E') (y:=⟨(D1,a81,c81),(D91,a891,c891),st⟩) rfl rfl rfl ?e11 rfl ?e21 ?e31 ?e41 ?_)
       case e11=>exact oOB HO.out fun g hg=>hAE _ _ _ (oLT HO.out hg)
       case e21=>first|(first|(rw [hAC,if_pos rfl];done)|exact (Array.getElem?_eq_some_iff.1 ((hAC _ _ _).trans (if_pos rfl))).2|(simp only [hDR,hDN];rw [hAC,if_pos rfl];done))|(refine (Array.getElem?_eq_some_iff.1 ?_).2;(repeat first|rw [if_pos (by omega)]|rw [if_neg (by omega)]|rw [hDR]|rw [hDN]|rw [hAz]|rw [hSz]|rw [hAC]|rw [hSC]|rw [oMS]|rw [uPC]|rw [lSZ]|rw [lSS]|rfl))
       case e31=>have:=HST.out.len;have:=HL.out;omega
       case e41=>omega
       intro g2 cap w10 hown1 hW1 hF1 hloc1 hg1
       rw [svs_snoc _ ⟨(D1,a81,c81),(D91,a891,c891),st⟩] at hown1
       have h9:=HY.out.ord 6 [2,3,4,5]
       simp only [List.filterMap_cons,List.filterMap_nil,List.getElem?_cons_zero,List.getElem?_cons_succ,List.drop_succ_cons,List.drop_zero,List.cons_append,List.nil_append,List.take_succ_cons,List.take_zero,List.eraseIdx_cons_succ,List.eraseIdx_zero,List.eraseIdx_cons_zero,List.tail_cons,Option.toList_some] at h9
       have h9:=hAP (n':=(E'++([⟨(D1,a81,c81),(D91,a891,c891),st⟩]:List SV)).length) (h9.step (by (repeat first|exact Fr.refl _ _|assumption|apply Fr.n|apply Fr.d|apply Fr.a|refine Fr.s ?_ (.inr (by simp;try omega)) _))) (by rw [List.length_append];exact hown1) rfl hF1 (by rcases hloc1 with h|h;exact .inl h;exact .inr (by rw [h];simp))
       have H9:=Lib.hid h9
       clear a0 a1 az0 az1 al b0 b1 bz0 bz1 bl c0 c1 cl
       clear e4 hgl h9 hown1 hW1 hF1 hloc1 hg1 HO
       go_wp2
       refine Strict.intro rfl ?_
       go_wp2
       go_roundw
       case rel =>
        refine⟨i+1,_,E'++[⟨(D1,a81,c81),(D91,a891,c891),st⟩],((D91,a891,c891)::(D1,a81,c81)::L),⟨rfl,by go_num⟩,HST.out.add HP.out (show quadOf H ⟨vx,vy,st⟩=k by rw [quad_iff HK.out,HEB.out,HSB.out,HKO.out.1,HKO.out.2];decide) ?_ (fun z hz=>by first|exact hz|simp [hz]) ⟨.inr (by simp),.inr (by simp)⟩ (H9.out.step (by (repeat first|exact Fr.refl _ _|assumption|apply Fr.n|apply Fr.d|apply Fr.a|refine Fr.s ?_ (.inr (by simp;try omega)) _)))⟩
        have h1:=HEB.out
        have h2:=HSB.out
        simp only [decide_eq_true_eq,decide_eq_false_iff_not] at h1 h2
        have h3:=And.intro HD1.out HD91.out
        exact into_eq (by dsimp only;omega) (by dsimp only;omega)
       case measure=>simp [intOf];omega
      | false =>
       go_wp2
       go_roundw
       case rel=>exact⟨i+1,v8,E',L,⟨rfl,by go_num⟩,HST.out.skip HP.out (show quadOf H ⟨vx,vy,st⟩≠k by rw [Ne,quad_iff HK.out,HEB.out,HSB.out,HKO.out.1,HKO.out.2];decide) ((H6.out.ord 6 [2,3,4,5]).step (by (repeat first|exact Fr.refl _ _|assumption|apply Fr.n|apply Fr.d|apply Fr.a|refine Fr.s ?_ (.inr (by simp;try omega)) _)))⟩
       case measure=>simp [intOf];omega
     | false =>
      cases ks with
      | true =>
       go_wp2
       go_roundw
       case rel=>exact⟨i+1,v8,E',L,⟨rfl,by go_num⟩,HST.out.skip HP.out (show quadOf H ⟨vx,vy,st⟩≠k by rw [Ne,quad_iff HK.out,HEB.out,HSB.out,HKO.out.1,HKO.out.2];decide) ((H6.out.ord 6 [2,3,4,5]).step (by (repeat first|exact Fr.refl _ _|assumption|apply Fr.n|apply Fr.d|apply Fr.a|refine Fr.s ?_ (.inr (by simp;try omega)) _)))⟩
       case measure=>simp [intOf];omega
      | false =>
       go_wp2
       go_roundw
       case rel=>exact⟨i+1,v8,E',L,⟨rfl,by go_num⟩,HST.out.skip HP.out (show quadOf H ⟨vx,vy,st⟩≠k by rw [Ne,quad_iff HK.out,HEB.out,HSB.out,HKO.out.1,HKO.out.2];decide) ((H6.out.ord 6 [2,3,4,5]).step (by (repeat first|exact Fr.refl _ _|assumption|apply Fr.n|apply Fr.d|apply Fr.a|refine Fr.s ?_ (.inr (by simp;try omega)) _)))⟩
       case measure=>simp [intOf];omega
    | false =>
     cases ko with
     | true =>
      cases ks with
      | true =>
       go_wp2
       go_roundw
       case rel=>exact⟨i+1,v8,E',L,⟨rfl,by go_num⟩,HST.out.skip HP.out (show quadOf H ⟨vx,vy,st⟩≠k by rw [Ne,quad_iff HK.out,HEB.out,HSB.out,HKO.out.1,HKO.out.2];decide) ((H6.out.ord 6 [2,3,4,5]).step (by (repeat first|exact Fr.refl _ _|assumption|apply Fr.n|apply Fr.d|apply Fr.a|refine Fr.s ?_ (.inr (by simp;try omega)) _)))⟩
       case measure=>simp [intOf];omega
      | false =>
       go_wp2
       refine wRS [([0,1,2],[0]),([3,4,5,6,7],[])] (by kernel_rfl) (by kernel_rfl) ?_
       (simp only [wpSegs,pick,Array.getD_eq_getD_getElem?,List.getElem?_toArray,List.getElem?_cons_succ,List.getElem?_cons_zero,Option.getD_some])
       go_wp2_with fail
       refine (RNeg_z (HHB.out _ _ (H6.out.step (by (repeat first|exact Fr.refl _ _|assumption|apply Fr.n|apply Fr.d|apply Fr.a|refine Fr.s ?_ (.inr (by simp;try omega)) _))) (by simp)) HZX.out.2.2).mono ?_
       rintro e w7 ⟨v7,rfl,hb7,hf7⟩
       have HB7:=Lib.hid hb7
       have h4:=H6.out.step (Fr.trans0 (by (repeat first|exact Fr.refl _ _|assumption|apply Fr.n|apply Fr.d|apply Fr.a|refine Fr.s ?_ (.inr (by simp;try omega)) _)) hf7)
       clear a0 a1 az0 az1 al b0 b1 bz0 bz1 bl c0 c1 cl
       have hb:=h4.blk
       have a0:=hEC hb 0
       have a1:=hEC hb 1
       have az0:=hEF hb 0
       have az1:=hEF hb 1
       have al:=lBk hb
       have hb:=h4.swap.blk
       have b0:=hEC hb 0
       have b1:=hEC hb 1
       have bz0:=hEF hb 0
       have bz1:=hEF hb 1
       have bl:=lBk hb
       have hb:=h4.ord 5 [4]
       simp only [List.filterMap_cons,List.filterMap_nil,List.getElem?_cons_zero,List.getElem?_cons_succ,List.drop_succ_cons,List.drop_zero,List.cons_append,List.nil_append,List.take_succ_cons,List.take_zero,List.eraseIdx_cons_succ,List.eraseIdx_zero,List.eraseIdx_cons_zero,List.tail_cons,Option.toList_some] at hb
       have hb:=hb.blk
       have c0:=hEC hb 0
       have c1:=hEC hb 1
       have cl:=lBk hb
       clear hb
       have HA:=Lib.hid h4.blk
       have H7:=Lib.hid h4
       clear h4 hf7 hb7
       go_wp2
       refine Mid.intro ⟨⟨aGR (T:=114) (cs:=[.bool false,.slice ax (zd (vx:Int)).length cx]) rfl rfl rfl Try.underlying114 rfl (by kernel_rfl) (fun j v hj=>?rng2) rfl,trivial⟩,?_⟩
       case rng2 =>
        rw [Nat.zero_add,hEC HA.out,← hj]
        exact (Array.getElem?_toList (xs:=#[Value.bool false,.slice ax (zd (vx:Int)).length cx])).symm
       obtain⟨D2,hD⟩:∃ D:Nat,vx=H+D:=⟨vx - H,by have:=HEB.out;simp at this;omega⟩
       have HD:=Lib.hid hD
       clear hD
       go_wp2_with fail
       refine (RAdd_z (HXB.out _ (H7.out.fr.trans0 (by (repeat first|exact Fr.refl _ _|assumption|apply Fr.n|apply Fr.d|apply Fr.a|refine Fr.s ?_ (.inr (by simp;try omega)) _)))) (HB7.out.fr0 (by (repeat first|exact Fr.refl _ _|assumption|apply Fr.n|apply Fr.d|apply Fr.a|refine Fr.s ?_ (.inr (by simp;try omega)) _))) HZX.out.1 (zok_le HZX.out.2.2 (by simp)) (zok_le HZX.out.1 (by have:=HD.out;omega))).mono ?_
       rw [show (vx:Int)+-(H:Int)=((D2:Nat):Int) by have:=HD.out;omega]
       rintro e w8 ⟨v9,rfl,hb8,hf8⟩
       obtain⟨a82,c82,rfl,h8⟩:=has_big (H7.out.step (by (repeat first|exact Fr.refl _ _|assumption|apply Fr.n|apply Fr.d|apply Fr.a|refine Fr.s ?_ (.inr (by simp;try omega)) _))) hf8 hb8 (zok_le HZX.out.1 (by have:=HD.out;omega))
       rw [show decide (((D2:Nat):Int)<0)=false by simp] at h8 ⊢
       have h4:=h8.ord 7 [1,2,3,4,5,6,0]
       simp only [List.filterMap_cons,List.filterMap_nil,List.getElem?_cons_zero,List.getElem?_cons_succ,List.drop_succ_cons,List.drop_zero,List.cons_append,List.nil_append,List.take_succ_cons,List.take_zero,List.eraseIdx_cons_succ,List.eraseIdx_zero,List.eraseIdx_cons_zero,List.tail_cons,Option.toList_some] at h4
       clear a0 a1 az0 az1 al b0 b1 bz0 bz1 bl c0 c1 cl
       have hb:=h4.blk
       have a0:=hEC hb 0
       have a1:=hEC hb 1
       have az0:=hEF hb 0
       have az1:=hEF hb 1
       have al:=lBk hb
       have hb:=h4.swap.blk
       have b0:=hEC hb 0
       have b1:=hEC hb 1
       have bz0:=hEF hb 0
       have bz1:=hEF hb 1
       have bl:=lBk hb
       have hb:=h4.ord 5 [4]
       simp only [List.filterMap_cons,List.filterMap_nil,List.getElem?_cons_zero,List.getElem?_cons_succ,List.drop_succ_cons,List.drop_zero,List.cons_append,List.nil_append,List.take_succ_cons,List.take_zero,List.eraseIdx_cons_succ,List.eraseIdx_zero,List.eraseIdx_cons_zero,List.tail_cons,Option.toList_some] at hb
       have hb:=hb.blk
       have c0:=hEC hb 0
       have c1:=hEC hb 1
       have cl:=lBk hb
       clear hb
       have H8:=Lib.hid h4
       clear h4 hf8 hb8 h8 HB7 HA
       go_wp2
       refine Mid.intro ⟨trivial,Strict.intro rfl ?_⟩
       go_wp2
       refine aBW (fun w'=>Has w w' (Hp.blk p10 (.cells #[.bool false,.slice a82 (zd (D2:Int)).length c82] 114 (0,0))::Hp.blk p11 (.cells #[.bool false,.slice ay (zd (vy:Int)).length cy] 114 (0,0))::Hp.row 117 5 v8 E'.length (svs E')::poolR ((D2,a82,c82)::L)::Hp.blk x7 (.cells #[.bool false,.slice ha (zd (H:Int)).length hc] 114 (0,0))::bigR false (zd (H:Int)) ha hc::[])) ?hasw2 ?_
       case hasw2 =>
        have h9:=(hST (hST H8.out 0 (.bool false)) 1 (.slice a82 (zd (D2:Int)).length c82))
        have h9:=h9.ord 7 [6,3,0,1,2,4,5]
        simp only [List.filterMap_cons,List.filterMap_nil,List.getElem?_cons_zero,List.getElem?_cons_succ,List.drop_succ_cons,List.drop_zero,List.cons_append,List.nil_append,List.take_succ_cons,List.take_zero,List.eraseIdx_cons_succ,List.eraseIdx_zero,List.eraseIdx_cons_zero,List.tail_cons,Option.toList_some] at h9
        have h9:=(pool_add h9).ord 6 [1,2,3,0,4,5]
        simp only [List.filterMap_cons,List.filterMap_nil,List.getElem?_cons_zero,List.getElem?_cons_succ,List.drop_succ_cons,List.drop_zero,List.cons_append,List.nil_append,List.take_succ_cons,List.take_zero,List.eraseIdx_cons_succ,List.eraseIdx_zero,List.eraseIdx_cons_zero,List.tail_cons,Option.toList_some] at h9
        exact h9.step (by (repeat first|exact Fr.refl _ _|assumption|apply Fr.n|apply Fr.d|apply Fr.a|refine Fr.s ?_ (.inr (by simp;try omega)) _))
       clear a0 a1 az0 az1 al b0 b1 bz0 bz1 bl c0 c1 cl
       intro w92 h4
       have hb:=h4.blk
       have a0:=hEC hb 0
       have a1:=hEC hb 1
       have az0:=hEF hb 0
       have az1:=hEF hb 1
       have al:=lBk hb
       have hb:=h4.swap.blk
       have b0:=hEC hb 0
       have b1:=hEC hb 1
       have bz0:=hEF hb 0
       have bz1:=hEF hb 1
       have bl:=lBk hb
       have hb:=h4.ord 5 [4]
       simp only [List.filterMap_cons,List.filterMap_nil,List.getElem?_cons_zero,List.getElem?_cons_succ,List.drop_succ_cons,List.drop_zero,List.cons_append,List.nil_append,List.take_succ_cons,List.take_zero,List.eraseIdx_cons_succ,List.eraseIdx_zero,List.eraseIdx_cons_zero,List.tail_cons,Option.toList_some] at hb
       have hb:=hb.blk
       have c0:=hEC hb 0
       have c1:=hEC hb 1
       have cl:=lBk hb
       clear hb
       have HX:=Lib.hid h4
       have HD2:=Lib.hid HD.out
       clear h4 H8 H7 HD
       obtain⟨g3,of3,he3,hgl,_,_,_,_,e4⟩:=svs_cell (HS.out.rd.fr HX.out.fr) HP.out
       cases he3
       simp only at e4
       have HO:=Lib.hid (Has.row (show Has w _ (Hp.row 117 5 v8 E'.length (svs E')::_) from (HX.out.ord 3 [2])))
       go_wp2
       (refine wRT (by kernel_rfl) (by kernel_rfl) ?_)
       go_wp2_with (at_builtin;refine append_sv (n:=E'.length) (base:=0) (xs:=svs E') (y:=⟨(D2,a82,c82),(vy,ay,cy),st⟩) rfl rfl rfl ?e12 rfl ?e22 ?e32 ?e42 ?_)
       case e12=>exact oOB HO.out fun g hg=>hAE _ _ _ (oLT HO.out hg)
       case e22=>first|(first|(rw [hAC,if_pos rfl];done)|exact (Array.getElem?_eq_some_iff.1 ((hAC _ _ _).trans (if_pos rfl))).2|(simp only [hDR,hDN];rw [hAC,if_pos rfl];done))|(refine (Array.getElem?_eq_some_iff.1 ?_).2;(repeat first|rw [if_pos (by omega)]|rw [if_neg (by omega)]|rw [hDR]|rw [hDN]|rw [hAz]|rw [hSz]|rw [hAC]|rw [hSC]|rw [oMS]|rw [uPC]|rw [lSZ]|rw [lSS]|rfl))
       case e32=>have:=HST.out.len;have:=HL.out;omega
       case e42=>omega
       intro g2 cap w10 hown1 hW1 hF1 hloc1 hg1
       rw [svs_snoc _ ⟨(D2,a82,c82),(vy,ay,cy),st⟩] at hown1
       have h9:=HX.out.ord 6 [2,3,4,5]
       simp only [List.filterMap_cons,List.filterMap_nil,List.getElem?_cons_zero,List.getElem?_cons_succ,List.drop_succ_cons,List.drop_zero,List.cons_append,List.nil_append,List.take_succ_cons,List.take_zero,List.eraseIdx_cons_succ,List.eraseIdx_zero,List.eraseIdx_cons_zero,List.tail_cons,Option.toList_some] at h9
       have h9:=hAP (n':=(E'++([⟨(D2,a82,c82),(vy,ay,cy),st⟩]:List SV)).length) (h9.step (by (repeat first|exact Fr.refl _ _|assumption|apply Fr.n|apply Fr.d|apply Fr.a|refine Fr.s ?_ (.inr (by simp;try omega)) _))) (by rw [List.length_append];exact hown1) rfl hF1 (by rcases hloc1 with h|h;exact .inl h;exact .inr (by rw [h];simp))
       have H9:=Lib.hid h9
       clear a0 a1 az0 az1 al b0 b1 bz0 bz1 bl c0 c1 cl
       clear e4 hgl h9 hown1 hW1 hF1 hloc1 hg1 HO
       go_wp2
       refine Strict.intro rfl ?_
       go_wp2
       go_roundw
       case rel =>
        refine⟨i+1,_,E'++[⟨(D2,a82,c82),(vy,ay,cy),st⟩],((D2,a82,c82)::L),⟨rfl,by go_num⟩,HST.out.add HP.out (show quadOf H ⟨vx,vy,st⟩=k by rw [quad_iff HK.out,HEB.out,HSB.out,HKO.out.1,HKO.out.2];decide) ?_ (fun z hz=>by first|exact hz|simp [hz]) ⟨.inr (by simp),.inl HEL.out.2⟩ (H9.out.step (by (repeat first|exact Fr.refl _ _|assumption|apply Fr.n|apply Fr.d|apply Fr.a|refine Fr.s ?_ (.inr (by simp;try omega)) _)))⟩
        have h1:=HEB.out
        have h2:=HSB.out
        simp only [decide_eq_true_eq,decide_eq_false_iff_not] at h1 h2
        have h3:=HD2.out
        exact into_eq (by dsimp only;omega) (by dsimp only;omega)
       case measure=>simp [intOf];omega
     | false =>
      cases ks with
      | true =>
       go_wp2
       go_roundw
       case rel=>exact⟨i+1,v8,E',L,⟨rfl,by go_num⟩,HST.out.skip HP.out (show quadOf H ⟨vx,vy,st⟩≠k by rw [Ne,quad_iff HK.out,HEB.out,HSB.out,HKO.out.1,HKO.out.2];decide) ((H6.out.ord 6 [2,3,4,5]).step (by (repeat first|exact Fr.refl _ _|assumption|apply Fr.n|apply Fr.d|apply Fr.a|refine Fr.s ?_ (.inr (by simp;try omega)) _)))⟩
       case measure=>simp [intOf];omega
      | false =>
       go_wp2
       go_roundw
       case rel=>exact⟨i+1,v8,E',L,⟨rfl,by go_num⟩,HST.out.skip HP.out (show quadOf H ⟨vx,vy,st⟩≠k by rw [Ne,quad_iff HK.out,HEB.out,HSB.out,HKO.out.1,HKO.out.2];decide) ((H6.out.ord 6 [2,3,4,5]).step (by (repeat first|exact Fr.refl _ _|assumption|apply Fr.n|apply Fr.d|apply Fr.a|refine Fr.s ?_ (.inr (by simp;try omega)) _)))⟩
       case measure=>simp [intOf];omega
   | false =>
    cases sb with
    | true =>
     cases ko with
     | true =>
      cases ks with
      | true =>
       go_wp2
       go_roundw
       case rel=>exact⟨i+1,v8,E',L,⟨rfl,by go_num⟩,HST.out.skip HP.out (show quadOf H ⟨vx,vy,st⟩≠k by rw [Ne,quad_iff HK.out,HEB.out,HSB.out,HKO.out.1,HKO.out.2];decide) ((H6.out.ord 6 [2,3,4,5]).step (by (repeat first|exact Fr.refl _ _|assumption|apply Fr.n|apply Fr.d|apply Fr.a|refine Fr.s ?_ (.inr (by simp;try omega)) _)))⟩
       case measure=>simp [intOf];omega
      | false =>
       go_wp2
       go_roundw
       case rel=>exact⟨i+1,v8,E',L,⟨rfl,by go_num⟩,HST.out.skip HP.out (show quadOf H ⟨vx,vy,st⟩≠k by rw [Ne,quad_iff HK.out,HEB.out,HSB.out,HKO.out.1,HKO.out.2];decide) ((H6.out.ord 6 [2,3,4,5]).step (by (repeat first|exact Fr.refl _ _|assumption|apply Fr.n|apply Fr.d|apply Fr.a|refine Fr.s ?_ (.inr (by simp;try omega)) _)))⟩
       case measure=>simp [intOf];omega
     | false =>
      cases ks with
      | true =>
       go_wp2
       refine wRS [([0,1,2],[0]),([3,4,5,6,7],[])] (by kernel_rfl) (by kernel_rfl) ?_
       (simp only [wpSegs,pick,Array.getD_eq_getD_getElem?,List.getElem?_toArray,List.getElem?_cons_succ,List.getElem?_cons_zero,Option.getD_some])
       go_wp2_with fail
       refine (RNeg_z (HHB.out _ _ (H6.out.step (by (repeat first|exact Fr.refl _ _|assumption|apply Fr.n|apply Fr.d|apply Fr.a|refine Fr.s ?_ (.inr (by simp;try omega)) _))) (by simp)) HZX.out.2.2).mono ?_
       rintro e w7 ⟨v7,rfl,hb7,hf7⟩
       have HB7:=Lib.hid hb7
       have h4:=H6.out.step (Fr.trans0 (by (repeat first|exact Fr.refl _ _|assumption|apply Fr.n|apply Fr.d|apply Fr.a|refine Fr.s ?_ (.inr (by simp;try omega)) _)) hf7)
       clear a0 a1 az0 az1 al b0 b1 bz0 bz1 bl c0 c1 cl
       have hb:=h4.blk
       have a0:=hEC hb 0
       have a1:=hEC hb 1
       have az0:=hEF hb 0
       have az1:=hEF hb 1
       have al:=lBk hb
       have hb:=h4.swap.blk
       have b0:=hEC hb 0
       have b1:=hEC hb 1
       have bz0:=hEF hb 0
       have bz1:=hEF hb 1
       have bl:=lBk hb
       have hb:=h4.ord 5 [4]
       simp only [List.filterMap_cons,List.filterMap_nil,List.getElem?_cons_zero,List.getElem?_cons_succ,List.drop_succ_cons,List.drop_zero,List.cons_append,List.nil_append,List.take_succ_cons,List.take_zero,List.eraseIdx_cons_succ,List.eraseIdx_zero,List.eraseIdx_cons_zero,List.tail_cons,Option.toList_some] at hb
       have hb:=hb.blk
       have c0:=hEC hb 0
       have c1:=hEC hb 1
       have cl:=lBk hb
       clear hb
       have HA:=Lib.hid h4.swap.blk
       have H7:=Lib.hid h4
       clear h4 hf7 hb7
       go_wp2
       refine Mid.intro ⟨⟨aGR (T:=114) (cs:=[.bool false,.slice ay (zd (vy:Int)).length cy]) rfl rfl rfl Try.underlying114 rfl (by kernel_rfl) (fun j v hj=>?rng3) rfl,trivial⟩,?_⟩
       case rng3 =>
        rw [Nat.zero_add,hEC HA.out,← hj]
        exact (Array.getElem?_toList (xs:=#[Value.bool false,.slice ay (zd (vy:Int)).length cy])).symm
       obtain⟨D3,hD⟩:∃ D:Nat,vy=H+D:=⟨vy - H,by have:=HSB.out;simp at this;omega⟩
       have HD:=Lib.hid hD
       clear hD
       go_wp2_with fail
       refine (RAdd_z (HYB.out _ (H7.out.fr.trans0 (by (repeat first|exact Fr.refl _ _|assumption|apply Fr.n|apply Fr.d|apply Fr.a|refine Fr.s ?_ (.inr (by simp;try omega)) _)))) (HB7.out.fr0 (by (repeat first|exact Fr.refl _ _|assumption|apply Fr.n|apply Fr.d|apply Fr.a|refine Fr.s ?_ (.inr (by simp;try omega)) _))) HZX.out.2.1 (zok_le HZX.out.2.2 (by simp)) (zok_le HZX.out.2.1 (by have:=HD.out;omega))).mono ?_
       rw [show (vy:Int)+-(H:Int)=((D3:Nat):Int) by have:=HD.out;omega]
       rintro e w8 ⟨v9,rfl,hb8,hf8⟩
       obtain⟨a83,c83,rfl,h8⟩:=has_big (H7.out.step (by (repeat first|exact Fr.refl _ _|assumption|apply Fr.n|apply Fr.d|apply Fr.a|refine Fr.s ?_ (.inr (by simp;try omega)) _))) hf8 hb8 (zok_le HZX.out.2.1 (by have:=HD.out;omega))
       rw [show decide (((D3:Nat):Int)<0)=false by simp] at h8 ⊢
       have h4:=h8.ord 7 [1,2,3,4,5,6,0]
       simp only [List.filterMap_cons,List.filterMap_nil,List.getElem?_cons_zero,List.getElem?_cons_succ,List.drop_succ_cons,List.drop_zero,List.cons_append,List.nil_append,List.take_succ_cons,List.take_zero,List.eraseIdx_cons_succ,List.eraseIdx_zero,List.eraseIdx_cons_zero,List.tail_cons,Option.toList_some] at h4
       clear a0 a1 az0 az1 al b0 b1 bz0 bz1 bl c0 c1 cl
       have hb:=h4.blk
       have a0:=hEC hb 0
       have a1:=hEC hb 1
       have az0:=hEF hb 0
       have az1:=hEF hb 1
       have al:=lBk hb
       have hb:=h4.swap.blk
       have b0:=hEC hb 0
       have b1:=hEC hb 1
       have bz0:=hEF hb 0
       have bz1:=hEF hb 1
       have bl:=lBk hb
       have hb:=h4.ord 5 [4]
       simp only [List.filterMap_cons,List.filterMap_nil,List.getElem?_cons_zero,List.getElem?_cons_succ,List.drop_succ_cons,List.drop_zero,List.cons_append,List.nil_append,List.take_succ_cons,List.take_zero,List.eraseIdx_cons_succ,List.eraseIdx_zero,List.eraseIdx_cons_zero,List.tail_cons,Option.toList_some] at hb
       have hb:=hb.blk
       have c0:=hEC hb 0
       have c1:=hEC hb 1
       have cl:=lBk hb
       clear hb
       have H8:=Lib.hid h4
       clear h4 hf8 hb8 h8 HB7 HA
       go_wp2
       refine Mid.intro ⟨trivial,Strict.intro rfl ?_⟩
       go_wp2
       refine aBW (fun w'=>Has w w' (Hp.blk p10 (.cells #[.bool false,.slice ax (zd (vx:Int)).length cx] 114 (0,0))::Hp.blk p11 (.cells #[.bool false,.slice a83 (zd (D3:Int)).length c83] 114 (0,0))::Hp.row 117 5 v8 E'.length (svs E')::poolR ((D3,a83,c83)::L)::Hp.blk x7 (.cells #[.bool false,.slice ha (zd (H:Int)).length hc] 114 (0,0))::bigR false (zd (H:Int)) ha hc::[])) ?hasw3 ?_
       case hasw3 =>
        have h9:=(hST (hST H8.out.swap 0 (.bool false)) 1 (.slice a83 (zd (D3:Int)).length c83)).swap
        have h9:=h9.ord 7 [6,3,0,1,2,4,5]
        simp only [List.filterMap_cons,List.filterMap_nil,List.getElem?_cons_zero,List.getElem?_cons_succ,List.drop_succ_cons,List.drop_zero,List.cons_append,List.nil_append,List.take_succ_cons,List.take_zero,List.eraseIdx_cons_succ,List.eraseIdx_zero,List.eraseIdx_cons_zero,List.tail_cons,Option.toList_some] at h9
        have h9:=(pool_add h9).ord 6 [1,2,3,0,4,5]
        simp only [List.filterMap_cons,List.filterMap_nil,List.getElem?_cons_zero,List.getElem?_cons_succ,List.drop_succ_cons,List.drop_zero,List.cons_append,List.nil_append,List.take_succ_cons,List.take_zero,List.eraseIdx_cons_succ,List.eraseIdx_zero,List.eraseIdx_cons_zero,List.tail_cons,Option.toList_some] at h9
        exact h9.step (by (repeat first|exact Fr.refl _ _|assumption|apply Fr.n|apply Fr.d|apply Fr.a|refine Fr.s ?_ (.inr (by simp;try omega)) _))
       clear a0 a1 az0 az1 al b0 b1 bz0 bz1 bl c0 c1 cl
       intro w93 h4
       have hb:=h4.blk
       have a0:=hEC hb 0
       have a1:=hEC hb 1
       have az0:=hEF hb 0
       have az1:=hEF hb 1
       have al:=lBk hb
       have hb:=h4.swap.blk
       have b0:=hEC hb 0
       have b1:=hEC hb 1
       have bz0:=hEF hb 0
       have bz1:=hEF hb 1
       have bl:=lBk hb
       have hb:=h4.ord 5 [4]
       simp only [List.filterMap_cons,List.filterMap_nil,List.getElem?_cons_zero,List.getElem?_cons_succ,List.drop_succ_cons,List.drop_zero,List.cons_append,List.nil_append,List.take_succ_cons,List.take_zero,List.eraseIdx_cons_succ,List.eraseIdx_zero,List.eraseIdx_cons_zero,List.tail_cons,Option.toList_some] at hb
       have hb:=hb.blk
       have c0:=hEC hb 0
       have c1:=hEC hb 1
       have cl:=lBk hb
       clear hb
       have HX:=Lib.hid h4
       have HD3:=Lib.hid HD.out
       clear h4 H8 H7 HD
       obtain⟨g3,of3,he3,hgl,_,_,_,_,e4⟩:=svs_cell (HS.out.rd.fr HX.out.fr) HP.out
       cases he3
       simp only at e4
       have HO:=Lib.hid (Has.row (show Has w _ (Hp.row 117 5 v8 E'.length (svs E')::_) from (HX.out.ord 3 [2])))
       go_wp2
       (refine wRT (by kernel_rfl) (by kernel_rfl) ?_)
       go_wp2_with (at_builtin;refine append_sv (n:=E'.length) (base:=0) (xs:=svs E') (y:=⟨(vx,ax,cx),(D3,a83,c83),st⟩) rfl rfl rfl ?e13 rfl ?e23 ?e33 ?e43 ?_)
       case e13=>exact oOB HO.out fun g hg=>hAE _ _ _ (oLT HO.out hg)
       case e23=>first|(first|(rw [hAC,if_pos rfl];done)|exact (Array.getElem?_eq_some_iff.1 ((hAC _ _ _).trans (if_pos rfl))).2|(simp only [hDR,hDN];rw [hAC,if_pos rfl];done))|(refine (Array.getElem?_eq_some_iff.1 ?_).2;(repeat first|rw [if_pos (by omega)]|rw [if_neg (by omega)]|rw [hDR]|rw [hDN]|rw [hAz]|rw [hSz]|rw [hAC]|rw [hSC]|rw [oMS]|rw [uPC]|rw [lSZ]|rw [lSS]|rfl))
       case e33=>have:=HST.out.len;have:=HL.out;omega
       case e43=>omega
       intro g2 cap w10 hown1 hW1 hF1 hloc1 hg1
       rw [svs_snoc _ ⟨(vx,ax,cx),(D3,a83,c83),st⟩] at hown1
       have h9:=HX.out.ord 6 [2,3,4,5]
       simp only [List.filterMap_cons,List.filterMap_nil,List.getElem?_cons_zero,List.getElem?_cons_succ,List.drop_succ_cons,List.drop_zero,List.cons_append,List.nil_append,List.take_succ_cons,List.take_zero,List.eraseIdx_cons_succ,List.eraseIdx_zero,List.eraseIdx_cons_zero,List.tail_cons,Option.toList_some] at h9
       have h9:=hAP (n':=(E'++([⟨(vx,ax,cx),(D3,a83,c83),st⟩]:List SV)).length) (h9.step (by (repeat first|exact Fr.refl _ _|assumption|apply Fr.n|apply Fr.d|apply Fr.a|refine Fr.s ?_ (.inr (by simp;try omega)) _))) (by rw [List.length_append];exact hown1) rfl hF1 (by rcases hloc1 with h|h;exact .inl h;exact .inr (by rw [h];simp))
       have H9:=Lib.hid h9
       clear a0 a1 az0 az1 al b0 b1 bz0 bz1 bl c0 c1 cl
       clear e4 hgl h9 hown1 hW1 hF1 hloc1 hg1 HO
       go_wp2
       refine Strict.intro rfl ?_
       go_wp2
       go_roundw
       case rel =>
        refine⟨i+1,_,E'++[⟨(vx,ax,cx),(D3,a83,c83),st⟩],((D3,a83,c83)::L),⟨rfl,by go_num⟩,HST.out.add HP.out (show quadOf H ⟨vx,vy,st⟩=k by rw [quad_iff HK.out,HEB.out,HSB.out,HKO.out.1,HKO.out.2];decide) ?_ (fun z hz=>by first|exact hz|simp [hz]) ⟨.inl HEL.out.1,.inr (by simp)⟩ (H9.out.step (by (repeat first|exact Fr.refl _ _|assumption|apply Fr.n|apply Fr.d|apply Fr.a|refine Fr.s ?_ (.inr (by simp;try omega)) _)))⟩
        have h1:=HEB.out
        have h2:=HSB.out
        simp only [decide_eq_true_eq,decide_eq_false_iff_not] at h1 h2
        have h3:=HD3.out
        exact into_eq (by dsimp only;omega) (by dsimp only;omega)
       case measure=>simp [intOf];omega
      | false =>
       go_wp2
       go_roundw
       case rel=>exact⟨i+1,v8,E',L,⟨rfl,by go_num⟩,HST.out.skip HP.out (show quadOf H ⟨vx,vy,st⟩≠k by rw [Ne,quad_iff HK.out,HEB.out,HSB.out,HKO.out.1,HKO.out.2];decide) ((H6.out.ord 6 [2,3,4,5]).step (by (repeat first|exact Fr.refl _ _|assumption|apply Fr.n|apply Fr.d|apply Fr.a|refine Fr.s ?_ (.inr (by simp;try omega)) _)))⟩
       case measure=>simp [intOf];omega
    | false =>
     cases ko with
     | true =>
      cases ks with
      | true =>
       go_wp2
       go_roundw
       case rel=>exact⟨i+1,v8,E',L,⟨rfl,by go_num⟩,HST.out.skip HP.out (show quadOf H ⟨vx,vy,st⟩≠k by rw [Ne,quad_iff HK.out,HEB.out,HSB.out,HKO.out.1,HKO.out.2];decide) ((H6.out.ord 6 [2,3,4,5]).step (by (repeat first|exact Fr.refl _ _|assumption|apply Fr.n|apply Fr.d|apply Fr.a|refine Fr.s ?_ (.inr (by simp;try omega)) _)))⟩
       case measure=>simp [intOf];omega
      | false =>
       go_wp2
       go_roundw
       case rel=>exact⟨i+1,v8,E',L,⟨rfl,by go_num⟩,HST.out.skip HP.out (show quadOf H ⟨vx,vy,st⟩≠k by rw [Ne,quad_iff HK.out,HEB.out,HSB.out,HKO.out.1,HKO.out.2];decide) ((H6.out.ord 6 [2,3,4,5]).step (by (repeat first|exact Fr.refl _ _|assumption|apply Fr.n|apply Fr.d|apply Fr.a|refine Fr.s ?_ (.inr (by simp;try omega)) _)))⟩
       case measure=>simp [intOf];omega
     | false =>
      cases ks with
      | true =>
       go_wp2
       go_roundw
       case rel=>exact⟨i+1,v8,E',L,⟨rfl,by go_num⟩,HST.out.skip HP.out (show quadOf H ⟨vx,vy,st⟩≠k by rw [Ne,quad_iff HK.out,HEB.out,HSB.out,HKO.out.1,HKO.out.2];decide) ((H6.out.ord 6 [2,3,4,5]).step (by (repeat first|exact Fr.refl _ _|assumption|apply Fr.n|apply Fr.d|apply Fr.a|refine Fr.s ?_ (.inr (by simp;try omega)) _)))⟩
       case measure=>simp [intOf];omega
      | false =>
       obtain⟨g3,of3,he3,hgl,_,_,_,_,e4⟩:=svs_cell (HS.out.rd.fr H6.out.fr) HP.out
       cases he3
       simp only at e4
       have HO:=Lib.hid (Has.row (show Has w _ (Hp.row 117 5 v8 E'.length (svs E')::_) from (H6.out.ord 3 [2])))
       go_wp2
       (refine wRT (by kernel_rfl) (by kernel_rfl) ?_)
       go_wp2_with (at_builtin;refine append_sv (n:=E'.length) (base:=0) (xs:=svs E') (y:=⟨(vx,ax,cx),(vy,ay,cy),st⟩) rfl rfl rfl ?e14 rfl ?e24 ?e34 ?e44 ?_)
       case e14=>exact oOB HO.out fun g hg=>hAE _ _ _ (oLT HO.out hg)
       case e24=>first|(first|(rw [hAC,if_pos rfl];done)|exact (Array.getElem?_eq_some_iff.1 ((hAC _ _ _).trans (if_pos rfl))).2|(simp only [hDR,hDN];rw [hAC,if_pos rfl];done))|(refine (Array.getElem?_eq_some_iff.1 ?_).2;(repeat first|rw [if_pos (by omega)]|rw [if_neg (by omega)]|rw [hDR]|rw [hDN]|rw [hAz]|rw [hSz]|rw [hAC]|rw [hSC]|rw [oMS]|rw [uPC]|rw [lSZ]|rw [lSS]|rfl))
       case e34=>have:=HST.out.len;have:=HL.out;omega
       case e44=>omega
       intro g2 cap w10 hown1 hW1 hF1 hloc1 hg1
       rw [svs_snoc _ ⟨(vx,ax,cx),(vy,ay,cy),st⟩] at hown1
       have h9:=H6.out.ord 6 [2,3,4,5]
       simp only [List.filterMap_cons,List.filterMap_nil,List.getElem?_cons_zero,List.getElem?_cons_succ,List.drop_succ_cons,List.drop_zero,List.cons_append,List.nil_append,List.take_succ_cons,List.take_zero,List.eraseIdx_cons_succ,List.eraseIdx_zero,List.eraseIdx_cons_zero,List.tail_cons,Option.toList_some] at h9
       have h9:=hAP (n':=(E'++([⟨(vx,ax,cx),(vy,ay,cy),st⟩]:List SV)).length) (h9.step (by (repeat first|exact Fr.refl _ _|assumption|apply Fr.n|apply Fr.d|apply Fr.a|refine Fr.s ?_ (.inr (by simp;try omega)) _))) (by rw [List.length_append];exact hown1) rfl hF1 (by rcases hloc1 with h|h;exact .inl h;exact .inr (by rw [h];simp))
       have H9:=Lib.hid h9
       clear a0 a1 az0 az1 al b0 b1 bz0 bz1 bl c0 c1 cl
       clear e4 hgl h9 hown1 hW1 hF1 hloc1 hg1 HO
       go_wp2
       refine Strict.intro rfl ?_
       go_wp2
       go_roundw
       case rel =>
        refine⟨i+1,_,E'++[⟨(vx,ax,cx),(vy,ay,cy),st⟩],L,⟨rfl,by go_num⟩,HST.out.add HP.out (show quadOf H ⟨vx,vy,st⟩=k by rw [quad_iff HK.out,HEB.out,HSB.out,HKO.out.1,HKO.out.2];decide) ?_ (fun z hz=>by first|exact hz|simp [hz]) ⟨.inl HEL.out.1,.inl HEL.out.2⟩ (H9.out.step (by (repeat first|exact Fr.refl _ _|assumption|apply Fr.n|apply Fr.d|apply Fr.a|refine Fr.s ?_ (.inr (by simp;try omega)) _)))⟩
        have h1:=HEB.out
        have h2:=HSB.out
        simp only [decide_eq_true_eq,decide_eq_false_iff_not] at h1 h2
        skip
        exact into_eq (by dsimp only;omega) (by dsimp only;omega)
       case measure=>simp [intOf];omega
  ·obtain rfl:i=m:=by omega
   have HR:=Lib.hid (show PartPostY w F E H k (.returned v8) wr from PSt.done HS.out HF.out (HM.out▸HST.out))
   clear HST
   go_wp2
   go_ret
   exact HR.out
end Go.Proofs.Ytppmnmheodimoaa
end
