/- Own texts of this claim, part 33: no condition. -/
import Derived.IntWalk
import Derived.Deep.RegionHeld3
import Derived.Deep.DeepCutAuto
import Derived.Test.YtdanghnadbkhfaaGreatZG30
import Derived.Test.YtdanghnadbkhfaaGreatZG31
import Derived.Test.YtdanghnadbkhfaaGreatZG20
set_option linter.unusedVariables false
set_option linter.unusedSimpArgs false
section
namespace Go.Proofs.YtdanghnadbkhfaaGreat
open Go Go.RowKit Rg Mp Hp Qs Ev Bn Pt
theorem in_zi {w:World} {z:Int} {a:Option Addr} {c:Nat} (h:BigIn w (decide (z<0)) (zd z) a c):BigZ w (fun _=>True) (.agg #[.bool (decide (z<0)),.slice a (zd z).length c]) z :=
 ⟨a,c,rfl,h.len,fun _ _=>trivial,h.rd⟩
structure FrSt (W wr:World) (b:Nat) (s:Int) (ns:List K4) (Ps:List Res) (p:List PC) (x y:Int) (L i:Nat) (v:Value) (E:List SV) (PL:List BV):Prop where
 le:i≤p.length
 mp:E.map SV.spot=(p.take i).map (spot x y)
 all:(p.take i).all (inC x y L)=true
 el:∀ e∈E,e.X∈PL∧e.Y∈PL
 has:Has W wr (Hp.row 117 5 v E.length (svs E)::poolR PL::refR b s ns::Ps)
theorem FrSt.len {W wr:World} {b:Nat} {s:Int} {ns:List K4} {Ps:List Res} {p:List PC} {x y:Int} {L i:Nat} {v:Value} {E:List SV} {PL:List BV} (h:FrSt W wr b s ns Ps p x y L i v E PL):E.length≤p.length:=by
 have:=congrArg List.length h.mp
 rw [map_spot_len,List.length_map,List.length_take] at this
 omega
theorem FrSt.add {W wr w2:World} {b:Nat} {s:Int} {ns:List K4} {Ps:List Res} {p:List PC} {x y:Int} {L i:Nat} {v v2:Value} {E:List SV} {PL:List BV} (h:FrSt W wr b s ns Ps p x y L i v E PL) {c:PC} {e:SV} (hc:p[i]?=some c) (hi:inC x y L c=true) (he:e.spot=spot x y c)
  (hw:Has W w2 (Hp.row 117 5 v2 (E++[e]).length (svs (E++[e]))::poolR (e.Y::e.X::PL)::refR b s ns::Ps)):FrSt W w2 b s ns Ps p x y L (i+1) v2 (E++[e]) (e.Y::e.X::PL) :=
 ⟨(
  List.getElem?_eq_some_iff.1 hc).1,by rw [List.map_append,h.mp,List.take_add_one,hc,List.map_append];show _++[e.spot]=_++[spot x y c];rw [he],all_take h.all hc hi,fun z hz=>by
  rw [List.mem_append] at hz
  rcases hz with hz|hz
  ·have:=h.el z hz;exact⟨by simp [this.1],by simp [this.2]⟩
  ·rw [List.mem_singleton] at hz;subst hz;simp,hw⟩
theorem sp_of_has {w:World} {F:List Nat} {v:Value} {E:List SV} {PL:List BV} (h1:∃ G,(Hp.row 117 5 v E.length (svs E)).holds w G∧∀ x∈G,x∉F) (h2:∃ G,(poolR PL).holds w G∧∀ x∈G,x∉F) (he:∀ e∈E,e.X∈PL∧e.Y∈PL):SpAt w F v E:=by
 obtain⟨G,⟨g1,g2⟩,g3⟩:=h1
 obtain⟨H,⟨k1,k2⟩,k3⟩:=h2
 refine⟨Reads.of_owns g1,fun _ x hx=>g3 x (by rw [g2,hx];simp),fun e hm=>?_⟩
 obtain⟨m1,m2⟩:=he e hm
 exact⟨⟨(k1 _ m1).1,fun x hx=>k3 x ((k1 _ m1).2 x hx)⟩,⟨(k1 _ m2).1,fun x hx=>k3 x ((k1 _ m2).2 x hx)⟩⟩
theorem inB_less {n f:Int} {L:Nat}:lessB (n - f) L=inB n f L:=by
 unfold lessB inB
 rw [decide_eq_decide]
 omega
set_option maxHeartbeats 16000000 in
set_option maxRecDepth 100000 in
theorem RFrom_q {W w:World} {b:Nat} {s:Int} {ns:List K4} {Ps:List Res} (h:Has W w (refR b s ns::Ps)) {p:List PC} {a:Option Addr} {c:Nat} (hp:CellsAt W (.slice a p.length c) p) (hlen:p.length≤4000000000000000000) (x y level:Int) (hx:-9223372036854775808≤x∧x<9223372036854775808) (hy:-9223372036854775808≤y∧y<9223372036854775808)
  (hroom:∀ L:Nat,level=L→L≤256→rightP p=true→room s ns (dums++(emptiesT L++newT L (p.map (spot x y))))) :
  Calls Tryz.prog 21 #[.pointer (some ⟨b,0,none⟩),.slice a p.length c,.int .i64 x,.int .i64 y,.int .i64 level] w fun e w'=>e=.returned (.tuple #[.int .i64 (fromQ s ns p x y level).1.1,.int .i64 (fromQ s ns p x y level).1.2])∧Has W w' (refR b s (fromQ s ns p x y level).2::Ps):=by
 have H:=Lib.hid h
 have HP:=Lib.hid hp
 have HLN:=Lib.hid hlen
 have hgood:=ref_good h
 unfold fromQ
 cases hr:rightP p with
 | false =>
  have HR:=Lib.hid hr
  simp only [if_true]
  clear h hp hr hx hy hlen hroom hgood
  go_enter Tryz.func21,Tryz.ntmps21
  go_wp2_with fail
  refine (RRight_p (HP.out.fr (H.out.fr.trans0 (by (repeat first|exact Fr.refl _ _|assumption|apply Fr.n|apply Fr.d|apply Fr.a|refine Fr.s ?_ (.inr (by simp;try omega)) _)))) (by have:=HLN.out;omega)).mono ?_
  rw [HR.out]
  rintro e w1 ⟨rfl,hf⟩
  have H1:=Lib.hid (H.out.step (Fr.trans0 (by (repeat first|exact Fr.refl _ _|assumption|apply Fr.n|apply Fr.d|apply Fr.a|refine Fr.s ?_ (.inr (by simp;try omega)) _)) hf))
  clear hf
  go_wp2
  go_ret2
  exact⟨rfl,H1.out⟩
 | true =>
 have HR:=Lib.hid hr
 simp only [Bool.true_eq_false,if_false]
 by_cases hl0:level<0
 ·rw [if_pos (.inl hl0)]
  have hd:decide (level<0)=true:=by simpa using hl0
  clear h hp hr hx hy hlen hroom hgood hl0
  go_enter Tryz.func21,Tryz.ntmps21
  go_wp2_with fail
  refine (RRight_p (HP.out.fr (H.out.fr.trans0 (by (repeat first|exact Fr.refl _ _|assumption|apply Fr.n|apply Fr.d|apply Fr.a|refine Fr.s ?_ (.inr (by simp;try omega)) _)))) (by have:=HLN.out;omega)).mono ?_
  rw [HR.out]
  rintro e w1 ⟨rfl,hf⟩
  have H1:=Lib.hid (H.out.step (Fr.trans0 (by (repeat first|exact Fr.refl _ _|assumption|apply Fr.n|apply Fr.d|apply Fr.a|refine Fr.s ?_ (.inr (by simp;try omega)) _)) hf))
  clear hf
  go_wp2
  go_ret2
  exact⟨rfl,H1.out⟩
 have hd:decide (level<0)=false:=by simpa using hl0
 by_cases hl1:256<level
 ·rw [if_pos (.inr hl1)]
  have hd2:decide (level > 256)=true:=by simpa using hl1
  clear h hp hr hx hy hlen hroom hgood hl0 hl1
  go_enter Tryz.func21,Tryz.ntmps21
  go_wp2_with fail
  refine (RRight_p (HP.out.fr (H.out.fr.trans0 (by (repeat first|exact Fr.refl _ _|assumption|apply Fr.n|apply Fr.d|apply Fr.a|refine Fr.s ?_ (.inr (by simp;try omega)) _)))) (by have:=HLN.out;omega)).mono ?_
  rw [HR.out]
  rintro e w1 ⟨rfl,hf⟩
  have H1:=Lib.hid (H.out.step (Fr.trans0 (by (repeat first|exact Fr.refl _ _|assumption|apply Fr.n|apply Fr.d|apply Fr.a|refine Fr.s ?_ (.inr (by simp;try omega)) _)) hf))
  clear hf
  go_wp2
  go_ret2
  exact⟨rfl,H1.out⟩
 have hd2:decide (level > 256)=false:=by simpa using hl1
 rw [if_neg (by omega)]
 obtain⟨L,hLL⟩:=Int.eq_ofNat_of_zero_le (show 0≤level by omega)
 have hL256:L≤256:=by omega
 have HRM:=Lib.hid (hroom L hLL hL256 hr)
 have HLL:=Lib.hid hLL
 rw [show level.toNat=L by omega]
 obtain⟨R,hR⟩:∃ R,(if p.all (inC x y L)=false then (((0:Int),(5:Int)),ns) else if p.all (stB s)=false then ((0,10),ns) else buildQ s L ns (p.map (spot x y)))=R:=⟨_,rfl⟩
 rw [hR]
 have HRR:=Lib.hid hR
 obtain⟨hp5,hpc⟩:=right_cell hr
 have HPC:=Lib.hid hpc
 have HXY:=Lib.hid (And.intro hx hy)
 have HG:=Lib.hid hgood
 obtain⟨m,hm⟩:∃ m,p.length=m:=⟨_,rfl⟩
 have HM:=Lib.hid hm
 have hm5:m≤5000:=by omega
 rw [hm] at HP HLN ⊢
 have HRIGHT:=Lib.hid (fun w1 (hf:Fr [] W w1)=>RRight_p (hp.fr hf) hlen)
 rw [hm] at HRIGHT
 have HTOP:=Lib.hid (fun w1 (hf:Fr [] W w1)=>Rtop_p (hp.fr hf) (by omega))
 rw [hm] at HTOP
 have H0:=Lib.hid (fun w1 (h1:Has W w1 (refR b s ns::Ps))=>show FrSt W w1 b s ns Ps p x y L 0 (.slice none 0 0) [] [] from ⟨by omega,by simp,by simp,by simp,(pool_nil h1).newRow (T:=117) (size:=5) (Fr.refl [] _) (owns_nil0 _ _ _ _)⟩)
 clear h hp hr hx hy hlen hroom hgood hl0 hl1 hLL hR hpc hp5 hm
 go_enter Tryz.func21,Tryz.ntmps21
 go_wp2_with fail
 refine (HRIGHT.out _ (H.out.fr.trans0 (by (repeat first|exact Fr.refl _ _|assumption|apply Fr.n|apply Fr.d|apply Fr.a|refine Fr.s ?_ (.inr (by simp;try omega)) _)))).mono ?_
 rw [HR.out]
 rintro e w1 ⟨rfl,hf⟩
 have H1:=Lib.hid (H0.out _ (H.out.step (Fr.trans0 (by (repeat first|exact Fr.refl _ _|assumption|apply Fr.n|apply Fr.d|apply Fr.a|refine Fr.s ?_ (.inr (by simp;try omega)) _)) hf)))
 clear hf H0 H HRIGHT
 go_wp2
 go_loopw [12,13] (fun x12 x13 wr=>∃ (i:Nat) (v:Value) (E:List SV) (PL:List BV),(v=x12∧x13=.int .i64 (i:Nat))∧FrSt W wr b s ns Ps p x y L i v E PL) (fun _ z _=>m - (intOf z).toNat)
 case atStart=>exact⟨0,_,[],[],⟨rfl,rfl⟩,H1.out⟩
 case round =>
  clear H1
  obtain⟨i,v12,E,PL,⟨rfl,rfl⟩,hst⟩:=hrel
  have HST:=Lib.hid hst
  have him:i≤m:=by rw [← HM.out];exact hst.le
  clear hst
  by_cases hlt:i<m
  ·obtain⟨⟨cx,cy,st⟩,hpi⟩:∃ c,p[i]?=some c:=⟨_,List.getElem?_eq_getElem (by rw [HM.out];exact hlt)⟩
   obtain⟨g,off,rfl,hg,e0,e1,e2⟩:=(HP.out.fr HST.out.has.fr).cell hpi
   simp only at e0 e1 e2
   have hcc:=HPC.out _ (List.mem_of_getElem? hpi)
   simp only at hcc
   have HPI:=Lib.hid hpi
   have HINC:=Lib.hid (show inC x y L ⟨cx,cy,st⟩=(inB cx x L && inB cy y L) from rfl)
   have HMX:=Lib.hid (fun w1=>Rminus_h (Has.nil (Fr.refl [] w1)) (x:=cx) (y:=x) (by omega) HXY.out.1)
   have HMY:=Lib.hid (fun w1=>Rminus_h (Has.nil (Fr.refl [] w1)) (x:=cy) (y:=y) (by omega) HXY.out.2)
   have HLX:=Lib.hid (fun w1 a c (hb:BigIn w1 (decide (cx - x<0)) (zd (cx - x)) a c)=>Rless_z (in_zi hb) (zok_small (by have:=HXY.out;omega) (by have:=HXY.out;omega)) (n:=L) (by omega))
   have HLY:=Lib.hid (fun w1 a c (hb:BigIn w1 (decide (cy - y<0)) (zd (cy - y)) a c)=>Rless_z (in_zi hb) (zok_small (by have:=HXY.out;omega) (by have:=HXY.out;omega)) (n:=L) (by omega))
   rw [inB_less] at HLX HLY
   rw [← HLL.out] at HLX HLY
   have HB1:=Lib.hid (show inB cx x L=true→x≤cx by unfold inB;simp;omega)
   have HB2:=Lib.hid (show inB cy y L=true→y≤cy by unfold inB;simp;omega)
   obtain⟨o1,ho1⟩:∃ o,inB cx x L=o:=⟨_,rfl⟩
   obtain⟨o2,ho2⟩:∃ o,inB cy y L=o:=⟨_,rfl⟩
   rw [ho1] at HLX HINC HB1
   rw [ho2] at HLY HINC HB2
   obtain⟨nx,hnx⟩:∃ o,decide (cx - x<0)=o:=⟨_,rfl⟩
   obtain⟨ny,hny⟩:∃ o,decide (cy - y<0)=o:=⟨_,rfl⟩
   obtain⟨D1,hD1⟩:∃ o,zd (cx - x)=o:=⟨_,rfl⟩
   obtain⟨D2,hD2⟩:∃ o,zd (cy - y)=o:=⟨_,rfl⟩
   rw [hnx,hD1] at HMX HLX
   rw [hny,hD2] at HMY HLY
   have HND:=Lib.hid (And.intro hnx (And.intro hD1 (And.intro hny hD2)))
   have ne0:=World.new_ne wr _ e0
   clear hpi hcc ho1 ho2 hnx hny hD1 hD2
   go_wp2
   go_cut [14] (fun s14 wx=>∃ (xb:Nat) (a1:Option Addr) (c1:Nat) (a2:Option Addr) (c2:Nat),s14=.pointer (some ⟨xb,0,none⟩)∧Hid (Has W wx (Hp.blk xb (.cells #[.bool nx,.slice a1 D1.length c1,.bool ny,.slice a2 D2.length c2,.int .i64 st] 117 (0,0))::bigR ny D2 a2 c2::bigR nx D1 a1 c1::Hp.row 117 5 v12 E.length (svs E)::poolR PL::refR b s ns::Ps)))
   case first =>
    go_region_held3 (fun w'=>w'.cell? ⟨g,off+i*3,none⟩=some (.int .i64 cx)∧w'.cell? ⟨g,off+i*3+1,none⟩=some (.int .i64 cy)∧w'.cell? ⟨g,off+i*3+2,none⟩=some (.int .i64 st)) (first|go_keep|exact⟨kA0,kA1,kA2⟩|exact⟨kB0,kB1,kB2⟩)
     (first|(have hmk:=KA;clear hmk;go_at_call 67;refine (HMY.out _).mono ?_;rintro e wB ⟨a2,c2,rfl,kB⟩;have KB:=Lib.hid kB;have hfB:=kB.fr;clear kB;have hrB:Fr [] wr wB:=Fr.trans0 (Fr.trans0 hrA (by (repeat first|exact Fr.refl _ _|assumption|apply Fr.n|apply Fr.d|apply Fr.a|refine Fr.s ?_ (.inl (by simp)) _):Fr [] wA _)) hfB;have kB0:=(hrB.cell (p:=⟨g,off+i*3,none⟩) hg (by simp)).trans e0;have kB1:=(hrB.cell (p:=⟨g,off+i*3+1,none⟩) hg (by simp)).trans e1;have kB2:=(hrB.cell (p:=⟨g,off+i*3+2,none⟩) hg (by simp)).trans e2;have nB0:=World.new_ne wB _ kB0;obtain⟨cB,zB⟩:=frcell hfB;(try (have sB:wA.heap.size<wB.heap.size:=by have h:=hfB.size;(try simp at h);omega));(try (have sC:wr.heap.size<wB.heap.size:=by have h:=hfB.size;(try simp at h);omega)))|(go_at_call 67;refine (HMX.out _).mono ?_;rintro e wA ⟨a1,c1,rfl,kA⟩;have KA:=Lib.hid kA;have hfA:=kA.fr;clear kA;have hrA:Fr [] wr wA:=Fr.trans0 (by (repeat first|exact Fr.refl _ _|assumption|apply Fr.n|apply Fr.d|apply Fr.a|refine Fr.s ?_ (.inl (by simp)) _)) hfA;have kA0:=(hrA.cell (p:=⟨g,off+i*3,none⟩) hg (by simp)).trans e0;have kA1:=(hrA.cell (p:=⟨g,off+i*3+1,none⟩) hg (by simp)).trans e1;have kA2:=(hrA.cell (p:=⟨g,off+i*3+2,none⟩) hg (by simp)).trans e2;have nA0:=World.new_ne wA _ kA0;obtain⟨cA,zA⟩:=frcell hfA;(try (have sA:wr.heap.size<wA.heap.size:=by have h:=hfA.size;(try simp at h);omega))))
    ·go_wp2_with fail
     go_meet
     have k1:=has_join (HST.out.has.step (by (repeat first|exact Fr.refl _ _|assumption|apply Fr.n|apply Fr.d|apply Fr.a|refine Fr.s ?_ (.inr (by simp;try omega)) _))) KA.out
     have k2:=has_join (k1.step (by (repeat first|exact Fr.refl _ _|assumption|apply Fr.n|apply Fr.d|apply Fr.a|refine Fr.s ?_ (.inr (by simp;try omega)) _))) KB.out
     simp only [List.cons_append,List.nil_append] at k2
     have k3:=hAL k2 #[.bool nx,.slice a1 D1.length c1,.bool ny,.slice a2 D2.length c2,.int .i64 st] 117
     exact⟨_,a1,c1,a2,c2,rfl,Lib.hid k3⟩
    ·go_wp2_with fail
     go_meet
     have k1:=has_join (HST.out.has.step (by (repeat first|exact Fr.refl _ _|assumption|apply Fr.n|apply Fr.d|apply Fr.a|refine Fr.s ?_ (.inr (by simp;try omega)) _))) KA.out
     have k2:=hAL k1 #[.bool false,.slice none 0 0,.bool false,.slice none 0 0,.int .i64 0] 117
     have k3:=has_join (k2.step (by (repeat first|exact Fr.refl _ _|assumption|apply Fr.n|apply Fr.d|apply Fr.a|refine Fr.s ?_ (.inr (by simp;try omega)) _))) KB.out
     simp only [List.cons_append,List.nil_append] at k3
     have k4:=hST (hST (hST (hST (hST k3.swap 0 (.bool nx)) 1 (.slice a1 D1.length c1)) 2 (.bool ny)) 3 (.slice a2 D2.length c2)) 4 (.int .i64 st)
     exact⟨_,a1,c1,a2,c2,rfl,Lib.hid k4⟩
    ·go_wp2_with fail
     go_meet
     have k1:=hAL HST.out.has #[.bool false,.slice none 0 0,.bool false,.slice none 0 0,.int .i64 0] 117
     have k2:=has_join (k1.step (by (repeat first|exact Fr.refl _ _|assumption|apply Fr.n|apply Fr.d|apply Fr.a|refine Fr.s ?_ (.inr (by simp;try omega)) _))) KA.out
     have k3:=has_join (k2.step (by (repeat first|exact Fr.refl _ _|assumption|apply Fr.n|apply Fr.d|apply Fr.a|refine Fr.s ?_ (.inr (by simp;try omega)) _))) KB.out
     simp only [List.cons_append,List.nil_append] at k3
     have k4:=hST (hST (hST (hST (hST k3.third 0 (.bool nx)) 1 (.slice a1 D1.length c1)) 2 (.bool ny)) 3 (.slice a2 D2.length c2)) 4 (.int .i64 st)
     exact⟨_,a1,c1,a2,c2,rfl,Lib.hid k4⟩
   case rest =>
   obtain⟨xb,a1,c1,a2,c2,rfl,HC⟩:=hcut
   have hb:=HC.out.blk
   have y0:=hEC hb 0
   have y1:=hEC hb 1
   have y2:=hEC hb 2
   have y3:=hEC hb 3
   have y4:=hEC hb 4
   have yl:=lBk hb
   clear hb e0 e1 e2 hg ne0 HMX HMY
   go_wp2_with fail
   refine (HLX.out _ _ _ (big_mem9 (HC.out.step (by (repeat first|exact Fr.refl _ _|assumption|apply Fr.n|apply Fr.d|apply Fr.a|refine Fr.s ?_ (.inr (by simp;try omega)) _))) (by simp))).mono ?_
   rintro e w5 ⟨rfl,hf5⟩
   have h5:=HC.out.step (Fr.trans0 (by (repeat first|exact Fr.refl _ _|assumption|apply Fr.n|apply Fr.d|apply Fr.a|refine Fr.s ?_ (.inr (by simp;try omega)) _)) hf5)
   have H5:=Lib.hid h5
   clear y0 y1 y2 y3 y4 yl hf5 h5
   cases o1 with
   | false =>
    have HBAD:=Lib.hid (all_bad (f:=inC x y L) HPI.out (HINC.out.trans (by simp)))
    go_wp2
    go_ret2
    have hR:=HRR.out
    simp only [HBAD.out,if_true] at hR
    subst hR
    exact⟨rfl,(H5.out.ord 6 [5]).step (by (repeat first|exact Fr.refl _ _|assumption|apply Fr.n|apply Fr.d|apply Fr.a|refine Fr.s ?_ (.inr (by simp;try omega)) _))⟩
   | true =>
   have hb:=H5.out.blk
   have y0:=hEC hb 0
   have y1:=hEC hb 1
   have y2:=hEC hb 2
   have y3:=hEC hb 3
   have y4:=hEC hb 4
   have yl:=lBk hb
   clear hb
   go_wp2_with fail
   refine (HLY.out _ _ _ (big_mem9 (H5.out.step (by (repeat first|exact Fr.refl _ _|assumption|apply Fr.n|apply Fr.d|apply Fr.a|refine Fr.s ?_ (.inr (by simp;try omega)) _))) (by simp))).mono ?_
   rintro e w6 ⟨rfl,hf6⟩
   have h6:=H5.out.step (Fr.trans0 (by (repeat first|exact Fr.refl _ _|assumption|apply Fr.n|apply Fr.d|apply Fr.a|refine Fr.s ?_ (.inr (by simp;try omega)) _)) hf6)
   have H5:=Lib.hid h6
   clear y0 y1 y2 y3 y4 yl hf6 h6
   cases o2 with
   | false =>
    have HBAD:=Lib.hid (all_bad (f:=inC x y L) HPI.out (HINC.out.trans (by simp)))
    go_wp2
    go_ret2
    have hR:=HRR.out
    simp only [HBAD.out,if_true] at hR
    subst hR
    exact⟨rfl,(H5.out.ord 6 [5]).step (by (repeat first|exact Fr.refl _ _|assumption|apply Fr.n|apply Fr.d|apply Fr.a|refine Fr.s ?_ (.inr (by simp;try omega)) _))⟩
   | true =>
   obtain⟨X,hX⟩:∃ X:Nat,(X:Int)=cx - x:=⟨(cx - x).toNat,by have:=HB1.out (by simp);omega⟩
   obtain⟨Y,hY⟩:∃ Y:Nat,(Y:Int)=cy - y:=⟨(cy - y).toNat,by have:=HB2.out (by simp);omega⟩
   obtain⟨hn1,hn2,hn3,hn4⟩:=HND.out
   rw [← hX] at hn1 hn2
   rw [← hY] at hn3 hn4
   rw [show decide (((X:Nat):Int)<0)=false by simp] at hn1
   rw [show decide (((Y:Nat):Int)<0)=false by simp] at hn3
   subst hn1 hn2 hn3 hn4
   have HSPT:=Lib.hid (show SV.spot ⟨(X,a1,c1),(Y,a2,c2),st⟩=spot x y ⟨cx,cy,st⟩ by unfold SV.spot spot;simp only [Spot.mk.injEq,and_true];omega)
   have HNP:=Lib.hid (show inC x y L ⟨cx,cy,st⟩=true from HINC.out.trans (by simp))
   clear hX hY HND HLX HLY HB1 HB2 HC
   have hb:=H5.out.blk
   have y0:=hEC hb 0
   have y1:=hEC hb 1
   have y2:=hEC hb 2
   have y3:=hEC hb 3
   have y4:=hEC hb 4
   have yl:=lBk hb
   clear hb
   have h7:=H5.out.ord 6 [3,2,4,1,5]
   simp only [List.filterMap_cons,List.filterMap_nil,List.getElem?_cons_zero,List.getElem?_cons_succ,List.drop_succ_cons,List.drop_zero,List.cons_append,List.nil_append] at h7
   have HO:=Lib.hid h7.row
   have H7:=Lib.hid h7
   clear h7
   go_wp2_with (at_builtin;refine append_sv (n:=E.length) (base:=0) (xs:=svs E) (y:=⟨(X,a1,c1),(Y,a2,c2),st⟩) rfl rfl rfl ?e1 rfl ?e2 ?e3 ?e4 ?_)
   case e1=>exact oOB HO.out fun g hg=>hAE _ _ _ (oLT HO.out hg)
   case e2=>first|(first|(rw [hAC,if_pos rfl];done)|exact (Array.getElem?_eq_some_iff.1 ((hAC _ _ _).trans (if_pos rfl))).2|(simp only [hDR,hDN];rw [hAC,if_pos rfl];done))|(refine (Array.getElem?_eq_some_iff.1 ?_).2;(repeat first|rw [if_pos (by omega)]|rw [if_neg (by omega)]|rw [hDR]|rw [hDN]|rw [hAz]|rw [hSz]|rw [hAC]|rw [hSC]|rw [oMS]|rw [uPC]|rw [lSZ]|rw [lSS]|rfl))
   case e3=>have:=HST.out.len;have:=HM.out;omega
   case e4=>omega
   intro g2 cap w10 hown1 hW1 hF1 hloc1 hg1
   rw [svs_snoc _ ⟨(X,a1,c1),(Y,a2,c2),st⟩] at hown1
   have h9:=hAP (n':=(E++([⟨(X,a1,c1),(Y,a2,c2),st⟩]:List SV)).length) (H7.out.step (by (repeat first|exact Fr.refl _ _|assumption|apply Fr.n|apply Fr.d|apply Fr.a|refine Fr.s ?_ (.inr (by simp;try omega)) _))) (by rw [List.length_append];exact hown1) rfl hF1 (by rcases hloc1 with h|h;exact .inl h;exact .inr (by rw [h];simp))
   have h9:=h9.ord 5 [1,2,3,0,4]
   simp only [List.filterMap_cons,List.filterMap_nil,List.getElem?_cons_zero,List.getElem?_cons_succ,List.drop_succ_cons,List.drop_zero,List.cons_append,List.nil_append] at h9
   have h9:=(pool_add h9).ord 4 [1,0,2,3]
   simp only [List.filterMap_cons,List.filterMap_nil,List.getElem?_cons_zero,List.getElem?_cons_succ,List.drop_succ_cons,List.drop_zero,List.cons_append,List.nil_append] at h9
   have h9:=(pool_add h9).ord 3 [1,0,2]
   simp only [List.filterMap_cons,List.filterMap_nil,List.getElem?_cons_zero,List.getElem?_cons_succ,List.drop_succ_cons,List.drop_zero,List.cons_append,List.nil_append] at h9
   have H9:=Lib.hid h9
   clear y0 y1 y2 y3 y4 yl h9 hown1 hW1 hF1 hloc1 hg1 HO H7
   go_wp2
   go_roundw
   case rel=>exact⟨i+1,_,E++[⟨(X,a1,c1),(Y,a2,c2),st⟩],_,⟨rfl,by go_num⟩,HST.out.add HPI.out HNP.out HSPT.out (H9.out.step (by (repeat first|exact Fr.refl _ _|assumption|apply Fr.n|apply Fr.d|apply Fr.a|refine Fr.s ?_ (.inr (by simp;try omega)) _)))⟩
   case measure=>simp [intOf];omega
  ·obtain rfl:i=m:=by omega
   have HALL:=Lib.hid (show p.all (inC x y L)=true from by have:=HST.out.all;rwa [List.take_of_length_le (by rw [HM.out];exact Nat.le_refl _)] at this)
   have HMP:=Lib.hid (show E.map SV.spot=p.map (spot x y) from by have:=HST.out.mp;rwa [List.take_of_length_le (by rw [HM.out];exact Nat.le_refl _)] at this)
   obtain⟨tp,htp⟩:∃ tp,topP p=tp:=⟨_,rfl⟩
   rw [htp] at HTOP
   have HTP:=Lib.hid htp
   have hrow:=HST.out.has.row
   obtain⟨av,cv,rfl,_,_⟩:=oFM hrow
   clear hrow htp
   have h1:=HST.out.has.ord 3 [2,0,1]
   simp only [List.filterMap_cons,List.filterMap_nil,List.getElem?_cons_zero,List.getElem?_cons_succ,List.drop_succ_cons,List.drop_zero,List.cons_append,List.nil_append] at h1
   have H1:=Lib.hid h1
   clear h1
   go_wp2_with fail
   refine (HTOP.out _ (H1.out.fr.trans0 (by (repeat first|exact Fr.refl _ _|assumption|apply Fr.n|apply Fr.d|apply Fr.a|refine Fr.s ?_ (.inr (by simp;try omega)) _)))).mono ?_
   rintro e w5 ⟨rfl,hf5⟩
   have H2:=Lib.hid (H1.out.step (Fr.trans0 (by (repeat first|exact Fr.refl _ _|assumption|apply Fr.n|apply Fr.d|apply Fr.a|refine Fr.s ?_ (.inr (by simp;try omega)) _)) hf5))
   clear hf5 H1
   go_wp2_with fail
   refine (RData_has H2.out).mono ?_
   rintro e w6 ⟨dv,rfl,h3⟩
   obtain⟨da,dc,rfl,_,_⟩:=oFM h3.row
   have hfld:=run_field_states w6
   have H3:=Lib.hid h3.drop
   clear h3 H2
   by_cases hs:tp<s
   ·have hd9:decide (tp ≥ s)=false:=by rw [decide_eq_false_iff_not];omega
    have HST2:=Lib.hid (show ∀ c∈p,c.st<s from (topP_lt (by have:=HG.out.1;omega)).1 (by rw [HTP.out];exact hs))
    have HSB:=Lib.hid (show p.all (stB s)=true by
     rw [List.all_eq_true]
     intro c hc
     have h1:=(HPC.out c hc).2.2.1
     have h2:=HST2.out c hc
     simp only [stB,decide_eq_true_eq]
     omega)
    have HBLD:=Lib.hid (show Calls Tryz.prog 70 #[.pointer (some ⟨b,0,none⟩),.slice av E.length cv,.int .i64 level] w6 _ from H3.out.updO (P':=refR b s (buildQ s L ns (p.map (spot x y))).2) (R:=fun e=>e=.returned (.tuple #[.int .i64 (buildQ s L ns (p.map (spot x y))).1.1,.int .i64 (buildQ s L ns (p.map (spot x y))).1.2])) fun F hF hO=>by
     have hsp:=sp_of_has (F:=F) (v:=.slice av E.length cv) (PL:=PL) (hO _ (by simp)) (hO _ (by simp)) HST.out.el
     have hok:=okS_spot HR.out HALL.out HST2.out
     rw [HLL.out,← HMP.out]
     rw [← HMP.out] at hok
     exact Rbuild_all (s:=s) (L:=emptiesT L++newT L (p.map (spot x y))) (b:=b) L hL256 w6 F ns av cv E hF HRM.out hsp hok (by have:=HST.out.len;rw [HM.out] at this;omega) (fun i hi=>List.mem_append.2 (.inl (List.mem_map.2 ⟨i,List.mem_range.2 hi,rfl⟩))) (fun u hu=>List.mem_append.2 (.inr (by rw [HMP.out] at hu;exact hu))))
    have HRE:=Lib.hid (show buildQ s L ns (p.map (spot x y))=R from by
     have hR:=HRR.out
     simp only [HALL.out,HSB.out,Bool.true_eq_false,if_false] at hR
     exact hR)
    rw [HRE.out] at HBLD
    clear hs
    go_wp2_with fail
    refine HBLD.out.mono ?_
    rintro e w7 ⟨rfl,h7⟩
    have H7:=Lib.hid (h7.ord 3 [0])
    clear h7
    go_wp2
    go_ret2
    exact⟨rfl,H7.out⟩
   ·have hd9:decide (tp ≥ s)=true:=by rw [decide_eq_true_eq];omega
    have HSB:=Lib.hid (show p.all (stB s)=false by
     cases h:p.all (stB s)
     ·rfl
     ·exfalso
      apply hs
      rw [← HTP.out]
      apply (topP_lt (by have:=HG.out.1;omega)).2
      intro c hc
      have:=List.all_eq_true.1 h c hc
      simp only [stB,decide_eq_true_eq] at this
      exact this.2)
    have HRE:=Lib.hid (show R=((0,10),ns) from by
     have hR:=HRR.out
     simp only [HALL.out,HSB.out,Bool.true_eq_false,if_false,if_true] at hR
     exact hR.symm)
    clear hs
    go_wp2
    go_ret2
    rw [HRE.out]
    exact⟨rfl,(H3.out.ord 3 [0]).step (by (repeat first|exact Fr.refl _ _|assumption|apply Fr.n|apply Fr.d|apply Fr.a|refine Fr.s ?_ (.inr (by simp;try omega)) _))⟩
end Go.Proofs.YtdanghnadbkhfaaGreat
end
section
namespace Go.Proofs.YtdanghnadbkhfaaGreat
open Go Go.RowKit Rg Mp Hp Qs Ev Bn Pt
theorem cellsT_mov:∀ {n:Nat} {t:Tr} {x y:Nat},cellsT n t x y=(cellsT n t 0 0).map (movS x y)
 | 0,.leaf v,x,y=>by unfold cellsT;split<;>simp [movS]
 | 0,.node _ _ _ _,_,_=>rfl
 | n+1,.leaf _,_,_=>rfl
 | n+1,.node a b c d,x,y=>by
  have e:∀ (t:Tr) (p q:Nat),cellsT n t (x+p) (y+q)=(cellsT n t p q).map (movS x y):=fun t p q=>by
   rw [cellsT_mov (x:=x+p),cellsT_mov (x:=p),List.map_map]
   congr 1
   funext c
   simp [movS,Nat.add_assoc]
  unfold cellsT
  rw [List.map_append,List.map_append,List.map_append,← e,← e,← e,← e]
  simp
def cI (n:Nat) (t:Tr) (X Y:Int):List PC:=shC X Y (cellsT n t 0 0)
theorem cI_mov {n:Nat} {t:Tr} {X Y:Int} {p q:Nat}:shC X Y (cellsT n t p q)=cI n t (X+(p:Nat)) (Y+(q:Nat)):=by
 unfold cI shC
 rw [cellsT_mov,List.map_map]
 apply List.map_congr_left
 intro c _
 simp only [Function.comp_apply,movS,PC.mk.injEq,and_true]
 omega
def cpre (n:Nat) (t:Tr) (X Y:Int):Nat→List PC
 | 0=>[]
 | q+1=>cpre n t X Y q++cI n (Tr.q t q) (X+((if q % 2=1 then 2 ^ n else 0:Nat):Int)) (Y+((if 2≤q then 2 ^ n else 0:Nat):Int))
theorem cI_node {n:Nat} {t:Tr} (h:Full (n+1) t) (X Y:Int):cI (n+1) t X Y=cpre n t X Y 4:=by
 cases t with
 | leaf v=>exact h.elim
 | node a b c d =>
  unfold cI cellsT
  rw [shC_append,shC_append,shC_append,cI_mov,cI_mov,cI_mov,cI_mov]
  simp [cpre,Tr.q]
theorem cI_none {n:Nat} {t:Tr} {X Y:Int} (h:Full n t) (h0:popT t=0):cI n t X Y=[]:=by unfold cI;rw [cellsT_none h h0];rfl
theorem cI_leaf {v X Y:Int} (h:v≠0):cI 0 (.leaf v) X Y=[⟨X,Y,v⟩]:=by simp [cI,cellsT,h,shC]
theorem cI_len {n:Nat} {t:Tr} {X Y:Int} (h:Full n t):(cI n t X Y).length=popT t:=by unfold cI shC;rw [List.length_map,cellsT_len h]
theorem cpre_len {n:Nat} {t:Tr} {X Y:Int} (h:∀ q,q<4→Full n (Tr.q t q)):∀ {q:Nat},q≤4→(cpre n t X Y q).length=sumq t q
 | 0,_=>rfl
 | q+1,hq=>by
  unfold cpre sumq
  rw [List.length_append,cpre_len h (by omega),cI_len (h q (by omega))]
abbrev IV:=Int×Option Addr×Nat
def ivV (p:IV):Value:=.agg #[.bool (decide (p.1<0)),.slice p.2.1 (zd p.1).length p.2.2]
def ivF (p:IV):List Nat:=if (zd p.1).length=0 then [] else (Value.slice p.2.1 (zd p.1).length p.2.2).ownBlock.toList
def poolI (L:List IV):Res where
 holds w F:=(∀ e∈L,BigIn w (decide (e.1<0)) (zd e.1) e.2.1 e.2.2∧∀ x∈ivF e,x∈F)∧∀ x∈F,x<w.heap.size
 keep:=fun {w w' F} ⟨h1,h2⟩ hk=>⟨fun e he=>⟨big_keep (h1 e he).1 fun x hx=>hk x ((h1 e he).2 x hx),(h1 e he).2⟩,fun x hx=>by
  obtain⟨o,ho⟩:∃ o,w.heap[x]?=some o:=⟨_,Array.getElem?_eq_getElem (h2 x hx)⟩
  exact lBk ((hk x hx).trans ho)⟩
 lt:=fun ⟨_,h2⟩=>h2
theorem pooli_nil {W w:World} {Ps:List Res} (h:Has W w Ps):Has W w (poolI []::Ps):=h.new (Fr.refl [] w) (F:=[]) ⟨by simp,by simp⟩ (by simp)
theorem pooli_in {W w:World} {L:List IV} {Ps:List Res} (h:Has W w Ps) (hm:poolI L∈Ps) {e:IV} (he:e∈L):BigZ w (fun _=>True) (ivV e) e.1:=by
 obtain⟨F,h1,_⟩:=has_mem h hm
 exact in_zi (h1 e he).1
theorem pooli_add {W w:World} {L:List IV} {z:Int} {a:Option Addr} {c:Nat} {Ps:List Res} (h:Has W w (bigR (decide (z<0)) (zd z) a c::poolI L::Ps)):Has W w (poolI ((z,a,c)::L)::Ps) :=
 h.merge fun F G hF hG hd=>by
  obtain⟨f1,f2⟩:=hF
  obtain⟨g1,g2⟩:=hG
  refine⟨F++G,⟨fun e he=>?_,fun x hx=>?_⟩,Fr.refl _ _,fun x hx=>List.mem_append.1 hx⟩
  ·rw [List.mem_cons] at he
   rcases he with rfl|he
   ·refine⟨f1,fun x hx=>List.mem_append.2 (.inl ?_)⟩
    rw [f2];exact hx
   ·exact⟨(g1 e he).1,fun x hx=>List.mem_append.2 (.inr ((g1 e he).2 x hx))⟩
  ·rw [List.mem_append] at hx
   rcases hx with hx|hx
   ·exact big_lt f1 x (by rw [f2] at hx;exact hx)
   ·exact g2 x hx
structure SI where
 X:IV
 Y:IV
 st:Int
def SI.pc (e:SI):PC:=⟨e.X.1,e.Y.1,e.st⟩
def siE (e:SI):List Value:=[.bool (decide (e.X.1<0)),.slice e.X.2.1 (zd e.X.1).length e.X.2.2,.bool (decide (e.Y.1<0)),.slice e.Y.2.1 (zd e.Y.1).length e.Y.2.2,.int .i64 e.st]
def sis (l:List SI):List Value:=l.flatMap siE
theorem sis_get:∀ {l:List SI} {i:Nat} {c:SI},l[i]?=some c→∀ {j:Nat} {u:Value},(siE c)[j]?=some u→(sis l)[i*5+j]?=some u
 | [],i,c,h,_,_,_=>by simp at h
 | d::l,0,c,h,j,u,hu=>by
  simp only [List.getElem?_cons_zero,Option.some.injEq] at h
  subst h
  have e:sis (d::l)=siE d++sis l:=rfl
  rw [e,Nat.zero_mul,Nat.zero_add,List.getElem?_append_left (List.getElem?_eq_some_iff.1 hu).1]
  exact hu
 | d::l,i+1,c,h,j,u,hu=>by
  have:=sis_get (l:=l) (i:=i) (by simpa using h) hu
  have e:sis (d::l)=siE d++sis l:=rfl
  rw [e,List.getElem?_append_right (by simp [siE];omega),show (i+1)*5+j - (siE d).length=i*5+j by simp [siE];omega]
  exact this
theorem sis_snoc (l:List SI) (c:SI):sis l++[.bool (decide (c.X.1<0)),.slice c.X.2.1 (zd c.X.1).length c.X.2.2,.bool (decide (c.Y.1<0)),.slice c.Y.2.1 (zd c.Y.1).length c.Y.2.2,.int .i64 c.st]=sis (l++[c]):=by simp [sis,siE]
theorem sis_cell {w:World} {a:Option Addr} {n c:Nat} {l:List SI} (h:Reads w (.slice a n c) l.length 5 (sis l)) {i:Nat} {p:SI} (hi:l[i]?=some p) :
  ∃ g off,a=some ⟨g,off,none⟩∧g<w.heap.size∧w.cell? ⟨g,off+i*5,none⟩=some (.bool (decide (p.X.1<0)))∧w.cell? ⟨g,off+i*5+1,none⟩=some (.slice p.X.2.1 (zd p.X.1).length p.X.2.2)∧w.cell? ⟨g,off+i*5+2,none⟩=some (.bool (decide (p.Y.1<0)))∧w.cell? ⟨g,off+i*5+3,none⟩=some (.slice p.Y.2.1 (zd p.Y.1).length p.Y.2.2)∧w.cell? ⟨g,off+i*5+4,none⟩=some (.int .i64 p.st):=by
 obtain⟨_,a',c',he,h2⟩:=h
 cases he
 obtain⟨g,off,rfl,hg,hc⟩:=h2 (by have:=(List.getElem?_eq_some_iff.1 hi).1;omega)
 have q:∀ {j u},(siE p)[j]?=some u→w.cell? ⟨g,off+i*5+j,none⟩=some u:=fun hu=>by
  have:=hc _ _ (sis_get hi hu)
  rwa [← Nat.add_assoc] at this
 exact⟨g,off,rfl,hg,q (j:=0) rfl,q (j:=1) rfl,q (j:=2) rfl,q (j:=3) rfl,q (j:=4) rfl⟩
def rowI (v:Value) (E:List SI):Res:=Hp.row 117 5 v E.length (sis E)
theorem append_si {ops:Array Oper} {rest:List Oper} {o:Oper} {a:Act} {W:World} {Q:Exit→Act→World→Prop} (hgd:o.guard=none) {s x:Operand} (ho:o.op=.call { callee:=.builtin .append,args:=#[s,x],argTypes:=#[112,112] })
  {base:Nat} {v:Value} {n:Nat} {xs:List Value} (hs:a.eval s=v) (hown:W.ownsRow base 117 5 v n xs) {nb c:Nat} {y:SI} (hx:a.eval x=.slice (some ⟨nb,0,none⟩) 1 c)
  (hnb:W.heap[nb]?=some (.cells #[.bool (decide (y.X.1<0)),.slice y.X.2.1 (zd y.X.1).length y.X.2.2,.bool (decide (y.Y.1<0)),.slice y.Y.2.1 (zd y.Y.1).length y.Y.2.2,.int .i64 y.st] 117 (0,0))) (hn:n≤1000000000000) (hbase:base≤W.heap.size)
  (h:∀ g cap w',w'.ownsRow base 117 5 (.slice (some ⟨g,0,none⟩) (n+1) cap) (n+1) (xs++[.bool (decide (y.X.1<0)),.slice y.X.2.1 (zd y.X.1).length y.X.2.2,.bool (decide (y.Y.1<0)),.slice y.Y.2.1 (zd y.Y.1).length y.Y.2.2,.int .i64 y.st])→(∀ b,b<W.heap.size→v.ownBlock≠some b→w'.heap[b]?=W.heap[b]?)→Fr v.ownBlock.toList W w'→(v.ownBlock=some g∨g=W.heap.size)→g<w'.heap.size →
   wpList Tryz.prog ops Q rest (a.put o.dst (.slice (some ⟨g,0,none⟩) (n+1) cap)) w'):wpList Tryz.prog ops Q (o::rest) a W :=
 append_new hgd ho Tryz.underlying112 info_sv rfl (by decide) hs hown hx (news:=[.bool (decide (y.X.1<0)),.slice y.X.2.1 (zd y.X.1).length y.X.2.2,.bool (decide (y.Y.1<0)),.slice y.Y.2.1 (zd y.Y.1).length y.Y.2.2,.int .i64 y.st]) hnb rfl (by intro u hu;simp at hu;rcases hu with rfl|rfl|rfl|rfl|rfl<;>rfl) (by unfold maxLen;omega) (by omega) hbase h
theorem kids_nodeR {s:Int} {ns:List K4} {j:Nat} {k:K4} (hj:ns[j]?=some k):kidsOf s ns (s+j)=(k,true):=by
 unfold kidsOf
 rw [if_neg (by omega),show (s+(j:Int) - s).toNat=j by omega,hj]
theorem zok_abs {z:Int} {m:Nat} (h:z.natAbs≤2 ^ m) (hm:m≤2047):Zok z:=zok_le (zok_pow (n:=m) hm) (by rw [Int.natAbs_natCast];exact h)
end Go.Proofs.YtdanghnadbkhfaaGreat
end
section
namespace Go.Proofs.YtdanghnadbkhfaaGreat
open Go Go.RowKit Rg Mp Hp Qs Ev Bn Pt
def CellPost (W:World) (E:List SI) (PL:List IV) (Ps:List Res) (C:List PC) (e:Ending) (w':World):Prop :=
 ∃ (a':Option Addr) (c':Nat) (E':List SI) (PL':List IV),e=.returned (.slice a' E'.length c')∧(E'.map SI.pc=E.map SI.pc++C∧(∀ e∈E',e.X∈PL'∧e.Y∈PL')∧∀ z∈PL,z∈PL')∧Has W w' (rowI (.slice a' E'.length c') E'::poolI PL'::Ps)
structure CellHyp (s:Int) (ns:List K4) (B:List BV):Prop where
 good:GoodQ s ns
 len:(B.length:Int)=s+ns.length
 ok:BOk s ns B
def RCellAt (W:World) (b:Nat) (s:Int) (ns:List K4) (sa:Option Addr) (sc:Nat) (B:List BV) (m n:Nat):Prop :=
 ∀ (w:World) (Ps:List Res) (a:Option Addr) (c:Nat) (E:List SI) (PL:List IV) (id:Int) (t:Tr) (x y:IV),Has W w (rowI (.slice a E.length c) E::poolI PL::Ps)→refR b s ns∈Ps→rowB (.slice sa B.length sc) B∈Ps→poolR B∈Ps→Is s ns n id t→E.length+popT t≤100000→(∀ e∈E,e.X∈PL∧e.Y∈PL)→x∈PL→y∈PL →
  (x.1.natAbs+2 ^ n≤2 ^ m∧y.1.natAbs+2 ^ n≤2 ^ m) →
  Calls Tryz.prog 57 #[.pointer (some ⟨b,0,none⟩),.slice sa B.length sc,.int .i64 id,ivV x,ivV y,.slice a E.length c] w (CellPost W E PL Ps (cI n t x.1 y.1))
set_option maxHeartbeats 16000000 in
set_option maxRecDepth 100000 in
theorem Rcells_none {W:World} {b:Nat} {s:Int} {ns:List K4} {sa:Option Addr} {sc:Nat} {B:List BV} {m n:Nat} (HY:Hid (CellHyp s ns B)) (hn:n≤256) {w:World} {Ps:List Res} {a:Option Addr} {c:Nat} {E:List SI} {PL:List IV} {id:Int} {t:Tr} {x y:IV} (h:Has W w (rowI (.slice a E.length c) E::poolI PL::Ps)) (hR:refR b s ns∈Ps) (hS:rowB (.slice sa B.length sc) B∈Ps) (hP:poolR B∈Ps) (hi:Is s ns n id t) (hlen:E.length+popT t≤100000) (hel:∀ e∈E,e.X∈PL∧e.Y∈PL) (hx:x∈PL) (hy:y∈PL)
  (hz:x.1.natAbs+2 ^ n≤2 ^ m∧y.1.natAbs+2 ^ n≤2 ^ m) (h0:popT t=0) :
  Calls Tryz.prog 57 #[.pointer (some ⟨b,0,none⟩),.slice sa B.length sc,.int .i64 id,ivV x,ivV y,.slice a E.length c] w (CellPost W E PL Ps (cI n t x.1 y.1)):=by
 rw [cI_none hi.2.2.1 h0]
 have HCM:=Lib.hid (show cmpI ((popT t:Nat):Int) 0=0 from by rw [h0];rfl)
 clear h0
 obtain⟨X,ax,cx⟩:=x
 obtain⟨Y,ay,cy⟩:=y
 obtain⟨k,rfl⟩:=Int.eq_ofNat_of_zero_le hi.1.1
 obtain⟨⟨V,aV,cV⟩,hBk⟩:∃ e,B[k]?=some e:=⟨_,List.getElem?_eq_getElem (by have:=HY.out.len;have:=hi.1.2;omega)⟩
 have hVp:V=popT t:=by have:=HY.out.ok k _ hBk;rw [hi.2.1] at this;exact this
 have hkl:((k:Nat):Int)<(B.length:Nat):=by have:=HY.out.len;have:=hi.1.2;omega
 have HBK:=Lib.hid hBk
 have HVZ:=Lib.hid (show Zok (V:Int) from by rw [hVp];exact pop_zok hn hi.2.2.1)
 have HVP:=Lib.hid hVp
 have HI:=Lib.hid hi
 have HM:=Lib.hid (And.intro hR (And.intro hS hP))
 have HE:=Lib.hid (And.intro hel (And.intro hx hy))
 have HZ:=Lib.hid hz
 have HLN:=Lib.hid hlen
 obtain⟨nx,hnx⟩:∃ o,decide (X<0)=o:=⟨_,rfl⟩
 obtain⟨ny,hny⟩:∃ o,decide (Y<0)=o:=⟨_,rfl⟩
 obtain⟨Dx,hDx⟩:∃ o,zd X=o:=⟨_,rfl⟩
 obtain⟨Dy,hDy⟩:∃ o,zd Y=o:=⟨_,rfl⟩
 have HND:=Lib.hid (And.intro hnx (And.intro hDx (And.intro hny hDy)))
 have h1:=(hAL (hAL h #[.bool nx,.slice ax Dx.length cx] 27) #[.bool ny,.slice ay Dy.length cy] 27).swap
 rw [hAz] at h1
 obtain⟨x9,hx9⟩:∃ z,w.heap.size=z:=⟨_,rfl⟩
 rw [hx9] at h1
 have H1:=Lib.hid h1
 simp only [ivV,hnx,hny,hDx,hDy]
 clear h hi hR hS hP hel hx hy hz hlen hBk hVp hnx hny hDx hDy h1
 go_enter Tryz.func57,Tryz.ntmps57
 go_wp2
 clear hx9
 refine aBW (fun w'=>Has W w' (Hp.blk x9 (.cells #[.bool nx,.slice ax Dx.length cx] 27 (0,0))::Hp.blk (x9+1) (.cells #[.bool ny,.slice ay Dy.length cy] 27 (0,0))::rowI (.slice a E.length c) E::poolI PL::Ps)) ?hasw ?_
 case hasw=>exact H1.out.step (by (repeat first|exact Fr.refl _ _|assumption|apply Fr.n|apply Fr.d|apply Fr.a|refine Fr.s ?_ (.inr (by simp;try omega)) _))
 clear H1
 intro w2 h2
 obtain⟨G,hG,_⟩:=has_mem_new (P:=rowB (.slice sa B.length sc) B) h2 (by simp [HM.out.2.1])
 obtain⟨g,off,rfl,hg,b0,b1⟩:=bvs_cell (Reads.of_owns hG.1) HBK.out
 simp only at b0 b1
 have HVB:=Lib.hid (show ∀ w1,Fr [] w2 w1→BigZ w1 (fun _=>True) (bvV (V,aV,cV)) (V:Int) from fun w1 hf=>in_z' (pool_in (h2.step hf) (by simp [HM.out.2.2]) (List.mem_of_getElem? HBK.out)))
 simp only [bvV] at HVB
 have H2:=Lib.hid h2
 clear h2 hG
 refine wRS [([0,1,2,3,4],[3]),([5,6],[])] (by kernel_rfl) (by kernel_rfl) ?_
 (simp only [wpSegs,pick,Array.getD_eq_getD_getElem?,List.getElem?_toArray,List.getElem?_cons_succ,List.getElem?_cons_zero,Option.getD_some])
 go_wp2_with fail
 refine (RFrom_z (x:=0) (by omega) (by omega)).mono ?_
 rintro e w3 ⟨v3,rfl,hb3,hf3'⟩
 have hf3:Fr [] w2 w3:=Fr.trans0 (by (repeat first|exact Fr.refl _ _|assumption|apply Fr.n|apply Fr.d|apply Fr.a|refine Fr.s ?_ (.inr (by simp;try omega)) _)) hf3'
 have b0:=(hf3.cell (p:=⟨g,_,none⟩) hg (by simp)).trans b0
 have b1:=(hf3.cell (p:=⟨g,_,none⟩) hg (by simp)).trans b1
 have HF3:=Lib.hid hf3
 have HB3:=Lib.hid hb3
 have HCB:=Lib.hid (show w3.rangeAt g (off+k*2) [.bool false,.slice aV (zd (V:Int)).length cV] from fun j v hj=>by
  have:j=0∨j=1∨2≤j:=by omega
  rcases this with rfl|rfl|h2
  ·cases hj;exact b0
  ·cases hj;exact b1
  ·rw [List.getElem?_eq_none (by simpa using h2)] at hj;cases hj)
 clear hf3 hf3' hb3
 go_wp2
 refine Mid.intro ⟨⟨aGR (T:=27) (cs:=[.bool false,.slice aV (zd (V:Int)).length cV]) rfl rfl rfl Tryz.underlying27 rfl (by kernel_rfl) HCB.out rfl,trivial⟩,?_⟩
 go_wp2_with fail
 refine (RCompare_z (HVB.out _ (HF3.out.trans0 (by (repeat first|exact Fr.refl _ _|assumption|apply Fr.n|apply Fr.d|apply Fr.a|refine Fr.s ?_ (.inr (by simp;try omega)) _)))) (HB3.out.fr0 (by (repeat first|exact Fr.refl _ _|assumption|apply Fr.n|apply Fr.d|apply Fr.a|refine Fr.s ?_ (.inr (by simp;try omega)) _))) HVZ.out (zok_int (by omega) (by omega))).mono ?_
 rw [HVP.out,HCM.out]
 rintro e w4 ⟨rfl,hf4⟩
 have H4:=Lib.hid (H2.out.step (HF3.out.trans0 (Fr.trans0 (by (repeat first|exact Fr.refl _ _|assumption|apply Fr.n|apply Fr.d|apply Fr.a|refine Fr.s ?_ (.inr (by simp;try omega)) _)) hf4)))
 clear hf4 HF3 HB3 HCB b0 b1 hg HVB H2
 go_wp2
 refine Mid.intro ⟨trivial,Strict.intro rfl ?_⟩
 go_wp2
 go_ret
 exact⟨a,c,E,PL,rfl,⟨by simp,HE.out.1,fun z hz=>hz⟩,H4.out.drop.drop.step (by (repeat first|exact Fr.refl _ _|assumption|apply Fr.n|apply Fr.d|apply Fr.a|refine Fr.s ?_ (.inr (by simp;try omega)) _))⟩
set_option maxHeartbeats 16000000 in
set_option maxRecDepth 100000 in
theorem Rcells_leaf {W:World} {b:Nat} {s:Int} {ns:List K4} {sa:Option Addr} {sc:Nat} {B:List BV} {m:Nat} (HY:Hid (CellHyp s ns B)) {w:World} {Ps:List Res} {a:Option Addr} {c:Nat} {E:List SI} {PL:List IV} {id:Int} {t:Tr} {x y:IV} (h:Has W w (rowI (.slice a E.length c) E::poolI PL::Ps)) (hR:refR b s ns∈Ps) (hS:rowB (.slice sa B.length sc) B∈Ps) (hP:poolR B∈Ps) (hi:Is s ns 0 id t) (hlen:E.length+popT t≤100000) (hel:∀ e∈E,e.X∈PL∧e.Y∈PL) (hx:x∈PL) (hy:y∈PL)
  (hz:x.1.natAbs+2 ^ 0≤2 ^ m∧y.1.natAbs+2 ^ 0≤2 ^ m) (h0:popT t≠0) :
  Calls Tryz.prog 57 #[.pointer (some ⟨b,0,none⟩),.slice sa B.length sc,.int .i64 id,ivV x,ivV y,.slice a E.length c] w (CellPost W E PL Ps (cI 0 t x.1 y.1)):=by
 have hn:0≤256:=by omega
 have hids:id<s:=by
  have hg:=HY.out.good
  rcases hi.1.cases with ⟨_,h1⟩|⟨i,k,rfl,hk⟩
  ·exact h1
  ·exfalso
   have h3:=hi.2.2.1
   rw [← hi.2.1,tr_node hg hk] at h3
   exact h3
 have ht:t=.leaf id:=by rw [← hi.2.1,tr_leaf hids]
 have hidz:id≠0:=fun e=>h0 (by rw [ht,e];rfl)
 rw [ht,cI_leaf hidz]
 have hp1:popT t=1:=by rw [ht];unfold popT;rw [if_neg hidz]
 rw [← ht] at *
 have HCM:=Lib.hid (show cmpI ((popT t:Nat):Int) 0=1 from by rw [hp1];rfl)
 have HP1:=Lib.hid hp1
 have HKO:=Lib.hid (show kidsOf s ns id=(⟨0,0,0,0⟩,false) by unfold kidsOf;rw [if_pos hids])
 clear h0 ht hidz hp1 hids
 obtain⟨X,ax,cx⟩:=x
 obtain⟨Y,ay,cy⟩:=y
 obtain⟨k,rfl⟩:=Int.eq_ofNat_of_zero_le hi.1.1
 obtain⟨⟨V,aV,cV⟩,hBk⟩:∃ e,B[k]?=some e:=⟨_,List.getElem?_eq_getElem (by have:=HY.out.len;have:=hi.1.2;omega)⟩
 have hVp:V=popT t:=by have:=HY.out.ok k _ hBk;rw [hi.2.1] at this;exact this
 have hkl:((k:Nat):Int)<(B.length:Nat):=by have:=HY.out.len;have:=hi.1.2;omega
 have HBK:=Lib.hid hBk
 have HVZ:=Lib.hid (show Zok (V:Int) from by rw [hVp];exact pop_zok hn hi.2.2.1)
 have HVP:=Lib.hid hVp
 have HI:=Lib.hid hi
 have HM:=Lib.hid (And.intro hR (And.intro hS hP))
 have HE:=Lib.hid (And.intro hel (And.intro hx hy))
 have HZ:=Lib.hid hz
 have HLN:=Lib.hid hlen
 obtain⟨nx,hnx⟩:∃ o,decide (X<0)=o:=⟨_,rfl⟩
 obtain⟨ny,hny⟩:∃ o,decide (Y<0)=o:=⟨_,rfl⟩
 obtain⟨Dx,hDx⟩:∃ o,zd X=o:=⟨_,rfl⟩
 obtain⟨Dy,hDy⟩:∃ o,zd Y=o:=⟨_,rfl⟩
 have HND:=Lib.hid (And.intro hnx (And.intro hDx (And.intro hny hDy)))
 have h1:=(hAL (hAL h #[.bool nx,.slice ax Dx.length cx] 27) #[.bool ny,.slice ay Dy.length cy] 27).swap
 rw [hAz] at h1
 obtain⟨x9,hx9⟩:∃ z,w.heap.size=z:=⟨_,rfl⟩
 rw [hx9] at h1
 have H1:=Lib.hid h1
 simp only [ivV,hnx,hny,hDx,hDy]
 clear h hi hR hS hP hel hx hy hz hlen hBk hVp hnx hny hDx hDy h1
 go_enter Tryz.func57,Tryz.ntmps57
 go_wp2
 clear hx9
 refine aBW (fun w'=>Has W w' (Hp.blk x9 (.cells #[.bool nx,.slice ax Dx.length cx] 27 (0,0))::Hp.blk (x9+1) (.cells #[.bool ny,.slice ay Dy.length cy] 27 (0,0))::rowI (.slice a E.length c) E::poolI PL::Ps)) ?hasw ?_
 case hasw=>exact H1.out.step (by (repeat first|exact Fr.refl _ _|assumption|apply Fr.n|apply Fr.d|apply Fr.a|refine Fr.s ?_ (.inr (by simp;try omega)) _))
 clear H1
 intro w2 h2
 obtain⟨G,hG,_⟩:=has_mem_new (P:=rowB (.slice sa B.length sc) B) h2 (by simp [HM.out.2.1])
 obtain⟨g,off,rfl,hg,b0,b1⟩:=bvs_cell (Reads.of_owns hG.1) HBK.out
 simp only at b0 b1
 have HVB:=Lib.hid (show ∀ w1,Fr [] w2 w1→BigZ w1 (fun _=>True) (bvV (V,aV,cV)) (V:Int) from fun w1 hf=>in_z' (pool_in (h2.step hf) (by simp [HM.out.2.2]) (List.mem_of_getElem? HBK.out)))
 simp only [bvV] at HVB
 have H2:=Lib.hid h2
 clear h2 hG
 refine wRS [([0,1,2,3,4],[3]),([5,6],[])] (by kernel_rfl) (by kernel_rfl) ?_
 (simp only [wpSegs,pick,Array.getD_eq_getD_getElem?,List.getElem?_toArray,List.getElem?_cons_succ,List.getElem?_cons_zero,Option.getD_some])
 go_wp2_with fail
 refine (RFrom_z (x:=0) (by omega) (by omega)).mono ?_
 rintro e w3 ⟨v3,rfl,hb3,hf3'⟩
 have hf3:Fr [] w2 w3:=Fr.trans0 (by (repeat first|exact Fr.refl _ _|assumption|apply Fr.n|apply Fr.d|apply Fr.a|refine Fr.s ?_ (.inr (by simp;try omega)) _)) hf3'
 have b0:=(hf3.cell (p:=⟨g,_,none⟩) hg (by simp)).trans b0
 have b1:=(hf3.cell (p:=⟨g,_,none⟩) hg (by simp)).trans b1
 have HF3:=Lib.hid hf3
 have HB3:=Lib.hid hb3
 have HCB:=Lib.hid (show w3.rangeAt g (off+k*2) [.bool false,.slice aV (zd (V:Int)).length cV] from fun j v hj=>by
  have:j=0∨j=1∨2≤j:=by omega
  rcases this with rfl|rfl|h2
  ·cases hj;exact b0
  ·cases hj;exact b1
  ·rw [List.getElem?_eq_none (by simpa using h2)] at hj;cases hj)
 clear hf3 hf3' hb3
 go_wp2
 refine Mid.intro ⟨⟨aGR (T:=27) (cs:=[.bool false,.slice aV (zd (V:Int)).length cV]) rfl rfl rfl Tryz.underlying27 rfl (by kernel_rfl) HCB.out rfl,trivial⟩,?_⟩
 go_wp2_with fail
 refine (RCompare_z (HVB.out _ (HF3.out.trans0 (by (repeat first|exact Fr.refl _ _|assumption|apply Fr.n|apply Fr.d|apply Fr.a|refine Fr.s ?_ (.inr (by simp;try omega)) _)))) (HB3.out.fr0 (by (repeat first|exact Fr.refl _ _|assumption|apply Fr.n|apply Fr.d|apply Fr.a|refine Fr.s ?_ (.inr (by simp;try omega)) _))) HVZ.out (zok_int (by omega) (by omega))).mono ?_
 rw [HVP.out,HCM.out]
 rintro e w4 ⟨rfl,hf4⟩
 have H4:=Lib.hid (H2.out.step (HF3.out.trans0 (Fr.trans0 (by (repeat first|exact Fr.refl _ _|assumption|apply Fr.n|apply Fr.d|apply Fr.a|refine Fr.s ?_ (.inr (by simp;try omega)) _)) hf4)))
 clear hf4 HF3 HB3 HCB b0 b1 hg HVB H2
 go_wp2
 refine Mid.intro ⟨trivial,Strict.intro rfl ?_⟩
 obtain⟨G,hG,_⟩:=has_mem_new (P:=refR b s ns) H4.out (by simp [HM.out.1])
 have HK:=Lib.hid (fun w1 (hf:Fr [] w4 w1)=>RKids_calls (RefAt.fr hG hf (by simp)) ((k:Nat):Int))
 rw [HKO.out] at HK
 simp only [kv] at HK
 clear hG
 go_wp2_with fail
 refine (HK.out _ (by (repeat first|exact Fr.refl _ _|assumption|apply Fr.n|apply Fr.d|apply Fr.a|refine Fr.s ?_ (.inr (by simp;try omega)) _))).mono ?_
 rintro e w5 ⟨rfl,hf5⟩
 have h5:=H4.out.step (Fr.trans0 (by (repeat first|exact Fr.refl _ _|assumption|apply Fr.n|apply Fr.d|apply Fr.a|refine Fr.s ?_ (.inr (by simp;try omega)) _)) hf5)
 have H5:=Lib.hid h5
 clear hf5 h5 HK H4
 have hb:=H5.out.blk
 have a0:=hEC hb 0
 have a1:=hEC hb 1
 have az0:=hEF hb 0
 have az1:=hEF hb 1
 have al:=lBk hb
 have hb:=H5.out.swap.blk
 have d0:=hEC hb 0
 have d1:=hEC hb 1
 have dz0:=hEF hb 0
 have dz1:=hEF hb 1
 have dl:=lBk hb
 clear hb
 have h6:=H5.out.ord 4 [2,3,0,1]
 simp only [List.filterMap_cons,List.filterMap_nil,List.getElem?_cons_zero,List.getElem?_cons_succ,List.drop_succ_cons,List.drop_zero,List.cons_append,List.nil_append] at h6
 have HO:=Lib.hid (show World.ownsRow w5 0 117 5 (.slice a E.length c) E.length (sis E) from h6.row)
 have H6:=Lib.hid h6
 clear h6
 obtain⟨hn1,hn2,hn3,hn4⟩:=HND.out
 subst hn1 hn2 hn3 hn4
 clear HND
 go_wp2_with (at_builtin;refine append_si (n:=E.length) (base:=0) (xs:=sis E) (y:=⟨(X,ax,cx),(Y,ay,cy),((k:Nat):Int)⟩) rfl rfl rfl ?e1 rfl ?e2 ?e3 ?e4 ?_)
 case e1=>exact oOB HO.out fun g hg=>by have h:=oLT HO.out hg;(repeat first|rw [if_pos (by omega)]|rw [if_neg (by omega)]|rw [hDR]|rw [hDN]|rw [hAz]|rw [hSz]|rw [hAC]|rw [hSC]|rw [oMS]|rw [uPC]|rw [lSZ]|rw [lSS]|rfl)
 case e2=>first|(first|(rw [hAC,if_pos rfl];done)|exact (Array.getElem?_eq_some_iff.1 ((hAC _ _ _).trans (if_pos rfl))).2|(simp only [hDR,hDN];rw [hAC,if_pos rfl];done))|(refine (Array.getElem?_eq_some_iff.1 ?_).2;(repeat first|rw [if_pos (by omega)]|rw [if_neg (by omega)]|rw [hDR]|rw [hDN]|rw [hAz]|rw [hSz]|rw [hAC]|rw [hSC]|rw [oMS]|rw [uPC]|rw [lSZ]|rw [lSS]|rfl))
 case e3=>have:=HLN.out;omega
 case e4=>omega
 intro g2 cap w10 hown1 hW1 hF1 hloc1 hg1
 rw [sis_snoc _ ⟨(X,ax,cx),(Y,ay,cy),((k:Nat):Int)⟩] at hown1
 have h9:=hAP (n':=(E++([⟨(X,ax,cx),(Y,ay,cy),((k:Nat):Int)⟩]:List SI)).length) (H6.out.step (by (repeat first|exact Fr.refl _ _|assumption|apply Fr.n|apply Fr.d|apply Fr.a|refine Fr.s ?_ (.inr (by simp;try omega)) _))) (by rw [List.length_append];exact hown1) rfl hF1 (by rcases hloc1 with h|h;exact .inl h;exact .inr (by rw [h];simp))
 have h9:=h9.ord 4 [0,1]
 simp only [List.filterMap_cons,List.filterMap_nil,List.getElem?_cons_zero,List.getElem?_cons_succ,List.drop_succ_cons,List.drop_zero,List.cons_append,List.nil_append] at h9
 have H9:=Lib.hid h9
 clear a0 a1 az0 az1 al d0 d1 dz0 dz1 dl
 clear h9 hown1 hW1 hF1 hloc1 hg1 HO
 go_wp2
 go_ret
 refine⟨some ⟨g2,0,none⟩,cap,E++[⟨(X,ax,cx),(Y,ay,cy),((k:Nat):Int)⟩],PL,by rw [List.length_append];rfl,⟨by rw [List.map_append];rfl,fun e he=>?_,fun z hz=>hz⟩,?_⟩
 ·rw [List.mem_append] at he
  rcases he with he|he
  ·exact HE.out.1 e he
  ·rw [List.mem_singleton] at he;subst he;exact HE.out.2
 ·have:=H9.out.step (by (repeat first|exact Fr.refl _ _|assumption|apply Fr.n|apply Fr.d|apply Fr.a|refine Fr.s ?_ (.inr (by simp;try omega)) _))
  rw [List.length_append]
  exact this
end Go.Proofs.YtdanghnadbkhfaaGreat
end
