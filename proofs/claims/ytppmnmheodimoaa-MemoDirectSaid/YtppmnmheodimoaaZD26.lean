/- Own texts of this claim, part 27: no condition. -/
import Derived.IntWalk
import Derived.Test.YtppmnmheodimoaaZD23
import Derived.Test.YtppmnmheodimoaaZD25
import Derived.Test.YtppmnmheodimoaaZD20
import Derived.Test.YtppmnmheodimoaaZD7
import Derived.Test.YtppmnmheodimoaaZD8
import Derived.Test.YtppmnmheodimoaaZD6
import Derived.Test.YtppmnmheodimoaaZD10
import Derived.Test.YtppmnmheodimoaaZD11
set_option linter.unusedVariables false
set_option linter.unusedSimpArgs false
section
namespace Go.Proofs.Ytppmnmheodimoaa
open Go Go.RowKit Rg Mp Hp Qs Ev Bn Pt
theorem in_zi {w:World} {z:Int} {a:Option Addr} {c:Nat} (h:BigIn w (decide (z<0)) (zd z) a c):BigZ w (fun _=>True) (.agg #[.bool (decide (z<0)),.slice a (zd z).length c]) z :=
 ⟨a,c,rfl,h.len,fun _ _=>trivial,h.rd⟩
structure FrSt (W wr:World) (b:Nat) (s:Int) (ns:List K4) (Ps:List Res) (p:List PC) (x y:Int) (L i:Nat) (v:Value) (E:List SV) (PL:List BV):Prop where
 le:i≤p.length
 mp:E.map SV.spot=(p.take i).map (spot x y)
 all:(p.take i).all (inC x y L)=true
 el:∀ e∈E,e.X∈PL∧e.Y∈PL
 has:Has W wr (Hp.row 117 5 v E.length (svs E)::poolR PL::refR b s ns::Ps)
theorem FrSt.len {W wr:World} {b:Nat} {s:Int} {ns:List K4} {Ps:List Res} {p:List PC} {x y:Int} {L i:Nat} {v:Value} {E:List SV} {PL:List BV} (h:FrSt W wr b s ns Ps p x y L i v E PL):E.length≤p.length:=by
 have:=congrArg List.length h.mp
 rw [map_spot_len,List.length_map,List.length_take] at this
 omega
theorem FrSt.add {W wr w2:World} {b:Nat} {s:Int} {ns:List K4} {Ps:List Res} {p:List PC} {x y:Int} {L i:Nat} {v v2:Value} {E:List SV} {PL:List BV} (h:FrSt W wr b s ns Ps p x y L i v E PL) {c:PC} {e:SV} (hc:p[i]?=some c) (hi:inC x y L c=true) (he:e.spot=spot x y c)
  (hw:Has W w2 (Hp.row 117 5 v2 (E++[e]).length (svs (E++[e]))::poolR (e.Y::e.X::PL)::refR b s ns::Ps)):FrSt W w2 b s ns Ps p x y L (i+1) v2 (E++[e]) (e.Y::e.X::PL) :=
 ⟨(
  List.getElem?_eq_some_iff.1 hc).1,by rw [List.map_append,h.mp,List.take_add_one,hc,List.map_append];show _++[e.spot]=_++[spot x y c];rw [he],all_take h.all hc hi,fun z hz=>by
  rw [List.mem_append] at hz
  rcases hz with hz|hz
  ·have:=h.el z hz;exact⟨by simp [this.1],by simp [this.2]⟩
  ·rw [List.mem_singleton] at hz;subst hz;simp,hw⟩
theorem sp_of_has {w:World} {F:List Nat} {v:Value} {E:List SV} {PL:List BV} (h1:∃ G,(Hp.row 117 5 v E.length (svs E)).holds w G∧∀ x∈G,x∉F) (h2:∃ G,(poolR PL).holds w G∧∀ x∈G,x∉F) (he:∀ e∈E,e.X∈PL∧e.Y∈PL):SpAt w F v E:=by
 obtain⟨G,⟨g1,g2⟩,g3⟩:=h1
 obtain⟨H,⟨k1,k2⟩,k3⟩:=h2
 refine⟨Reads.of_owns g1,fun _ x hx=>g3 x (by rw [g2,hx];simp),fun e hm=>?_⟩
 obtain⟨m1,m2⟩:=he e hm
 exact⟨⟨(k1 _ m1).1,fun x hx=>k3 x ((k1 _ m1).2 x hx)⟩,⟨(k1 _ m2).1,fun x hx=>k3 x ((k1 _ m2).2 x hx)⟩⟩
theorem inB_less {n f:Int} {L:Nat}:lessB (n - f) L=inB n f L:=by
 unfold lessB inB
 rw [decide_eq_decide]
 omega
set_option maxHeartbeats 16000000 in
set_option maxRecDepth 100000 in
theorem RFrom_q {W w:World} {b:Nat} {s:Int} {ns:List K4} {Ps:List Res} (h:Has W w (refR b s ns::Ps)) {p:List PC} {a:Option Addr} {c:Nat} (hp:CellsAtY W (.slice a p.length c) p) (hlen:p.length≤4000000000000000000) (x y level:Int) (hx:-9223372036854775808≤x∧x<9223372036854775808) (hy:-9223372036854775808≤y∧y<9223372036854775808)
  (hroom:∀ L:Nat,level=L→L≤256→rightP p=true→room s ns (dums++(emptiesT L++newT L (p.map (spot x y))))) :
  Calls Try.prog 31 #[.pointer (some ⟨b,0,none⟩),.slice a p.length c,.int .i64 x,.int .i64 y,.int .i64 level] w fun e w'=>e=.returned (.tuple #[.int .i64 (fromQ s ns p x y level).1.1,.int .i64 (fromQ s ns p x y level).1.2])∧Has W w' (refR b s (fromQ s ns p x y level).2::Ps):=by
 have H:=Lib.hid h
 have HP:=Lib.hid hp
 have HLN:=Lib.hid hlen
 have hgood:=ref_good h
 unfold fromQ
 cases hr:rightP p with
 | false =>
  have HR:=Lib.hid hr
  simp only [if_true]
  clear h hp hr hx hy hlen hroom hgood
  go_enter Try.func31,Try.ntmps31
  go_wp2_with fail
  refine (RRight_p (HP.out.fr (H.out.fr.trans0 (by (repeat first|exact Fr.refl _ _|assumption|apply Fr.n|apply Fr.d|apply Fr.a|refine Fr.s ?_ (.inr (by simp;try omega)) _)))) (by have:=HLN.out;omega)).mono ?_
  rw [HR.out]
  rintro e w1 ⟨rfl,hf⟩
  have H1:=Lib.hid (H.out.step (Fr.trans0 (by (repeat first|exact Fr.refl _ _|assumption|apply Fr.n|apply Fr.d|apply Fr.a|refine Fr.s ?_ (.inr (by simp;try omega)) _)) hf))
  clear hf
  go_wp2
  go_ret2
  exact⟨rfl,H1.out⟩
 | true =>
 have HR:=Lib.hid hr
 simp only [Bool.true_eq_false,if_false]
 by_cases hl0:level<0
 ·rw [if_pos (.inl hl0)]
  have hd:decide (level<0)=true:=by simpa using hl0
  clear h hp hr hx hy hlen hroom hgood hl0
  go_enter Try.func31,Try.ntmps31
  go_wp2_with fail
  refine (RRight_p (HP.out.fr (H.out.fr.trans0 (by (repeat first|exact Fr.refl _ _|assumption|apply Fr.n|apply Fr.d|apply Fr.a|refine Fr.s ?_ (.inr (by simp;try omega)) _)))) (by have:=HLN.out;omega)).mono ?_
  rw [HR.out]
  rintro e w1 ⟨rfl,hf⟩
  have H1:=Lib.hid (H.out.step (Fr.trans0 (by (repeat first|exact Fr.refl _ _|assumption|apply Fr.n|apply Fr.d|apply Fr.a|refine Fr.s ?_ (.inr (by simp;try omega)) _)) hf))
  clear hf
  go_wp2
  go_ret2
  exact⟨rfl,H1.out⟩
 have hd:decide (level<0)=false:=by simpa using hl0
 by_cases hl1:256<level
 ·rw [if_pos (.inr hl1)]
  have hd2:decide (level > 256)=true:=by simpa using hl1
  clear h hp hr hx hy hlen hroom hgood hl0 hl1
  go_enter Try.func31,Try.ntmps31
  go_wp2_with fail
  refine (RRight_p (HP.out.fr (H.out.fr.trans0 (by (repeat first|exact Fr.refl _ _|assumption|apply Fr.n|apply Fr.d|apply Fr.a|refine Fr.s ?_ (.inr (by simp;try omega)) _)))) (by have:=HLN.out;omega)).mono ?_
  rw [HR.out]
  rintro e w1 ⟨rfl,hf⟩
  have H1:=Lib.hid (H.out.step (Fr.trans0 (by (repeat first|exact Fr.refl _ _|assumption|apply Fr.n|apply Fr.d|apply Fr.a|refine Fr.s ?_ (.inr (by simp;try omega)) _)) hf))
  clear hf
  go_wp2
  go_ret2
  exact⟨rfl,H1.out⟩
 have hd2:decide (level > 256)=false:=by simpa using hl1
 rw [if_neg (by omega)]
 obtain⟨L,hLL⟩:=Int.eq_ofNat_of_zero_le (show 0≤level by omega)
 have hL256:L≤256:=by omega
 have HRM:=Lib.hid (hroom L hLL hL256 hr)
 have HLL:=Lib.hid hLL
 rw [show level.toNat=L by omega]
 obtain⟨R,hR⟩:∃ R,(if p.all (inC x y L)=false then (((0:Int),(5:Int)),ns) else if p.all (stB s)=false then ((0,10),ns) else buildQ s L ns (p.map (spot x y)))=R:=⟨_,rfl⟩
 rw [hR]
 have HRR:=Lib.hid hR
 obtain⟨hp5,hpc⟩:=right_cell hr
 have HPC:=Lib.hid hpc
 have HXY:=Lib.hid (And.intro hx hy)
 have HG:=Lib.hid hgood
 obtain⟨m,hm⟩:∃ m,p.length=m:=⟨_,rfl⟩
 have HM:=Lib.hid hm
 have hm5:m≤5000:=by omega
 rw [hm] at HP HLN ⊢
 have HRIGHT:=Lib.hid (fun w1 (hf:Fr [] W w1)=>RRight_p (hp.fr hf) hlen)
 rw [hm] at HRIGHT
 have HTOP:=Lib.hid (fun w1 (hf:Fr [] W w1)=>Rtop_p (hp.fr hf) (by omega))
 rw [hm] at HTOP
 have H0:=Lib.hid (fun w1 (h1:Has W w1 (refR b s ns::Ps))=>show FrSt W w1 b s ns Ps p x y L 0 (.slice none 0 0) [] [] from ⟨by omega,by simp,by simp,by simp,(pool_nil h1).newRow (T:=117) (size:=5) (Fr.refl [] _) (owns_nil0 _ _ _ _)⟩)
 clear h hp hr hx hy hlen hroom hgood hl0 hl1 hLL hR hpc hp5 hm
 go_enter Try.func31,Try.ntmps31
 go_wp2_with fail
 refine (HRIGHT.out _ (H.out.fr.trans0 (by (repeat first|exact Fr.refl _ _|assumption|apply Fr.n|apply Fr.d|apply Fr.a|refine Fr.s ?_ (.inr (by simp;try omega)) _)))).mono ?_
 rw [HR.out]
 rintro e w1 ⟨rfl,hf⟩
 have H1:=Lib.hid (H0.out _ (H.out.step (Fr.trans0 (by (repeat first|exact Fr.refl _ _|assumption|apply Fr.n|apply Fr.d|apply Fr.a|refine Fr.s ?_ (.inr (by simp;try omega)) _)) hf)))
 clear hf H0 H HRIGHT
 go_wp2
 go_loopw [12,13] (fun x12 x13 wr=>∃ (i:Nat) (v:Value) (E:List SV) (PL:List BV),(v=x12∧x13=.int .i64 (i:Nat))∧FrSt W wr b s ns Ps p x y L i v E PL) (fun _ z _=>m - (intOf z).toNat)
 case atStart=>exact⟨0,_,[],[],⟨rfl,rfl⟩,H1.out⟩
 case round =>
  clear H1
  obtain⟨i,v12,E,PL,⟨rfl,rfl⟩,hst⟩:=hrel
  have HST:=Lib.hid hst
  have him:i≤m:=by rw [← HM.out];exact hst.le
  clear hst
  by_cases hlt:i<m
  ·obtain⟨⟨cx,cy,st⟩,hpi⟩:∃ c,p[i]?=some c:=⟨_,List.getElem?_eq_getElem (by rw [HM.out];exact hlt)⟩
   obtain⟨g,off,rfl,hg,e0,e1,e2⟩:=(HP.out.fr HST.out.has.fr).cell hpi
   simp only at e0 e1 e2
   have hcc:=HPC.out _ (List.mem_of_getElem? hpi)
   simp only at hcc
   have HPI:=Lib.hid hpi
   have HINC:=Lib.hid (show inC x y L ⟨cx,cy,st⟩=(inB cx x L && inB cy y L) from rfl)
   have HMX:=Lib.hid (fun w1=>Rminus_h (Has.nil (Fr.refl [] w1)) (x:=cx) (y:=x) (by omega) HXY.out.1)
   have HMY:=Lib.hid (fun w1=>Rminus_h (Has.nil (Fr.refl [] w1)) (x:=cy) (y:=y) (by omega) HXY.out.2)
   have HLX:=Lib.hid (fun w1 a c (hb:BigIn w1 (decide (cx - x<0)) (zd (cx - x)) a c)=>Rless_z (in_zi hb) (zok_small (by have:=HXY.out;omega) (by have:=HXY.out;omega)) (n:=L) (by omega))
   have HLY:=Lib.hid (fun w1 a c (hb:BigIn w1 (decide (cy - y<0)) (zd (cy - y)) a c)=>Rless_z (in_zi hb) (zok_small (by have:=HXY.out;omega) (by have:=HXY.out;omega)) (n:=L) (by omega))
   rw [inB_less] at HLX HLY
   rw [← HLL.out] at HLX HLY
   have HB1:=Lib.hid (show inB cx x L=true→x≤cx by unfold inB;simp;omega)
   have HB2:=Lib.hid (show inB cy y L=true→y≤cy by unfold inB;simp;omega)
   obtain⟨o1,ho1⟩:∃ o,inB cx x L=o:=⟨_,rfl⟩
   obtain⟨o2,ho2⟩:∃ o,inB cy y L=o:=⟨_,rfl⟩
   rw [ho1] at HLX HINC HB1
   rw [ho2] at HLY HINC HB2
   obtain⟨nx,hnx⟩:∃ o,decide (cx - x<0)=o:=⟨_,rfl⟩
   obtain⟨ny,hny⟩:∃ o,decide (cy - y<0)=o:=⟨_,rfl⟩
   obtain⟨D1,hD1⟩:∃ o,zd (cx - x)=o:=⟨_,rfl⟩
   obtain⟨D2,hD2⟩:∃ o,zd (cy - y)=o:=⟨_,rfl⟩
   rw [hnx,hD1] at HMX HLX
   rw [hny,hD2] at HMY HLY
   have HND:=Lib.hid (And.intro hnx (And.intro hD1 (And.intro hny hD2)))
   have ne0:=World.new_ne wr _ e0
   clear hpi hcc ho1 ho2 hnx hny hD1 hD2
   go_wp2
   go_cut [14] (fun s14 wx=>∃ (xb:Nat) (a1:Option Addr) (c1:Nat) (a2:Option Addr) (c2:Nat),s14=.pointer (some ⟨xb,0,none⟩)∧Hid (Has W wx (Hp.blk xb (.cells #[.bool nx,.slice a1 D1.length c1,.bool ny,.slice a2 D2.length c2,.int .i64 st] 117 (0,0))::bigR ny D2 a2 c2::bigR nx D1 a1 c1::Hp.row 117 5 v12 E.length (svs E)::poolR PL::refR b s ns::Ps)))
   case first =>
    go_region_held3 (fun w'=>w'.cell? ⟨g,off+i*3,none⟩=some (.int .i64 cx)∧w'.cell? ⟨g,off+i*3+1,none⟩=some (.int .i64 cy)∧w'.cell? ⟨g,off+i*3+2,none⟩=some (.int .i64 st)) (first|go_keep|exact⟨kA0,kA1,kA2⟩|exact⟨kB0,kB1,kB2⟩)
     (first|(have hmk:=KA;clear hmk;go_at_call 54;refine (HMY.out _).mono ?_;rintro e wB ⟨a2,c2,rfl,kB⟩;have KB:=Lib.hid kB;have hfB:=kB.fr;clear kB;have hrB:Fr [] wr wB:=Fr.trans0 (Fr.trans0 hrA (by (repeat first|exact Fr.refl _ _|assumption|apply Fr.n|apply Fr.d|apply Fr.a|refine Fr.s ?_ (.inl (by simp)) _):Fr [] wA _)) hfB;have kB0:=(hrB.cell (p:=⟨g,off+i*3,none⟩) hg (by simp)).trans e0;have kB1:=(hrB.cell (p:=⟨g,off+i*3+1,none⟩) hg (by simp)).trans e1;have kB2:=(hrB.cell (p:=⟨g,off+i*3+2,none⟩) hg (by simp)).trans e2;have nB0:=World.new_ne wB _ kB0;obtain⟨cB,zB⟩:=frcell hfB;(try (have sB:wA.heap.size<wB.heap.size:=by have h:=hfB.size;(try simp at h);omega));(try (have sC:wr.heap.size<wB.heap.size:=by have h:=hfB.size;(try simp at h);omega)))|(go_at_call 54;refine (HMX.out _).mono ?_;rintro e wA ⟨a1,c1,rfl,kA⟩;have KA:=Lib.hid kA;have hfA:=kA.fr;clear kA;have hrA:Fr [] wr wA:=Fr.trans0 (by (repeat first|exact Fr.refl _ _|assumption|apply Fr.n|apply Fr.d|apply Fr.a|refine Fr.s ?_ (.inl (by simp)) _)) hfA;have kA0:=(hrA.cell (p:=⟨g,off+i*3,none⟩) hg (by simp)).trans e0;have kA1:=(hrA.cell (p:=⟨g,off+i*3+1,none⟩) hg (by simp)).trans e1;have kA2:=(hrA.cell (p:=⟨g,off+i*3+2,none⟩) hg (by simp)).trans e2;have nA0:=World.new_ne wA _ kA0;obtain⟨cA,zA⟩:=frcell hfA;(try (have sA:wr.heap.size<wA.heap.size:=by have h:=hfA.size;(try simp at h);omega))))
    ·go_wp2_with fail
     go_meet
     have k1:=has_join (HST.out.has.step (by (repeat first|exact Fr.refl _ _|assumption|apply Fr.n|apply Fr.d|apply Fr.a|refine Fr.s ?_ (.inr (by simp;try omega)) _))) KA.out
     have k2:=has_join (k1.step (by (repeat first|exact Fr.refl _ _|assumption|apply Fr.n|apply Fr.d|apply Fr.a|refine Fr.s ?_ (.inr (by simp;try omega)) _))) KB.out
     simp only [List.cons_append,List.nil_append] at k2
     have k3:=hAL k2 #[.bool nx,.slice a1 D1.length c1,.bool ny,.slice a2 D2.length c2,.int .i64 st] 117
     exact⟨_,a1,c1,a2,c2,rfl,Lib.hid k3⟩
    ·go_wp2_with fail
     go_meet
     have k1:=has_join (HST.out.has.step (by (repeat first|exact Fr.refl _ _|assumption|apply Fr.n|apply Fr.d|apply Fr.a|refine Fr.s ?_ (.inr (by simp;try omega)) _))) KA.out
     have k2:=hAL k1 #[.bool false,.slice none 0 0,.bool false,.slice none 0 0,.int .i64 0] 117
     have k3:=has_join (k2.step (by (repeat first|exact Fr.refl _ _|assumption|apply Fr.n|apply Fr.d|apply Fr.a|refine Fr.s ?_ (.inr (by simp;try omega)) _))) KB.out
     simp only [List.cons_append,List.nil_append] at k3
     have k4:=hST (hST (hST (hST (hST k3.swap 0 (.bool nx)) 1 (.slice a1 D1.length c1)) 2 (.bool ny)) 3 (.slice a2 D2.length c2)) 4 (.int .i64 st)
     exact⟨_,a1,c1,a2,c2,rfl,Lib.hid k4⟩
    ·go_wp2_with fail
     go_meet
     have k1:=hAL HST.out.has #[.bool false,.slice none 0 0,.bool false,.slice none 0 0,.int .i64 0] 117
     have k2:=has_join (k1.step (by (repeat first|exact Fr.refl _ _|assumption|apply Fr.n|apply Fr.d|apply Fr.a|refine Fr.s ?_ (.inr (by simp;try omega)) _))) KA.out
     have k3:=has_join (k2.step (by (repeat first|exact Fr.refl _ _|assumption|apply Fr.n|apply Fr.d|apply Fr.a|refine Fr.s ?_ (.inr (by simp;try omega)) _))) KB.out
     simp only [List.cons_append,List.nil_append] at k3
     have k4:=hST (hST (hST (hST (hST k3.third 0 (.bool nx)) 1 (.slice a1 D1.length c1)) 2 (.bool ny)) 3 (.slice a2 D2.length c2)) 4 (.int .i64 st)
     exact⟨_,a1,c1,a2,c2,rfl,Lib.hid k4⟩
   case rest =>
   obtain⟨xb,a1,c1,a2,c2,rfl,HC⟩:=hcut
   have hb:=HC.out.blk
   have y0:=hEC hb 0
   have y1:=hEC hb 1
   have y2:=hEC hb 2
   have y3:=hEC hb 3
   have y4:=hEC hb 4
   have yl:=lBk hb
   clear hb e0 e1 e2 hg ne0 HMX HMY
   go_wp2_with fail
   refine (HLX.out _ _ _ (big_mem9 (HC.out.step (by (repeat first|exact Fr.refl _ _|assumption|apply Fr.n|apply Fr.d|apply Fr.a|refine Fr.s ?_ (.inr (by simp;try omega)) _))) (by simp))).mono ?_
   rintro e w5 ⟨rfl,hf5⟩
   have h5:=HC.out.step (Fr.trans0 (by (repeat first|exact Fr.refl _ _|assumption|apply Fr.n|apply Fr.d|apply Fr.a|refine Fr.s ?_ (.inr (by simp;try omega)) _)) hf5)
   have H5:=Lib.hid h5
   clear y0 y1 y2 y3 y4 yl hf5 h5
   cases o1 with
   | false =>
    have HBAD:=Lib.hid (all_bad (f:=inC x y L) HPI.out (HINC.out.trans (by simp)))
    go_wp2
    go_ret2
    have hR:=HRR.out
    simp only [HBAD.out,if_true] at hR
    subst hR
    exact⟨rfl,(H5.out.ord 6 [5]).step (by (repeat first|exact Fr.refl _ _|assumption|apply Fr.n|apply Fr.d|apply Fr.a|refine Fr.s ?_ (.inr (by simp;try omega)) _))⟩
   | true =>
   have hb:=H5.out.blk
   have y0:=hEC hb 0
   have y1:=hEC hb 1
   have y2:=hEC hb 2
   have y3:=hEC hb 3
   have y4:=hEC hb 4
   have yl:=lBk hb
   clear hb
   go_wp2_with fail
   refine (HLY.out _ _ _ (big_mem9 (H5.out.step (by (repeat first|exact Fr.refl _ _|assumption|apply Fr.n|apply Fr.d|apply Fr.a|refine Fr.s ?_ (.inr (by simp;try omega)) _))) (by simp))).mono ?_
   rintro e w6 ⟨rfl,hf6⟩
   have h6:=H5.out.step (Fr.trans0 (by (repeat first|exact Fr.refl _ _|assumption|apply Fr.n|apply Fr.d|apply Fr.a|refine Fr.s ?_ (.inr (by simp;try omega)) _)) hf6)
   have H5:=Lib.hid h6
   clear y0 y1 y2 y3 y4 yl hf6 h6
   cases o2 with
   | false =>
    have HBAD:=Lib.hid (all_bad (f:=inC x y L) HPI.out (HINC.out.trans (by simp)))
    go_wp2
    go_ret2
    have hR:=HRR.out
    simp only [HBAD.out,if_true] at hR
    subst hR
    exact⟨rfl,(H5.out.ord 6 [5]).step (by (repeat first|exact Fr.refl _ _|assumption|apply Fr.n|apply Fr.d|apply Fr.a|refine Fr.s ?_ (.inr (by simp;try omega)) _))⟩
   | true =>
   obtain⟨X,hX⟩:∃ X:Nat,(X:Int)=cx - x:=⟨(cx - x).toNat,by have:=HB1.out (by simp);omega⟩
   obtain⟨Y,hY⟩:∃ Y:Nat,(Y:Int)=cy - y:=⟨(cy - y).toNat,by have:=HB2.out (by simp);omega⟩
   obtain⟨hn1,hn2,hn3,hn4⟩:=HND.out
   rw [← hX] at hn1 hn2
   rw [← hY] at hn3 hn4
   rw [show decide (((X:Nat):Int)<0)=false by simp] at hn1
   rw [show decide (((Y:Nat):Int)<0)=false by simp] at hn3
   subst hn1 hn2 hn3 hn4
   have HSPT:=Lib.hid (show SV.spot ⟨(X,a1,c1),(Y,a2,c2),st⟩=spot x y ⟨cx,cy,st⟩ by unfold SV.spot spot;simp only [Spot.mk.injEq,and_true];omega)
   have HNP:=Lib.hid (show inC x y L ⟨cx,cy,st⟩=true from HINC.out.trans (by simp))
   clear hX hY HND HLX HLY HB1 HB2 HC
   have hb:=H5.out.blk
   have y0:=hEC hb 0
   have y1:=hEC hb 1
   have y2:=hEC hb 2
   have y3:=hEC hb 3
   have y4:=hEC hb 4
   have yl:=lBk hb
   clear hb
   have h7:=H5.out.ord 6 [3,2,4,1,5]
   simp only [List.filterMap_cons,List.filterMap_nil,List.getElem?_cons_zero,List.getElem?_cons_succ,List.drop_succ_cons,List.drop_zero,List.cons_append,List.nil_append,List.take_succ_cons,List.take_zero,List.eraseIdx_cons_succ,List.eraseIdx_zero,List.eraseIdx_cons_zero,List.tail_cons,Option.toList_some] at h7
   have HO:=Lib.hid h7.row
   have H7:=Lib.hid h7
   clear h7
   go_wp2_with (at_builtin;refine append_sv (n:=E.length) (base:=0) (xs:=svs E) (y:=⟨(X,a1,c1),(Y,a2,c2),st⟩) rfl rfl rfl ?e1 rfl ?e2 ?e3 ?e4 ?_)
   case e1=>exact oOB HO.out fun g hg=>hAE _ _ _ (oLT HO.out hg)
   case e2=>first|(first|(rw [hAC,if_pos rfl];done)|exact (Array.getElem?_eq_some_iff.1 ((hAC _ _ _).trans (if_pos rfl))).2|(simp only [hDR,hDN];rw [hAC,if_pos rfl];done))|(refine (Array.getElem?_eq_some_iff.1 ?_).2;(repeat first|rw [if_pos (by omega)]|rw [if_neg (by omega)]|rw [hDR]|rw [hDN]|rw [hAz]|rw [hSz]|rw [hAC]|rw [hSC]|rw [oMS]|rw [uPC]|rw [lSZ]|rw [lSS]|rfl))
   case e3=>have:=HST.out.len;have:=HM.out;omega
   case e4=>omega
   intro g2 cap w10 hown1 hW1 hF1 hloc1 hg1
   rw [svs_snoc _ ⟨(X,a1,c1),(Y,a2,c2),st⟩] at hown1
   have h9:=hAP (n':=(E++([⟨(X,a1,c1),(Y,a2,c2),st⟩]:List SV)).length) (H7.out.step (by (repeat first|exact Fr.refl _ _|assumption|apply Fr.n|apply Fr.d|apply Fr.a|refine Fr.s ?_ (.inr (by simp;try omega)) _))) (by rw [List.length_append];exact hown1) rfl hF1 (by rcases hloc1 with h|h;exact .inl h;exact .inr (by rw [h];simp))
   have h9:=h9.ord 5 [1,2,3,0,4]
   simp only [List.filterMap_cons,List.filterMap_nil,List.getElem?_cons_zero,List.getElem?_cons_succ,List.drop_succ_cons,List.drop_zero,List.cons_append,List.nil_append,List.take_succ_cons,List.take_zero,List.eraseIdx_cons_succ,List.eraseIdx_zero,List.eraseIdx_cons_zero,List.tail_cons,Option.toList_some] at h9
   have h9:=(pool_add h9).ord 4 [1,0,2,3]
   simp only [List.filterMap_cons,List.filterMap_nil,List.getElem?_cons_zero,List.getElem?_cons_succ,List.drop_succ_cons,List.drop_zero,List.cons_append,List.nil_append,List.take_succ_cons,List.take_zero,List.eraseIdx_cons_succ,List.eraseIdx_zero,List.eraseIdx_cons_zero,List.tail_cons,Option.toList_some] at h9
   have h9:=(pool_add h9).ord 3 [1,0,2]
   simp only [List.filterMap_cons,List.filterMap_nil,List.getElem?_cons_zero,List.getElem?_cons_succ,List.drop_succ_cons,List.drop_zero,List.cons_append,List.nil_append,List.take_succ_cons,List.take_zero,List.eraseIdx_cons_succ,List.eraseIdx_zero,List.eraseIdx_cons_zero,List.tail_cons,Option.toList_some] at h9
   have H9:=Lib.hid h9
   clear y0 y1 y2 y3 y4 yl h9 hown1 hW1 hF1 hloc1 hg1 HO H7
   go_wp2
   go_roundw
   case rel=>exact⟨i+1,_,E++[⟨(X,a1,c1),(Y,a2,c2),st⟩],_,⟨rfl,by go_num⟩,HST.out.add HPI.out HNP.out HSPT.out (H9.out.step (by (repeat first|exact Fr.refl _ _|assumption|apply Fr.n|apply Fr.d|apply Fr.a|refine Fr.s ?_ (.inr (by simp;try omega)) _)))⟩
   case measure=>simp [intOf];omega
  ·obtain rfl:i=m:=by omega
   have HALL:=Lib.hid (show p.all (inC x y L)=true from by have:=HST.out.all;rwa [List.take_of_length_le (by rw [HM.out];exact Nat.le_refl _)] at this)
   have HMP:=Lib.hid (show E.map SV.spot=p.map (spot x y) from by have:=HST.out.mp;rwa [List.take_of_length_le (by rw [HM.out];exact Nat.le_refl _)] at this)
   obtain⟨tp,htp⟩:∃ tp,topP p=tp:=⟨_,rfl⟩
   rw [htp] at HTOP
   have HTP:=Lib.hid htp
   have hrow:=HST.out.has.row
   obtain⟨av,cv,rfl,_,_⟩:=oFM hrow
   clear hrow htp
   have h1:=HST.out.has.ord 3 [2,0,1]
   simp only [List.filterMap_cons,List.filterMap_nil,List.getElem?_cons_zero,List.getElem?_cons_succ,List.drop_succ_cons,List.drop_zero,List.cons_append,List.nil_append,List.take_succ_cons,List.take_zero,List.eraseIdx_cons_succ,List.eraseIdx_zero,List.eraseIdx_cons_zero,List.tail_cons,Option.toList_some] at h1
   have H1:=Lib.hid h1
   clear h1
   go_wp2_with fail
   refine (HTOP.out _ (H1.out.fr.trans0 (by (repeat first|exact Fr.refl _ _|assumption|apply Fr.n|apply Fr.d|apply Fr.a|refine Fr.s ?_ (.inr (by simp;try omega)) _)))).mono ?_
   rintro e w5 ⟨rfl,hf5⟩
   have H2:=Lib.hid (H1.out.step (Fr.trans0 (by (repeat first|exact Fr.refl _ _|assumption|apply Fr.n|apply Fr.d|apply Fr.a|refine Fr.s ?_ (.inr (by simp;try omega)) _)) hf5))
   clear hf5 H1
   go_wp2_with fail
   refine (RData_has H2.out).mono ?_
   rintro e w6 ⟨dv,rfl,h3⟩
   obtain⟨da,dc,rfl,_,_⟩:=oFM h3.row
   have hfld:=run_field_states w6
   have H3:=Lib.hid h3.drop
   clear h3 H2
   by_cases hs:tp<s
   ·have hd9:decide (tp ≥ s)=false:=by rw [decide_eq_false_iff_not];omega
    have HST2:=Lib.hid (show ∀ c∈p,c.st<s from (topP_lt (by have:=HG.out.1;omega)).1 (by rw [HTP.out];exact hs))
    have HSB:=Lib.hid (show p.all (stB s)=true by
     rw [List.all_eq_true]
     intro c hc
     have h1:=(HPC.out c hc).2.2.1
     have h2:=HST2.out c hc
     simp only [stB,decide_eq_true_eq]
     omega)
    have HBLD:=Lib.hid (show Calls Try.prog 57 #[.pointer (some ⟨b,0,none⟩),.slice av E.length cv,.int .i64 level] w6 _ from H3.out.updO (P':=refR b s (buildQ s L ns (p.map (spot x y))).2) (R:=fun e=>e=.returned (.tuple #[.int .i64 (buildQ s L ns (p.map (spot x y))).1.1,.int .i64 (buildQ s L ns (p.map (spot x y))).1.2])) fun F hF hO=>by
     have hsp:=sp_of_has (F:=F) (v:=.slice av E.length cv) (PL:=PL) (hO _ (by simp)) (hO _ (by simp)) HST.out.el
     have hok:=okS_spot HR.out HALL.out HST2.out
     rw [HLL.out,← HMP.out]
     rw [← HMP.out] at hok
     exact Rbuild_all (s:=s) (L:=emptiesT L++newT L (p.map (spot x y))) (b:=b) L hL256 w6 F ns av cv E hF HRM.out hsp hok (by have:=HST.out.len;rw [HM.out] at this;omega) (fun i hi=>List.mem_append.2 (.inl (List.mem_map.2 ⟨i,List.mem_range.2 hi,rfl⟩))) (fun u hu=>List.mem_append.2 (.inr (by rw [HMP.out] at hu;exact hu))))
    have HRE:=Lib.hid (show buildQ s L ns (p.map (spot x y))=R from by
     have hR:=HRR.out
     simp only [HALL.out,HSB.out,Bool.true_eq_false,if_false] at hR
     exact hR)
    rw [HRE.out] at HBLD
    clear hs
    go_wp2_with fail
    refine HBLD.out.mono ?_
    rintro e w7 ⟨rfl,h7⟩
    have H7:=Lib.hid (h7.ord 3 [0])
    clear h7
    go_wp2
    go_ret2
    exact⟨rfl,H7.out⟩
   ·have hd9:decide (tp ≥ s)=true:=by rw [decide_eq_true_eq];omega
    have HSB:=Lib.hid (show p.all (stB s)=false by
     cases h:p.all (stB s)
     ·rfl
     ·exfalso
      apply hs
      rw [← HTP.out]
      apply (topP_lt (by have:=HG.out.1;omega)).2
      intro c hc
      have:=List.all_eq_true.1 h c hc
      simp only [stB,decide_eq_true_eq] at this
      exact this.2)
    have HRE:=Lib.hid (show R=((0,10),ns) from by
     have hR:=HRR.out
     simp only [HALL.out,HSB.out,Bool.true_eq_false,if_false,if_true] at hR
     exact hR.symm)
    clear hs
    go_wp2
    go_ret2
    rw [HRE.out]
    exact⟨rfl,(H3.out.ord 3 [0]).step (by (repeat first|exact Fr.refl _ _|assumption|apply Fr.n|apply Fr.d|apply Fr.a|refine Fr.s ?_ (.inr (by simp;try omega)) _))⟩
end Go.Proofs.Ytppmnmheodimoaa
end
section
namespace Go.Proofs.Ytppmnmheodimoaa
open Go Go.RowKit Rg Mp Hp Qs Ev
theorem lists_eq {α:Type} {l m:List α} (hl:l.length=m.length) (h:∀ i,i<l.length→l[i]?=m[i]?):l=m:=by
 apply List.ext_getElem?
 intro i
 by_cases hi:i<l.length
 ·exact h i hi
 ·rw [List.getElem?_eq_none (by omega),List.getElem?_eq_none (by omega)]
set_option maxHeartbeats 4000000 in
set_option maxRecDepth 100000 in
theorem LInts_calls {w:World} {u v:Value} {l m:List Int} (hl:IntsAt w u l) (hm:IntsAt w v m) (h1:l.length≤1000000) (h2:m.length≤1000000) :
  Calls Try.prog 50 #[u,v] w fun e w'=>e=.returned (.bool (decide (l=m)))∧Fr [] w w':=by
 obtain⟨ua,uc,rfl⟩:=hl.form
 obtain⟨va,vc,rfl⟩:=hm.form
 by_cases hlen:l.length=m.length
 ·have HL:=Lib.hid hl
  have HM:=Lib.hid hm
  have HLEN:=Lib.hid hlen
  rw [← hlen] at HM ⊢
  have hq:(((l.length:Nat):Int) != ((l.length:Nat):Int))=false:=by simp
  clear hl hm hlen h2
  go_enter Try.func50,Try.ntmps50
  go_wp2
  go_loopw [13] (fun x wr=>∃ i:Nat,x=.int .i64 i∧i≤l.length∧Hid (∀ j,j<i→l[j]?=m[j]?)∧Hid (Fr [] w wr)) (fun z _=>l.length - (intOf z).toNat)
  case atStart=>exact⟨0,rfl,by omega,Lib.hid (by omega),Lib.hid (Fr.refl _ _)⟩
  case round =>
   obtain⟨i,rfl,hi,HE,Hf⟩:=hrel
   by_cases hlt:i<l.length
   ·obtain⟨x,hx⟩:∃ x,l[i]?=some x:=⟨_,List.getElem?_eq_getElem hlt⟩
    obtain⟨y,hy⟩:∃ y,m[i]?=some y:=⟨_,List.getElem?_eq_getElem (by have:=HLEN.out;omega)⟩
    obtain⟨gx,ox,rfl,lx,cx⟩:=(HL.out.fr Hf.out).cell hx
    obtain⟨gy,oy,rfl,ly,cy⟩:=(HM.out.fr Hf.out).cell hy
    by_cases hxy:x=y
    ·have HXY:=Lib.hid (show ∀ j,j<i+1→l[j]?=m[j]? from fun j hj=>by
      by_cases e:j=i
      ·subst e;rw [hx,hy,hxy]
      ·exact HE.out j (by omega))
     have hne:(x != y)=false:=by simp [hxy]
     clear hx hy hxy HE
     go_wp2
     (refine wRT (by kernel_rfl) (by kernel_rfl) ?_)
     go_wp2
     refine Strict.intro rfl ?_
     go_wp2
     go_roundw
     case rel=>exact⟨i+1,by go_num,by omega,HXY,Lib.hid (Hf.out.trans0 (by (repeat first|exact Fr.refl _ _|assumption|apply Fr.n|apply Fr.d|apply Fr.a|refine Fr.s ?_ (.inr (by simp;try omega)) _)))⟩
     case measure=>simp [intOf];omega
    ·have HNE:=Lib.hid (show decide (l=m)=false from by
      rw [decide_eq_false_iff_not]
      intro e
      rw [e,hy] at hx
      exact hxy (Option.some.inj hx).symm)
     have hne:(x != y)=true:=by simpa using hxy
     clear hx hy hxy HE
     go_wp2
     (refine wRT (by kernel_rfl) (by kernel_rfl) ?_)
     go_wp2
     refine Strict.intro rfl ?_
     go_wp2
     go_ret
     exact⟨ret_bool' HNE.out.symm,by have:=Hf.out;(repeat first|exact Fr.refl _ _|assumption|apply Fr.n|apply Fr.d|apply Fr.a|refine Fr.s ?_ (.inr (by simp;try omega)) _)⟩
   ·have HEQ:=Lib.hid (show decide (l=m)=true by
     rw [decide_eq_true_iff]
     exact lists_eq HLEN.out fun j hj=>HE.out j (by omega))
    obtain rfl:i=l.length:=by omega
    go_wp2
    go_ret
    exact⟨ret_bool' HEQ.out.symm,by have:=Hf.out;(repeat first|exact Fr.refl _ _|assumption|apply Fr.n|apply Fr.d|apply Fr.a|refine Fr.s ?_ (.inr (by simp;try omega)) _)⟩
 ·have HNE:=Lib.hid (show decide (l=m)=false by rw [decide_eq_false_iff_not];intro e;exact hlen (by rw [e]))
  have hq:(((l.length:Nat):Int) != ((m.length:Nat):Int))=true:=by simp;omega
  clear hl hm hlen
  go_enter Try.func50,Try.ntmps50
  go_wp2
  go_ret
  exact⟨ret_bool' HNE.out.symm,by (repeat first|exact Fr.refl _ _|assumption|apply Fr.n|apply Fr.d|apply Fr.a|refine Fr.s ?_ (.inr (by simp;try omega)) _)⟩
set_option maxHeartbeats 4000000 in
set_option maxRecDepth 100000 in
theorem LSame_calls {w:World} {u v:Value} {L M:List (List Int)} (hl:RowsAt w u L) (hm:RowsAt w v M) (h1:L.length≤1000000) (h2:M.length≤1000000) (h3:∀ r∈L,r.length≤1000000) (h4:∀ r∈M,r.length≤1000000) :
  Calls Try.prog 22 #[u,v] w fun e w'=>e=.returned (.bool (decide (L=M)))∧Fr [] w w':=by
 obtain⟨ua,uc,rfl⟩:=hl.form
 obtain⟨va,vc,rfl⟩:=hm.form
 by_cases hlen:L.length=M.length
 ·have HL:=Lib.hid hl
  have HM:=Lib.hid hm
  have HLEN:=Lib.hid hlen
  have H3:=Lib.hid h3
  have H4:=Lib.hid h4
  rw [← hlen] at HM ⊢
  have hq:(((L.length:Nat):Int) != ((L.length:Nat):Int))=false:=by simp
  clear hl hm hlen h2 h3 h4
  go_enter Try.func22,Try.ntmps22
  go_wp2
  go_loopw [13] (fun x wr=>∃ i:Nat,x=.int .i64 i∧i≤L.length∧Hid (∀ j,j<i→L[j]?=M[j]?)∧Hid (Fr [] w wr)) (fun z _=>L.length - (intOf z).toNat)
  case atStart=>exact⟨0,rfl,by omega,Lib.hid (by omega),Lib.hid (Fr.refl _ _)⟩
  case round =>
   obtain⟨i,rfl,hi,HE,Hf⟩:=hrel
   by_cases hlt:i<L.length
   ·obtain⟨x,hx⟩:∃ x,L[i]?=some x:=⟨_,List.getElem?_eq_getElem hlt⟩
    obtain⟨y,hy⟩:∃ y,M[i]?=some y:=⟨_,List.getElem?_eq_getElem (by have:=HLEN.out;omega)⟩
    obtain⟨gx,ox,rxa,rxc,rfl,lx,cx,hxi⟩:=(HL.out.fr Hf.out).row hx
    obtain⟨gy,oy,rya,ryc,rfl,ly,cy,hyi⟩:=(HM.out.fr Hf.out).row hy
    have HC:=Lib.hid (fun w1 (hf:Fr [] wr w1)=>LInts_calls (hxi.fr hf) (hyi.fr hf) (H3.out x (List.mem_of_getElem? hx)) (H4.out y (List.mem_of_getElem? hy)))
    by_cases hxy:x=y
    ·have HXY:=Lib.hid (show ∀ j,j<i+1→L[j]?=M[j]? from fun j hj=>by
      by_cases e:j=i
      ·subst e;rw [hx,hy,hxy]
      ·exact HE.out j (by omega))
     rw [decide_eq_true hxy] at HC
     clear hx hy hxy HE hxi hyi
     go_wp2
     (refine wRT (by kernel_rfl) (by kernel_rfl) ?_)
     go_wp2_with fail
     refine (HC.out _ (by (repeat first|exact Fr.refl _ _|assumption|apply Fr.n|apply Fr.d|apply Fr.a|refine Fr.s ?_ (.inr (by simp;try omega)) _))).mono ?_
     rintro e w5 ⟨rfl,hf⟩
     have Hf:=Lib.hid (Hf.out.trans0 (Fr.trans0 (by (repeat first|exact Fr.refl _ _|assumption|apply Fr.n|apply Fr.d|apply Fr.a|refine Fr.s ?_ (.inr (by simp;try omega)) _)) hf))
     clear hf cx cy lx ly
     go_wp2
     refine Strict.intro rfl ?_
     go_wp2
     go_roundw
     case rel=>exact⟨i+1,by go_num,by omega,HXY,Lib.hid (Hf.out.trans0 (by (repeat first|exact Fr.refl _ _|assumption|apply Fr.n|apply Fr.d|apply Fr.a|refine Fr.s ?_ (.inr (by simp;try omega)) _)))⟩
     case measure=>simp [intOf];omega
    ·have HNE:=Lib.hid (show decide (L=M)=false from by
      rw [decide_eq_false_iff_not]
      intro e
      rw [e,hy] at hx
      exact hxy (Option.some.inj hx).symm)
     rw [decide_eq_false hxy] at HC
     clear hx hy hxy HE hxi hyi
     go_wp2
     (refine wRT (by kernel_rfl) (by kernel_rfl) ?_)
     go_wp2_with fail
     refine (HC.out _ (by (repeat first|exact Fr.refl _ _|assumption|apply Fr.n|apply Fr.d|apply Fr.a|refine Fr.s ?_ (.inr (by simp;try omega)) _))).mono ?_
     rintro e w5 ⟨rfl,hf⟩
     have Hf:=Lib.hid (Hf.out.trans0 (Fr.trans0 (by (repeat first|exact Fr.refl _ _|assumption|apply Fr.n|apply Fr.d|apply Fr.a|refine Fr.s ?_ (.inr (by simp;try omega)) _)) hf))
     clear hf cx cy lx ly
     go_wp2
     refine Strict.intro rfl ?_
     go_wp2
     go_ret
     exact⟨ret_bool' HNE.out.symm,by have:=Hf.out;(repeat first|exact Fr.refl _ _|assumption|apply Fr.n|apply Fr.d|apply Fr.a|refine Fr.s ?_ (.inr (by simp;try omega)) _)⟩
   ·have HEQ:=Lib.hid (show decide (L=M)=true by
     rw [decide_eq_true_iff]
     exact lists_eq HLEN.out fun j hj=>HE.out j (by omega))
    obtain rfl:i=L.length:=by omega
    go_wp2
    go_ret
    exact⟨ret_bool' HEQ.out.symm,by have:=Hf.out;(repeat first|exact Fr.refl _ _|assumption|apply Fr.n|apply Fr.d|apply Fr.a|refine Fr.s ?_ (.inr (by simp;try omega)) _)⟩
 ·have HNE:=Lib.hid (show decide (L=M)=false by rw [decide_eq_false_iff_not];intro e;exact hlen (by rw [e]))
  have hq:(((L.length:Nat):Int) != ((M.length:Nat):Int))=true:=by simp;omega
  clear hl hm hlen
  go_enter Try.func22,Try.ntmps22
  go_wp2
  go_ret
  exact⟨ret_bool' HNE.out.symm,by (repeat first|exact Fr.refl _ _|assumption|apply Fr.n|apply Fr.d|apply Fr.a|refine Fr.s ?_ (.inr (by simp;try omega)) _)⟩
set_option maxHeartbeats 4000000 in
set_option maxRecDepth 100000 in
theorem LRows_calls {W w:World} {b:Nat} {s:Int} {ns:List K4} {Ps:List Res} (h:Has W w (sTR b s ns::Ps)) {n:Nat} {id:Int} {t:Tr} (hi:Is s ns n id t) (hn:n≤6) (hlen:ns.length≤90000) :
  Calls Try.prog 23 #[.pointer (some ⟨b,0,none⟩),.int .i64 id] w fun e w'=>∃ a c,e=.returned (.slice a (2 ^ n) c)∧Gath w' w.heap.size (ge w.heap.size) (.slice a (2 ^ n) c) (cellsL n t)∧Fr [] w w':=by
 have HI:=Lib.hid hi
 have H:=Lib.hid h
 have hg:=has_good h
 have HC:=Lib.hid (fun b=>cells_all (s:=s) (ns:=ns) (b:=b) n (by omega))
 have hn6:(n:Int)≤6:=by omega
 have hn0:decide ((n:Int)<0)=false:=by simp
 unfold CellsAt at HC
 generalize hm:2 ^ n=m at HC
 have HM:=Lib.hid hm
 clear h hi hm
 go_enter Try.func23,Try.ntmps23
 go_wp2_with fail
 refine (Data_has H.out).mono ?_
 rintro e w1 ⟨xa,xc,rfl,ho,h1,hf⟩
 have Hf:=Lib.hid hf
 have HR:=Lib.hid (Reads.of_owns ho)
 clear ho h1 hf
 go_wp2_with fail
 refine (RLoad_calls (ns:=ns) hlen (HR.out.fr (by (repeat first|exact Fr.refl _ _|assumption|apply Fr.n|apply Fr.d|apply Fr.a|refine Fr.s ?_ (.inr (by simp;try omega)) _)))).mono ?_
 rintro e w2 ⟨hpos,hneg⟩
 obtain⟨b2,F,rfl,hS,hf,_⟩:=hpos hg
 have HS:=Lib.hid hS
 have Hf:=Lib.hid (Hf.out.trans0 (Fr.trans0 (by (repeat first|exact Fr.refl _ _|assumption|apply Fr.n|apply Fr.d|apply Fr.a|refine Fr.s ?_ (.inr (by simp;try omega)) _)) hf))
 clear hpos hneg hS hf HR
 go_wp2_with fail
 refine (RLevelIs (HS.out.fr (G:=[]) (by (repeat first|exact Fr.refl _ _|assumption|apply Fr.n|apply Fr.d|apply Fr.a|refine Fr.s ?_ (.inr (by simp;try omega)) _)) (by simp)) HI.out).mono ?_
 rintro e w3 ⟨rfl,hf⟩
 have hf3:Fr [] w2 w3:=Fr.trans0 (by (repeat first|exact Fr.refl _ _|assumption|apply Fr.n|apply Fr.d|apply Fr.a|refine Fr.s ?_ (.inr (by simp;try omega)) _)) hf
 have HS:=Lib.hid (HS.out.fr hf3 (by simp))
 have Hf:=Lib.hid (Hf.out.trans0 hf3)
 clear hf hf3
 go_wp2_with fail
 refine (RLevelIs (HS.out.fr (G:=[]) (by (repeat first|exact Fr.refl _ _|assumption|apply Fr.n|apply Fr.d|apply Fr.a|refine Fr.s ?_ (.inr (by simp;try omega)) _)) (by simp)) HI.out).mono ?_
 rintro e w4 ⟨rfl,hf⟩
 have hf3:Fr [] w3 w4:=Fr.trans0 (by (repeat first|exact Fr.refl _ _|assumption|apply Fr.n|apply Fr.d|apply Fr.a|refine Fr.s ?_ (.inr (by simp;try omega)) _)) hf
 have HS:=Lib.hid (HS.out.fr hf3 (by simp))
 have Hf:=Lib.hid (Hf.out.trans0 hf3)
 clear hf hf3
 go_wp2_with fail
 refine (HC.out b2 _ F id t (HS.out.fr (G:=[]) (by (repeat first|exact Fr.refl _ _|assumption|apply Fr.n|apply Fr.d|apply Fr.a|refine Fr.s ?_ (.inr (by simp;try omega)) _)) (by simp)) HI.out).mono ?_
 rintro e w5 ⟨ra,rc,rfl,hg5,hf⟩
 have hs4:w.heap.size≤w4.heap.size:=Hf.out.size
 have HG:=Lib.hid (hg5.low (base':=w.heap.size) (P':=ge w.heap.size) (by first|exact hs4|(first|omega|(simp only [hDR,hDN,hAz];omega)|(simp;omega))) (fun g hg=>Nat.le_trans (by first|exact hs4|(first|omega|(simp only [hDR,hDN,hAz];omega)|(simp;omega))) hg))
 have Hf:=Lib.hid (Hf.out.trans0 (Fr.trans0 (by (repeat first|exact Fr.refl _ _|assumption|apply Fr.n|apply Fr.d|apply Fr.a|refine Fr.s ?_ (.inr (by simp;try omega)) _)) hf))
 clear hf hg5
 go_wp2
 go_ret
 exact⟨ra,rc,rfl,HG.out,by have:=Hf.out;(repeat first|exact Fr.refl _ _|assumption|apply Fr.n|apply Fr.d|apply Fr.a|refine Fr.s ?_ (.inr (by simp;try omega)) _)⟩
def few12 (r:Rule):Bool:=decide (r.hood.length≤40) && decide (r.nodes.length≤400) && r.nodes.all fun x=>decide (x.2.length≤20)
set_option maxHeartbeats 4000000 in
set_option maxRecDepth 100000 in
theorem LFew12_calls {w:World} {r:Rule} {ha na:Option Addr} {hc nc:Nat} (hru:RuleAt w (.slice ha r.hood.length hc) (.slice na r.nodes.length nc) r) :
  Calls Try.prog 15 #[.agg #[.int .i64 r.S,.slice ha r.hood.length hc,.slice na r.nodes.length nc]] w fun e w'=>e=.returned (.bool (few12 r))∧Fr [] w w':=by
 have HN:=Lib.hid hru.2
 clear hru
 by_cases h1:r.hood.length≤40
 ·by_cases h2:r.nodes.length≤400
  ·go_enter Try.func15,Try.ntmps15
   go_wp2
   obtain⟨w1,hw1⟩:∃ w1,w.alloc (Obj.cells #[Value.int .i64 r.S,.slice ha r.hood.length hc,.slice na r.nodes.length nc] 31 (0,0))=w1:=⟨_,rfl⟩
   have hb1:w1.heap[w.heap.size]?=some (.cells #[Value.int .i64 r.S,.slice ha r.hood.length hc,.slice na r.nodes.length nc] 31 (0,0)):=by rw [← hw1];(repeat first|rw [if_pos (by omega)]|rw [if_neg (by omega)]|rw [hDR]|rw [hDN]|rw [hAz]|rw [hSz]|rw [hAC]|rw [hSC]|rw [oMS]|rw [uPC]|rw [lSZ]|rw [lSS]|rfl)
   have Hf:=Lib.hid (show Fr [] w w1 by rw [← hw1];(repeat first|exact Fr.refl _ _|assumption|apply Fr.n|apply Fr.d|apply Fr.a|refine Fr.s ?_ (.inr (by simp;try omega)) _))
   rw [hw1]
   have Ht:=Lib.hid hb1
   obtain⟨tb,htb⟩:∃ t,w.heap.size=t:=⟨_,rfl⟩
   rw [htb] at Ht ⊢
   clear hw1 hb1 htb
   have hfk:=Fr.refl [] w1
   (try clear t0)
   (try clear t1)
   (try clear t2)
   (try clear tl)
   have ht_:=(hfk.block _ (lBk Ht.out) (by simp)).trans Ht.out
   clear Ht
   have t0:=hEC ht_ 0
   have t1:=hEC ht_ 1
   have t2:=hEC ht_ 2
   have tl:=lBk ht_
   have Ht:=Lib.hid ht_
   clear ht_
   clear hfk
   go_loopw [17] (fun x wr=>∃ i:Nat,x=.int .i64 i∧i≤r.nodes.length∧Hid (∀ j x,j<i→r.nodes[j]?=some x→x.2.length≤20)∧wr=w1) (fun z _=>r.nodes.length - (intOf z).toNat)
   case atStart=>exact⟨0,rfl,by omega,Lib.hid (by omega),rfl⟩
   case round =>
    obtain⟨i,rfl,hi,HE,rfl⟩:=hrel
    by_cases hlt:i<r.nodes.length
    ·obtain⟨x,hx⟩:∃ x,r.nodes[i]?=some x:=⟨_,List.getElem?_eq_getElem hlt⟩
     obtain⟨g,off,ra,rc,rfl,hg,e0,e1,hi9⟩:=(HN.out.fr Hf.out).node hx
     have HX:=Lib.hid hx
     clear hx hi9 e0
     by_cases hle:x.2.length≤20
     ·have HE':=Lib.hid (show ∀ j x,j<i+1→r.nodes[j]?=some x→x.2.length≤20 from fun j y hj hy=>by
       by_cases e:j=i
       ·subst e;rw [HX.out] at hy;obtain rfl:=Option.some.inj hy;exact hle
       ·exact HE.out j y (by omega) hy)
      generalize x.2.length=xl at *
      go_wp2
      go_roundw
      case rel=>exact⟨i+1,by go_num,by omega,HE',trivial⟩
      case measure=>simp [intOf];omega
     ·have HNE:=Lib.hid (show few12 r=false by
       unfold few12
       have:r.nodes.all (fun x=>decide (x.2.length≤20))=false:=all_false HX.out (by simpa using hle)
       rw [this];simp)
      generalize x.2.length=xl at *
      go_wp2
      go_ret
      exact⟨ret_bool' HNE.out.symm,by have:=Hf.out;(repeat first|exact Fr.refl _ _|assumption|apply Fr.n|apply Fr.d|apply Fr.a|refine Fr.s ?_ (.inr (by simp;try omega)) _)⟩
    ·have HEQ:=Lib.hid (show few12 r=true by
      unfold few12
      rw [decide_eq_true h1,decide_eq_true h2,all_true (fun j x hx hj=>decide_eq_true (HE.out j x (by omega) hx))];rfl)
     obtain rfl:i=r.nodes.length:=by omega
     go_wp2
     go_ret
     exact⟨ret_bool' HEQ.out.symm,by have:=Hf.out;(repeat first|exact Fr.refl _ _|assumption|apply Fr.n|apply Fr.d|apply Fr.a|refine Fr.s ?_ (.inr (by simp;try omega)) _)⟩
  ·have HNE:=Lib.hid (show few12 r=false by unfold few12;rw [decide_eq_false h2];simp)
   go_enter Try.func15,Try.ntmps15
   go_wp2
   go_ret
   exact⟨ret_bool' HNE.out.symm,by (repeat first|exact Fr.refl _ _|assumption|apply Fr.n|apply Fr.d|apply Fr.a|refine Fr.s ?_ (.inr (by simp;try omega)) _)⟩
 ·have HNE:=Lib.hid (show few12 r=false by unfold few12;rw [decide_eq_false h1];simp)
  go_enter Try.func15,Try.ntmps15
  go_wp2
  go_ret
  exact⟨ret_bool' HNE.out.symm,by (repeat first|exact Fr.refl _ _|assumption|apply Fr.n|apply Fr.d|apply Fr.a|refine Fr.s ?_ (.inr (by simp;try omega)) _)⟩
end Go.Proofs.Ytppmnmheodimoaa
end
section
namespace Go.Proofs.Ytppmnmheodimoaa
open Go Go.RowKit Rg Mp Hp Qs Ev
set_option maxHeartbeats 4000000 in
set_option maxRecDepth 100000 in
theorem LRight_calls {w:World}:Calls Try.prog 11 #[] w fun e w'=>∃ ha na hc nc,e=.returned (.agg #[.int .i64 2,.slice ha 2 hc,.slice na 2 nc])∧(∀ w2:World,(∀ x,w.heap.size≤x→x<w'.heap.size→w2.heap[x]?=w'.heap[x]?)→RuleAt w2 (.slice ha 2 hc) (.slice na 2 nc) rightRule)∧Fr [] w w':=by
 go_enter Try.func11,Try.ntmps11
 go_wp2_with fail
 refine (RRead_calls (hb:=w.heap.size+1) (c:=2) (reads_blk (t:=87) (fr:=(0,0)) (cs:=pts rightHood) (by (repeat first|rw [if_pos (by omega)]|rw [if_neg (by omega)]|rw [hDR]|rw [hDN]|rw [hAz]|rw [hSz]|rw [hAC]|rw [hSC]|rw [oMS]|rw [uPC]|rw [lSZ]|rw [lSS]|rfl)) rfl)).mono ?_
 rintro e w1 ⟨na,nc,rfl,hn,hf⟩
 have hb_:=(hf.block (w.heap.size) (by first|(simp;done)|(simp;omega)) (by simp)).trans (show _=some (.cells #[.int .i64 0,.slice none 0 0,.slice none 0 0] 31 (0,0)) by (repeat first|rw [if_pos (by omega)]|rw [if_neg (by omega)]|rw [hDR]|rw [hDN]|rw [hAz]|rw [hSz]|rw [hAC]|rw [hSC]|rw [oMS]|rw [uPC]|rw [lSZ]|rw [lSS]|rfl))
 have b0:=hEC hb_ 0
 have b0z:=hEF hb_ 0
 have b1:=hEC hb_ 1
 have b1z:=hEF hb_ 1
 have b2:=hEC hb_ 2
 have b2z:=hEF hb_ 2
 have bl:=lBk hb_
 have Hb:=Lib.hid hb_
 clear hb_
 have hh:w1.heap[w.heap.size+1]?=some (.cells (pts rightHood).toArray 87 (0,0)):=(hf.block (w.heap.size+1) (by simp) (by simp)).trans (by (repeat first|rw [if_pos (by omega)]|rw [if_neg (by omega)]|rw [hDR]|rw [hDN]|rw [hAz]|rw [hSz]|rw [hAC]|rw [hSC]|rw [oMS]|rw [uPC]|rw [lSZ]|rw [lSS]|rfl))
 have HHd:=Lib.hid hh
 have HN:=Lib.hid hn
 have hsz:=hf.size
 have Hf:=Lib.hid (Fr.trans0 (by (repeat first|exact Fr.refl _ _|assumption|apply Fr.n|apply Fr.d|apply Fr.a|refine Fr.s ?_ (.inr (by simp;try omega)) _):Fr [] w _) hf)
 clear hh hn hf
 simp only [hAz] at hsz
 go_wp2
 refine bodyPost_ret (tree_result1 rfl (b:=w.heap.size) (x:=.int .i64 2) (y:=.slice (some ⟨w.heap.size+1,0,none⟩) 2 2) (z:=.slice na 2 nc) rfl ?_) rfl ⟨_,na,2,nc,rfl,fun w2 hk=>⟨reads_blk (t:=87) (fr:=(0,0)) (cs:=pts rightHood) ?_ rfl,HN.out _ fun x h1 h2=>?_⟩,?_⟩
 ·have G:=Hb.out
  (repeat first|rw [if_pos (by omega)]|rw [if_neg (by omega)]|rw [hDR]|rw [hDN]|rw [hAz]|rw [hSz]|rw [hAC]|rw [hSC]|rw [oMS]|rw [uPC]|rw [lSZ]|rw [lSS]|rfl)
  rw [G]
  (repeat first|rw [if_pos (by omega)]|rw [if_neg (by omega)]|rw [hDR]|rw [hDN]|rw [hAz]|rw [hSz]|rw [hAC]|rw [hSC]|rw [oMS]|rw [uPC]|rw [lSZ]|rw [lSS]|rfl)
 ·have G:=HHd.out
  refine (hk (w.heap.size+1) (by omega) (by simp;omega)).trans ?_
  (repeat first|rw [if_pos (by omega)]|rw [if_neg (by omega)]|rw [hDR]|rw [hDN]|rw [hAz]|rw [hSz]|rw [hAC]|rw [hSC]|rw [oMS]|rw [uPC]|rw [lSZ]|rw [lSS]|rfl)
  exact G
 ·simp only [hAz] at h1
  refine (hk x (by omega) (by simp;omega)).trans ?_
  (repeat first|rw [if_pos (by omega)]|rw [if_neg (by omega)]|rw [hDR]|rw [hDN]|rw [hAz]|rw [hSz]|rw [hAC]|rw [hSC]|rw [oMS]|rw [uPC]|rw [lSZ]|rw [lSS]|rfl)
 ·have:=Hf.out
  (repeat first|exact Fr.refl _ _|assumption|apply Fr.n|apply Fr.d|apply Fr.a|refine Fr.s ?_ (.inr (by simp;try omega)) _)
def ruleR (hv nv:Value) (r:Rule):Res where
 holds w F:=(∀ w2:World,(∀ x∈F,w2.heap[x]?=w.heap[x]?)→RuleAt w2 hv nv r)∧∀ x∈F,x<w.heap.size
 keep:=fun ⟨h1,h2⟩ hk=>⟨fun w2 h=>h1 w2 fun x hx=>(h x hx).trans (hk x hx),fun x hx=>by
  have:=hk x hx
  rw [Array.getElem?_eq_getElem (h2 x hx)] at this
  exact lBk this⟩
 lt:=fun ⟨h1,h2⟩=>h2
theorem rule_new {W w w':World} {hv nv:Value} {r:Rule} {Ps:List Res} (h:Has W w Ps) (hr:∀ w2:World,(∀ x,w.heap.size≤x→x<w'.heap.size→w2.heap[x]?=w'.heap[x]?)→RuleAt w2 hv nv r) (hf:Fr [] w w'):Has W w' (ruleR hv nv r::Ps) :=
 h.new (F:=(List.range w'.heap.size).filter fun x=>decide (w.heap.size≤x)) hf ⟨fun w2 hk=>hr w2 fun x h1 h2=>hk x (by simp;omega),fun x hx=>by simp at hx;exact hx.1⟩ fun x hx=>by simp at hx;exact hx.2
theorem has_mem {W w:World} {P:Res}:∀ {Ps:List Res},Has W w Ps→P∈Ps→∃ F,P.holds w F
 | [],_,hm=>by cases hm
 | Q::Qs,h,hm=>by
  rcases List.mem_cons.1 hm with rfl|hm
  ·exact h.head
  ·exact has_mem h.drop hm
theorem rule_src {W:World} {hv nv:Value} {r:Rule} {Ps:List Res}:RuleSrc W hv nv r (ruleR hv nv r::Ps):=fun w Qs h hm=>by
 obtain⟨F,h1,h2⟩:=has_mem h (hm (ruleR hv nv r) (by simp))
 exact h1 w fun x hx=>rfl
end Go.Proofs.Ytppmnmheodimoaa
end
