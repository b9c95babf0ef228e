/- Own texts of this claim, part 29: no condition. -/
import Derived.Test.YtdanghnadbkhfaaGreatZG27
import Derived.Test.YtdanghnadbkhfaaGreatZG25
import Derived.Test.YtdanghnadbkhfaaGreatZG3
import Derived.Test.YtdanghnadbkhfaaGreatZG23
import Derived.Test.YtdanghnadbkhfaaGreatZG24
set_option linter.unusedVariables false
set_option linter.unusedSimpArgs false
section
namespace Go.Proofs.Hp
open Go Go.RowKit Mp
theorem wpList_make0 {P:Program} {ops:Array Oper} {rest:List Oper} {o:Oper} {a:Act} {W:World} {Q:Exit→Act→World→Prop} (hgd:o.guard=none) {l c:Operand} {t e:TypeId} (ho:o.op=.makeSlice t l c) {n:Nat}
  (hl:a.eval l=.int .i64 0) (hc:a.eval c=.int .i64 n) {z:Value} {size bytes:Nat} (ht:P.underlying t=some (.slice e)) (hinfo:(P.info? e).map (fun i=>(i.zero,i.size,i.bytes))=some (some z,size,bytes))
  (hb:bytes*n≤281474976710656) (h63:n≤maxLen)
  (h:∀ w',w'.ownsRow W.heap.size e size (.slice (some ⟨W.heap.size,0,none⟩) 0 n) 0 []→Fr [] W w'→W.heap.size<w'.heap.size→wpList P ops Q rest (a.put o.dst (.slice (some ⟨W.heap.size,0,none⟩) 0 n)) w'):wpList P ops Q (o::rest) a W:=by
 obtain⟨i,hi,hz0,hz1,hz2⟩:=info_parts hinfo
 obtain⟨w',hr,ho',hg⟩:=run_make_own W W.heap.size t e i z size ht hi hz0 hz1 .i64 .i64 n (by rw [hz2];exact hb) h63 (Nat.le_refl _) (P:=P)
 refine Mp.wpList_run hgd (w':=w') (v:=.slice (some ⟨W.heap.size,0,none⟩) 0 n) ?_ (h w' ho' ((Fr.refl _ _).grown hg (by simp)) (oLT ho' rfl))
 unfold execOp
 simp only [ho,hl,hc,Sem.run_bind,hr,Result.andThen_ok]
 rfl
end Go.Proofs.Hp
namespace Go.Proofs.YtdanghnadbkhfaaGreat
open Go Go.RowKit Rg Mp Hp Qs Ev Bn Pt
def spot (x y:Int) (c:PC):Spot:=⟨(c.x - x).toNat,(c.y - y).toNat,c.st⟩
def inC (x y:Int) (L:Nat) (c:PC):Bool:=inB c.x x L && inB c.y y L
def stB (s:Int) (c:PC):Bool:=decide (0≤c.st∧c.st<s)
def fromQ (s:Int) (ns:List K4) (p:List PC) (x y level:Int):(Int×Int)×List K4 :=
 if rightP p=false then ((0,2),ns) else if level<0∨256<level then ((0,18),ns)
 else if p.all (inC x y level.toNat)=false then ((0,5),ns)
 else if p.all (stB s)=false then ((0,10),ns)
 else buildQ s level.toNat ns (p.map (spot x y))
theorem right_cell {p:List PC} (h:rightP p=true):p.length≤5000∧∀ c∈p,(-1048576≤c.x∧c.x≤1048576)∧(-1048576≤c.y∧c.y≤1048576)∧1≤c.st∧c.st<8:=by
 unfold rightP at h
 simp only [Bool.and_eq_true,decide_eq_true_eq,List.all_eq_true] at h
 refine⟨h.1,fun c hc=>?_⟩
 have:=h.2.1 c hc
 simp only [cellB,placeB,Bool.and_eq_true,decide_eq_true_eq] at this
 omega
theorem in_len {p:List PC} {x y:Int} {L:Nat} (h:p.all (inC x y L)=true) (hx:∀ c∈p,c.x<9223372036854775808∧c.y<9223372036854775808) (h1:-9223372036854775808≤x) (h2:-9223372036854775808≤y):∀ c∈p.map (spot x y),c.x<18446744073709551616∧c.y<18446744073709551616:=by
 intro c hc
 simp only [List.mem_map] at hc
 obtain⟨d,hd,rfl⟩:=hc
 have:=hx d hd
 simp only [spot];omega
theorem all_take {p:List PC} {f:PC→Bool} {k:Nat} {c:PC} (h:(p.take k).all f=true) (hc:p[k]?=some c) (hf:f c=true):(p.take (k+1)).all f=true:=by
 rw [List.take_add_one,hc]
 simp only [Option.toList_some,List.all_append,h,List.all_cons,hf,List.all_nil,Bool.and_self]
theorem all_bad {p:List PC} {f:PC→Bool} {k:Nat} {c:PC} (hc:p[k]?=some c) (hf:f c=false):p.all f=false:=by
 rw [List.all_eq_false]
 exact⟨c,List.mem_of_getElem? hc,by rw [hf];simp⟩
set_option maxHeartbeats 16000000 in
theorem From_q {W w:World} {b:Nat} {s:Int} {ns:List K4} {Ps:List Res} (h:Has W w (sTR b s ns::Ps)) {p:List PC} {a:Option Addr} {c:Nat} (hp:CellsAt w (.slice a p.length c) p) (hlen:p.length≤4000000000000000000) (x y level:Int) (hx:-9223372036854775808≤x∧x<9223372036854775808) (hy:-9223372036854775808≤y∧y<9223372036854775808) :
  Calls Tryz.prog 20 #[.pointer (some ⟨b,0,none⟩),.slice a p.length c,.int .i64 x,.int .i64 y,.int .i64 level] w fun e w'=>e=.returned (.tuple #[.int .i64 (fromQ s ns p x y level).1.1,.int .i64 (fromQ s ns p x y level).1.2])∧Has W w' (sTR b s (fromQ s ns p x y level).2::Ps):=by
 have HRT:=Lib.hid (PRight_calls hp hlen)
 have H:=Lib.hid h
 unfold fromQ
 cases hr:rightP p with
 | false =>
  rw [hr] at HRT
  simp only [if_true]
  clear h hp hr hx hy
  go_enter Tryz.func20,Tryz.ntmps20
  go_wp2_with fail
  refine HRT.out.mono ?_
  rintro e w1 ⟨rfl,hf1⟩
  have Hf1:=Lib.hid hf1
  clear hf1
  go_wp2
  go_ret2
  exact⟨rfl,H.out.step Hf1.out⟩
 | true =>
 rw [hr] at HRT
 simp only [Bool.true_eq_false,if_false]
 by_cases hl0:level<0
 ·rw [if_pos (.inl hl0)]
  have hd:decide (level<0)=true:=by simpa using hl0
  clear h hp hr hx hy hl0
  go_enter Tryz.func20,Tryz.ntmps20
  go_wp2_with fail
  refine HRT.out.mono ?_
  rintro e w1 ⟨rfl,hf1⟩
  have Hf1:=Lib.hid hf1
  clear hf1
  go_wp2
  go_ret2
  exact⟨rfl,H.out.step Hf1.out⟩
 have hd:decide (level<0)=false:=by simpa using hl0
 by_cases hl1:256<level
 ·rw [if_pos (.inr hl1)]
  have hd2:decide (level > 256)=true:=by simpa using hl1
  clear h hp hr hx hy hl0 hl1
  go_enter Tryz.func20,Tryz.ntmps20
  go_wp2_with fail
  refine HRT.out.mono ?_
  rintro e w1 ⟨rfl,hf1⟩
  have Hf1:=Lib.hid hf1
  clear hf1
  go_wp2
  go_ret2
  exact⟨rfl,H.out.step Hf1.out⟩
 have hd2:decide (level > 256)=false:=by simpa using hl1
 rw [if_neg (by omega)]
 obtain⟨L,rfl⟩:=Int.eq_ofNat_of_zero_le (show 0≤level by omega)
 simp only [Int.toNat_natCast] at hd hd2 hl0 hl1 ⊢
 obtain⟨R,hR⟩:∃ R,(if p.all (inC x y L)=false then (((0:Int),(5:Int)),ns) else if p.all (stB s)=false then ((0,10),ns) else buildQ s L ns (p.map (spot x y)))=R:=⟨_,rfl⟩
 rw [hR]
 have HR:=Lib.hid hR
 clear hR
 obtain⟨hp5,hpc⟩:=right_cell hr
 have HPC:=Lib.hid hpc
 have HP:=Lib.hid hp
 have HXY:=Lib.hid (And.intro hx hy)
 have hL256:L≤256:=by omega
 have HOF:=Lib.hid (fun w1 n f (h:(-9223372036854775808≤n∧n<9223372036854775808)∧-9223372036854775808≤f∧f<9223372036854775808)=>offset_q w1 n f L hL256 h.1.1 h.1.2 h.2.1 h.2.2)
 have HIS:=Lib.hid (fun w1 st (hf:Fr [] w w1)=>isState_q (h.step hf) st)
 have HBQ:=Lib.hid (build_q (W:=W) (b:=b) (s:=s) L hL256)
 have hcap:(24:Nat)*p.length≤281474976710656:=by omega
 have hmx:p.length≤maxLen:=by unfold maxLen;omega
 clear h hp hr hx hy hpc hl0 hl1 hlen
 go_enter Tryz.func20,Tryz.ntmps20
 go_wp2_with fail
 refine HRT.out.mono ?_
 rintro e w1 ⟨rfl,hf1⟩
 have Hf1:=Lib.hid hf1
 clear hf1
 go_wp2_with (refine wpList_make0 rfl (t:=123) (e:=127) (n:=p.length) (z:=.agg #[.int .u64 0,.int .u64 0,.int .i64 0]) (size:=3) (bytes:=24) rfl rfl rfl Tryz.underlying123 info_spot hcap hmx ?_)
 intro w2 hown hf2 hlt2
 have Hf2:=Lib.hid (Hf1.out.trans0 hf2)
 have Ho2:=Lib.hid (owns_base hown Hf1.out.size)
 clear hown hf2 hlt2 hcap
 go_wp2
 go_loopw [12,40] (fun x12 x40 wr=>∃ k:Nat,x40=.int .i64 (k:Nat)∧k≤p.length∧(p.take k).all (inC x y L)=true∧Fr [] w wr∧wr.ownsRow w.heap.size 127 3 x12 k (sps ((p.map (spot x y)).take k))) (fun _ x40 _=>p.length - (intOf x40).toNat)
 case atStart=>exact⟨0,rfl,by omega,rfl,Hf2.out,Ho2.out⟩
 case round =>
  clear Hf2 Ho2 Hf1
  obtain⟨k,rfl,hk,hall,hf,ho⟩:=hrel
  have Hall:=Lib.hid hall
  have Hf:=Lib.hid hf
  have Ho:=Lib.hid ho
  clear hall hf ho
  by_cases hlt:k<p.length
  ·obtain⟨⟨cx,cy,st⟩,hp⟩:∃ c,p[k]?=some c:=⟨_,List.getElem?_eq_getElem hlt⟩
   obtain⟨g,off,rfl,hg,e0,e1,e2⟩:=(HP.out.fr Hf.out).cell hp
   simp only at e0 e1 e2
   have hcc:=HPC.out _ (List.mem_of_getElem? hp)
   simp only at hcc
   have HOX:=Lib.hid (fun w1=>HOF.out w1 cx x ⟨by omega,HXY.out.1⟩)
   have HOY:=Lib.hid (fun w1=>HOF.out w1 cy y ⟨by omega,HXY.out.2⟩)
   have Hp:=Lib.hid hp
   have hsp:spot x y ⟨cx,cy,st⟩=⟨(cx - x).toNat,(cy - y).toNat,st⟩:=rfl
   have HSP:=Lib.hid hsp
   have hinc:inC x y L ⟨cx,cy,st⟩=(inB cx x L && inB cy y L):=rfl
   have HINC:=Lib.hid hinc
   have HB1:=Lib.hid (show inB cx x L=true→x≤cx by unfold inB;simp;omega)
   have HB2:=Lib.hid (show inB cy y L=true→y≤cy by unfold inB;simp;omega)
   clear hp hcc hsp hinc
   obtain⟨o1,ho1⟩:∃ o,inB cx x L=o:=⟨_,rfl⟩
   obtain⟨o2,ho2⟩:∃ o,inB cy y L=o:=⟨_,rfl⟩
   unfold OffPost at HOX HOY
   rw [ho1] at HOX HINC HB1
   rw [ho2] at HOY HINC HB2
   clear ho1 ho2
   obtain⟨x14,hx14⟩:∃ z,wr.heap.size=z:=⟨_,rfl⟩
   have HX14:=Lib.hid hx14
   go_wp2_with fail
   refine (HOX.out _).mono ?_
   rintro e w3 ⟨d1,rfl,hd1,rfl⟩
   have HD1:=Lib.hid hd1
   clear hd1
   go_wp2_with fail
   refine (HOY.out _).mono ?_
   rintro e w4 ⟨d2,rfl,hd2',rfl⟩
   have HD2:=Lib.hid hd2'
   clear hd2'
   cases o1 with
   | false =>
    have HBAD:=Lib.hid (all_bad (f:=inC x y L) Hp.out (HINC.out.trans (by simp)))
    go_wp2
    go_ret2
    have hR:=HR.out
    simp only [HBAD.out,if_true] at hR
    subst hR
    exact⟨rfl,H.out.step (by have:=Hf.out;(repeat first|exact Fr.refl _ _|assumption|apply Fr.n|apply Fr.d|apply Fr.a|refine Fr.s ?_ (.inr (by simp;try omega)) _))⟩
   | true =>
    cases o2 with
    | false =>
     have HBAD:=Lib.hid (all_bad (f:=inC x y L) Hp.out (HINC.out.trans (by simp)))
     go_wp2
     go_ret2
     have hR:=HR.out
     simp only [HBAD.out,if_true] at hR
     subst hR
     exact⟨rfl,H.out.step (by have:=Hf.out;(repeat first|exact Fr.refl _ _|assumption|apply Fr.n|apply Fr.d|apply Fr.a|refine Fr.s ?_ (.inr (by simp;try omega)) _))⟩
    | true =>
     obtain rfl:d1=(((cx - x).toNat:Nat):Int):=by have h1:=(HD1.out (by simp)).1;have h2:=HB1.out (by simp);omega
     obtain rfl:d2=(((cy - y).toNat:Nat):Int):=by have h1:=(HD2.out (by simp)).1;have h2:=HB2.out (by simp);omega
     obtain⟨X,hX⟩:∃ X,(cx - x).toNat=X:=⟨_,rfl⟩
     obtain⟨Y,hY⟩:∃ Y,(cy - y).toNat=Y:=⟨_,rfl⟩
     rw [hX,hY] at HSP
     have HGOOD:=Lib.hid (all_take (f:=inC x y L) Hall.out Hp.out (HINC.out.trans (by simp)))
     have HE:=Lib.hid (show ((p.map (spot x y)).take k)++[⟨X,Y,st⟩]=(p.map (spot x y)).take (k+1) by
      rw [List.take_add_one,List.getElem?_map,Hp.out,← HSP.out];rfl)
     rw [hX,hY]
     clear HD1 HD2 HB1 HB2 hX hY HOX HOY
     go_wp2_with (at_builtin;refine append_sp (n:=k) (base:=w.heap.size) (xs:=sps ((p.map (spot x y)).take k)) (y:=⟨X,Y,st⟩) rfl rfl rfl ?e1 rfl ?e2 ?e3 ?e4 ?_)
     case e1=>exact oOB Ho.out fun g hg=>by have h:=oLT Ho.out hg;(repeat first|rw [if_pos (by omega)]|rw [if_neg (by omega)]|rw [hDR]|rw [hDN]|rw [hAz]|rw [hSz]|rw [hAC]|rw [hSC]|rw [oMS]|rw [uPC]|rw [lSZ]|rw [lSS]|rfl)
     case e2=>first|(first|(rw [hAC,if_pos rfl];done)|exact (Array.getElem?_eq_some_iff.1 ((hAC _ _ _).trans (if_pos rfl))).2|(simp only [hDR,hDN];rw [hAC,if_pos rfl];done))|(refine (Array.getElem?_eq_some_iff.1 ?_).2;(repeat first|rw [if_pos (by omega)]|rw [if_neg (by omega)]|rw [hDR]|rw [hDN]|rw [hAz]|rw [hSz]|rw [hAC]|rw [hSC]|rw [oMS]|rw [uPC]|rw [lSZ]|rw [lSS]|rfl))
     case e3=>omega
     case e4=>have:=Hf.out.size;(first|omega|(simp only [hDR,hDN,hAz];omega)|(simp;omega))
     intro g2 cap w9 hown1 hW1 hF1 hloc1 hg1
     rw [sps_snoc _ ⟨X,Y,st⟩,HE.out] at hown1
     have Hown1:=Lib.hid hown1
     have hfw:Fr [] w (wr.alloc (.cells #[.int .i64 cx,.int .i64 cy,.int .i64 st] 75)):=by have:=Hf.out;(repeat first|exact Fr.refl _ _|assumption|apply Fr.n|apply Fr.d|apply Fr.a|refine Fr.s ?_ (.inr (by simp;try omega)) _)
     have Hf9:=Lib.hid (fr_append hfw (oOB Ho.out fun g hg=>by have h:=oLT Ho.out hg;(repeat first|rw [if_pos (by omega)]|rw [if_neg (by omega)]|rw [hDR]|rw [hDN]|rw [hAz]|rw [hSz]|rw [hAC]|rw [hSC]|rw [oMS]|rw [uPC]|rw [lSZ]|rw [lSS]|rfl)) hF1)
     clear hown1 hW1 hF1 hloc1 hfw
     go_wp2
     go_roundw
     case rel=>exact⟨k+1,by go_num,by omega,HGOOD.out,Hf9.out,Hown1.out⟩
     case measure=>simp [intOf];omega
  ·obtain rfl:k=p.length:=by omega
   have hall:=Hall.out
   have ho:=Ho.out
   rw [List.take_length] at hall
   rw [show (p.map (spot x y)).take p.length=p.map (spot x y) from List.take_of_length_le (by simp)] at ho
   have HROW:=Lib.hid ho
   have HALL:=Lib.hid hall
   have HFW:=Lib.hid Hf.out
   obtain⟨W0,hW0⟩:∃ W0,W0=wr:=⟨_,rfl⟩
   subst hW0
   clear hall ho Ho Hall Hf
   go_wp2
   go_loopw [77] (fun z wr=>∃ k:Nat,z=.int .i64 (k:Nat)∧k≤p.length∧(p.take k).all (stB s)=true∧Fr [] W0 wr) (fun z _=>p.length - (intOf z).toNat)
   case atStart=>exact⟨0,rfl,by omega,rfl,Fr.refl _ _⟩
   case round =>
    obtain⟨k,rfl,hk,hst,hf⟩:=hrel
    have Hf:=Lib.hid hf
    have Hst:=Lib.hid hst
    clear hf hst
    by_cases hlt:k<p.length
    ·obtain⟨⟨cx,cy,st⟩,hp⟩:∃ c,p[k]?=some c:=⟨_,List.getElem?_eq_getElem hlt⟩
     obtain⟨g,off,rfl,hg,e0,e1,e2⟩:=((HP.out.fr HFW.out).fr Hf.out).cell hp
     simp only at e0 e1 e2
     have hsn:=all_take (f:=stB s) Hst.out hp
     have hsb:=all_bad (f:=stB s) hp
     rw [show stB s ⟨cx,cy,st⟩=decide (0≤st∧st<s) from rfl] at hsn hsb
     have HS1:=Lib.hid (fun w1 (hf:Fr [] wr w1)=>HIS.out w1 st ((HFW.out.trans0 Hf.out).trans0 hf))
     have HSN:=Lib.hid hsn
     have HSB:=Lib.hid hsb
     clear hsn hsb hp
     obtain⟨o,ho⟩:∃ o,decide (0≤st∧st<s)=o:=⟨_,rfl⟩
     rw [ho] at HS1 HSN HSB
     clear ho
     go_wp2_with fail
     refine (HS1.out _ (by (repeat first|exact Fr.refl _ _|assumption|apply Fr.n|apply Fr.d|apply Fr.a|refine Fr.s ?_ (.inr (by simp;try omega)) _))).mono ?_
     rintro e w3 ⟨rfl,_,hf3⟩
     have Hf3:=Lib.hid (Hf.out.trans0 (Fr.trans0 (by (repeat first|exact Fr.refl _ _|assumption|apply Fr.n|apply Fr.d|apply Fr.a|refine Fr.s ?_ (.inr (by simp;try omega)) _)) hf3))
     clear hf3 e0 e1 e2 hg
     cases o with
     | false =>
      have HBAD:=Lib.hid (HSB.out rfl)
      go_wp2
      go_ret2
      have hR:=HR.out
      simp only [HALL.out,HBAD.out,Bool.true_eq_false,if_false,if_true] at hR
      subst hR
      exact⟨rfl,H.out.step (HFW.out.trans0 Hf3.out)⟩
     | true =>
      have HGOOD:=Lib.hid (HSN.out rfl)
      go_wp2
      go_roundw
      case rel=>exact⟨k+1,by go_num,by omega,HGOOD.out,Hf3.out⟩
      case measure=>simp [intOf];omega
    ·obtain rfl:k=p.length:=by omega
     have hst:=Hst.out
     rw [List.take_length] at hst
     have HST:=Lib.hid hst
     have hrow:=(H.out.newRow (HFW.out.trans0 Hf.out) (oOB HROW.out fun g hg=>Hf.out.block g (oLT HROW.out hg) (by simp))).swap
     have hrow:Has W wr (sTR b s ns::rowS u12 (p.map (spot x y))::Ps):=by
      unfold rowS
      rw [List.length_map];exact hrow
     have HBC:=Lib.hid (HBQ.out _ _ _ _ _ hrow (SpSrc.row (v:=u12) (p:=p.map (spot x y)) (by simp)) ⟨in_len HALL.out (fun c hc=>by have:=HPC.out c hc;omega) HXY.out.1.1 HXY.out.2.1,by rw [List.length_map];omega⟩)
     clear hst hrow
     go_wp2_with fail
     refine HBC.out.mono ?_
     rintro e w3 ⟨rfl,h3⟩
     have H3:=Lib.hid h3
     clear h3
     go_wp2
     go_ret2
     have hR:=HR.out
     simp only [HALL.out,HST.out,Bool.true_eq_false,if_false] at hR
     subst hR
     exact⟨rfl,H3.out.ord 2 [0]⟩
end Go.Proofs.YtdanghnadbkhfaaGreat
end
section
namespace Go.Proofs.Hp
open Go Go.RowKit
theorem Seps.join {w:World}:∀ {Qs Ps:List Res} {G F:List Nat},Seps w Qs G→Seps w Ps F→(∀ x∈G,x∉F)→Seps w (Qs++Ps) (G++F)
 | [],_,_,_,h,k,_=>by rw [show _=[] from h];exact k
 | Q::Qs,Ps,G,F,⟨G1,G2,h1,h2,h3,h4⟩,k,hd=>by
  subst h4
  refine⟨G1,G2++F,h1,Seps.join h2 k fun x hx=>hd x (by simp [hx]),fun x hx hm=>?_,List.append_assoc _ _ _⟩
  rw [List.mem_append] at hm
  rcases hm with hm|hm
  ·exact h3 x hx hm
  ·exact hd x (by simp [hx]) hm
theorem has_join {W w w':World} {Ps Qs:List Res} (h:Has W w Ps) (k:Has w w' Qs):Has W w' (Qs++Ps):=by
 obtain⟨F,h1,h2,h3⟩:=h
 obtain⟨G,k1,k2,k3⟩:=k
 refine⟨G++F,Seps.join k1 (h1.keep fun x hx=>k2.block x (h1.lt x hx) (by simp)) fun x hx hm=>?_,h2.trans0 k2,fun x hx=>?_⟩
 ·have:=k3 x hx;have:=h1.lt x hm;omega
 ·rw [List.mem_append] at hx
  rcases hx with hx|hx
  ·have:=k3 x hx;have:=h2.size;omega
  ·exact h3 x hx
theorem Seps.mem {w:World}:∀ {Ps:List Res} {F:List Nat},Seps w Ps F→∀ Q∈Ps,∃ G,Q.holds w G∧∀ x∈G,x∈F
 | [],_,_,_,hm=>by cases hm
 | P::Ps,F,⟨F1,F2,h1,h2,h3,h4⟩,Q,hm=>by
  subst h4
  rw [List.mem_cons] at hm
  rcases hm with rfl|hm
  ·exact⟨F1,h1,fun x hx=>by simp [hx]⟩
  ·obtain⟨G,g1,g2⟩:=Seps.mem h2 Q hm
   exact⟨G,g1,fun x hx=>by simp [g2 x hx]⟩
theorem Has.updO {W w:World} {P P':Res} {Ps:List Res} (h:Has W w (P::Ps)) {R:Ending→Prop} {Pr:Program} {f:FuncId} {args:Array Value}
  (hc:∀ F,P.holds w F→(∀ Q∈Ps,∃ G,Q.holds w G∧∀ x∈G,x∉F)→Calls Pr f args w fun e w'=>R e∧∃ F',P'.holds w' F'∧Fr F w w'∧∀ x∈F',x∈F∨w.heap.size≤x):Calls Pr f args w fun e w'=>R e∧Has W w' (P'::Ps):=by
 obtain⟨F,⟨F1,F2,h1,h2,h3,rfl⟩,hf,hge⟩:=h
 refine (hc F1 h1 fun Q hQ=>?_).mono ?_
 ·obtain⟨G,g1,g2⟩:=h2.mem Q hQ
  exact⟨G,g1,fun x hx hm=>h3 x hm (g2 x hx)⟩
 rintro e w' ⟨hR,F',hP,hf',hs⟩
 refine⟨hR,F'++F2,⟨F',F2,hP,h2.keep fun x hx=>hf'.block x (h2.lt x hx) fun hx'=>h3 x hx' hx,fun x hx hx'=>?_,rfl⟩,hf.trans hf' fun x hx=>.inr (hge x (by simp [hx])),fun x hx=>?_⟩
 ·rcases hs x hx with h|h
  ·exact h3 x h hx'
  ·have:=h2.lt x hx';omega
 ·rw [List.mem_append] at hx
  rcases hx with hx|hx
  ·rcases hs x hx with h|h
   ·exact hge x (by simp [h])
   ·have:=hf.size;omega
  ·exact hge x (by simp [hx])
end Go.Proofs.Hp
namespace Go.Proofs.YtdanghnadbkhfaaGreat
open Go Go.RowKit Rg Mp Hp Qs Ev Bn Pt
section
variable {W w:World} {b:Nat} {s:Int} {ns:List K4} {Ps:List Res}
theorem ref_good (h:Has W w (refR b s ns::Ps)):GoodQ s ns:=by obtain⟨F,hS⟩:=h.head;exact hS.1
theorem RLevel_has (h:Has W w (refR b s ns::Ps)) (id:Int) :
  Calls Tryz.prog 43 #[.pointer (some ⟨b,0,none⟩),.int .i64 id] w fun e w'=>e=.returned (.int .i64 (lvl s (levs s ns) id))∧Fr [] w w':=by
 obtain⟨F,hS⟩:=h.head
 exact RLevel_calls hS id
theorem RData_has (h:Has W w (refR b s ns::Ps)) :
  Calls Tryz.prog 24 #[.pointer (some ⟨b,0,none⟩)] w fun e w'=>∃ v,e=.returned (.agg #[.int .i64 s,v])∧Has W w' (Hp.row 105 4 v ns.length (flat ns)::refR b s ns::Ps):=by
 obtain⟨F,hS⟩:=h.head
 refine (RData_calls hS).mono ?_
 rintro e w' ⟨v,rfl,ho,hf⟩
 exact⟨v,rfl,h.newRow hf ho⟩
end
theorem run_field_states (w:World) (s:Int) (a:Option Addr) (n c:Nat):(Instr.field 24 (.agg #[.int .i64 s,.slice a n c]) 0).run Tryz.prog w=.ok (.int .i64 s) w:=by
 simp [Instr.field,Sem.run_bind,run_underlying,Tryz.underlying24,part,go_sem,asAgg,isAgg,Tryz.underlying3]
theorem Rtop_p {w:World} {l:List PC} {a:Option Addr} {c:Nat} (hl:CellsAt w (.slice a l.length c) l) (hlen:l.length≤60000) :
  Calls Tryz.prog 69 #[.slice a l.length c] w fun e w'=>e=.returned (.int .i64 (topP l))∧Fr [] w w':=by
 have HL:=Lib.hid hl
 obtain⟨m,hm⟩:∃ m,l.length=m:=⟨_,rfl⟩
 rw [hm]
 have HM:=Lib.hid hm
 have hm6:m≤60000:=by omega
 obtain⟨T,hT⟩:∃ T,topP l=T:=⟨_,rfl⟩
 rw [hT]
 have HTT:=Lib.hid hT
 clear hl hlen hm hT
 go_enter Tryz.func69,Tryz.ntmps69
 go_wp2
 go_loopw [3,4] (fun x3 x4 wr=>∃ (k:Nat),(x3=.int .i64 (topP (l.take k))∧x4=.int .i64 (k:Nat))∧k≤m∧Fr [] w wr) (fun _ x _=>m - (intOf x).toNat)
 case atStart=>exact⟨0,⟨rfl,rfl⟩,by omega,Fr.refl _ _⟩
 case round =>
  obtain⟨k,⟨rfl,rfl⟩,hk,hf⟩:=hrel
  have Hf:=Lib.hid hf
  clear hf
  by_cases hlt:k<m
  ·obtain⟨⟨cx,cy,st⟩,hp⟩:∃ c,l[k]?=some c:=⟨_,List.getElem?_eq_getElem (by rw [HM.out];exact hlt)⟩
   obtain⟨g,off,rfl,hg,e0,e1,e2⟩:=(HL.out.fr Hf.out).cell hp
   simp only at e0 e1 e2
   have HT:=Lib.hid (show topP (l.take (k+1))=max (topP (l.take k)) st by
    rw [List.take_add_one,hp]
    exact topP_snoc _ _)
   obtain⟨T,hT⟩:∃ T,topP (l.take k)=T:=⟨_,rfl⟩
   rw [hT] at HT ⊢
   clear hp e0 e1 hT
   go_wp2
   go_roundw
   case rel=>exact⟨k+1,⟨by rw [HT.out],by go_num⟩,by omega,by have:=Hf.out;(repeat first|exact Fr.refl _ _|assumption|apply Fr.n|apply Fr.d|apply Fr.a|refine Fr.s ?_ (.inr (by simp;try omega)) _)⟩
   case measure=>simp [intOf];omega
  ·obtain rfl:k=m:=by omega
   rw [List.take_of_length_le (by rw [HM.out];exact Nat.le_refl _),HTT.out]
   go_wp2
   go_ret
   exact⟨rfl,by have:=Hf.out;(repeat first|exact Fr.refl _ _|assumption|apply Fr.n|apply Fr.d|apply Fr.a|refine Fr.s ?_ (.inr (by simp;try omega)) _)⟩
end Go.Proofs.YtdanghnadbkhfaaGreat
end
