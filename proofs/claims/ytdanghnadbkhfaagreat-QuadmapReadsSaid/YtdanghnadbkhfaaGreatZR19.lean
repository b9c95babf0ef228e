/- Own texts of this claim, part 20: no condition. -/
import Derived.IntWalk
import Derived.Test.YtdanghnadbkhfaaGreatZR18
import Derived.Test.YtdanghnadbkhfaaGreatZR17
import Derived.Test.YtdanghnadbkhfaaGreatZR6
import Derived.Test.YtdanghnadbkhfaaGreatZR11
import Derived.Test.YtdanghnadbkhfaaGreatZR15
set_option linter.unusedVariables false
set_option linter.unusedSimpArgs false
section
namespace Go.Proofs.Hp
open Go Go.RowKit Mp
theorem wpList_make0 {P:Program} {ops:Array Oper} {rest:List Oper} {o:Oper} {a:Act} {W:World} {Q:Exit→Act→World→Prop} (hgd:o.guard=none) {l c:Operand} {t e:TypeId} (ho:o.op=.makeSlice t l c) {n:Nat}
  (hl:a.eval l=.int .i64 0) (hc:a.eval c=.int .i64 n) {z:Value} {size bytes:Nat} (ht:P.underlying t=some (.slice e)) (hinfo:(P.info? e).map (fun i=>(i.zero,i.size,i.bytes))=some (some z,size,bytes))
  (hb:bytes*n≤281474976710656) (h63:n≤maxLen)
  (h:∀ w',w'.ownsRow W.heap.size e size (.slice (some ⟨W.heap.size,0,none⟩) 0 n) 0 []→Fr [] W w'→W.heap.size<w'.heap.size→wpList P ops Q rest (a.put o.dst (.slice (some ⟨W.heap.size,0,none⟩) 0 n)) w'):wpList P ops Q (o::rest) a W:=by
 obtain⟨i,hi,hz0,hz1,hz2⟩:=info_parts hinfo
 obtain⟨w',hr,ho',hg⟩:=run_make_own W W.heap.size t e i z size ht hi hz0 hz1 .i64 .i64 n (by rw [hz2];exact hb) h63 (Nat.le_refl _) (P:=P)
 refine Mp.wpList_run hgd (w':=w') (v:=.slice (some ⟨W.heap.size,0,none⟩) 0 n) ?_ (h w' ho' ((Fr.refl _ _).grown hg (by simp)) (oLT ho' rfl))
 unfold execOp
 simp only [ho,hl,hc,Sem.run_bind,hr,Result.andThen_ok]
 rfl
end Go.Proofs.Hp
namespace Go.Proofs.YtdanghnadbkhfaaGreat
open Go Go.RowKit Rg Mp Hp Qs Ev Bn Pt
def spot (x y:Int) (c:PC):Spot:=⟨(c.x - x).toNat,(c.y - y).toNat,c.st⟩
def inC (x y:Int) (L:Nat) (c:PC):Bool:=inB c.x x L && inB c.y y L
def stB (s:Int) (c:PC):Bool:=decide (0≤c.st∧c.st<s)
def fromQ (s:Int) (ns:List K4) (p:List PC) (x y level:Int):(Int×Int)×List K4 :=
 if rightP p=false then ((0,2),ns) else if level<0∨256<level then ((0,18),ns)
 else if p.all (inC x y level.toNat)=false then ((0,5),ns)
 else if p.all (stB s)=false then ((0,10),ns)
 else buildQ s level.toNat ns (p.map (spot x y))
theorem right_cell {p:List PC} (h:rightP p=true):p.length≤5000∧∀ c∈p,(-1048576≤c.x∧c.x≤1048576)∧(-1048576≤c.y∧c.y≤1048576)∧1≤c.st∧c.st<8:=by
 unfold rightP at h
 simp only [Bool.and_eq_true,decide_eq_true_eq,List.all_eq_true] at h
 refine⟨h.1,fun c hc=>?_⟩
 have:=h.2.1 c hc
 simp only [cellB,placeB,Bool.and_eq_true,decide_eq_true_eq] at this
 omega
theorem in_len {p:List PC} {x y:Int} {L:Nat} (h:p.all (inC x y L)=true) (hx:∀ c∈p,c.x<9223372036854775808∧c.y<9223372036854775808) (h1:-9223372036854775808≤x) (h2:-9223372036854775808≤y):∀ c∈p.map (spot x y),c.x<18446744073709551616∧c.y<18446744073709551616:=by
 intro c hc
 simp only [List.mem_map] at hc
 obtain⟨d,hd,rfl⟩:=hc
 have:=hx d hd
 simp only [spot];omega
theorem all_take {p:List PC} {f:PC→Bool} {k:Nat} {c:PC} (h:(p.take k).all f=true) (hc:p[k]?=some c) (hf:f c=true):(p.take (k+1)).all f=true:=by
 rw [List.take_add_one,hc]
 simp only [Option.toList_some,List.all_append,h,List.all_cons,hf,List.all_nil,Bool.and_self]
theorem all_bad {p:List PC} {f:PC→Bool} {k:Nat} {c:PC} (hc:p[k]?=some c) (hf:f c=false):p.all f=false:=by
 rw [List.all_eq_false]
 exact⟨c,List.mem_of_getElem? hc,by rw [hf];simp⟩
set_option maxHeartbeats 16000000 in
theorem From_q {W w:World} {b:Nat} {s:Int} {ns:List K4} {Ps:List Res} (h:Has W w (sTR b s ns::Ps)) {p:List PC} {a:Option Addr} {c:Nat} (hp:CellsAt w (.slice a p.length c) p) (hlen:p.length≤4000000000000000000) (x y level:Int) (hx:-9223372036854775808≤x∧x<9223372036854775808) (hy:-9223372036854775808≤y∧y<9223372036854775808) :
  Calls Tryz.prog 20 #[.pointer (some ⟨b,0,none⟩),.slice a p.length c,.int .i64 x,.int .i64 y,.int .i64 level] w fun e w'=>e=.returned (.tuple #[.int .i64 (fromQ s ns p x y level).1.1,.int .i64 (fromQ s ns p x y level).1.2])∧Has W w' (sTR b s (fromQ s ns p x y level).2::Ps):=by
 have HRT:=Lib.hid (PRight_calls hp hlen)
 have H:=Lib.hid h
 unfold fromQ
 cases hr:rightP p with
 | false =>
  rw [hr] at HRT
  simp only [if_true]
  clear h hp hr hx hy
  go_enter Tryz.func20,Tryz.ntmps20
  go_wp2_with fail
  refine HRT.out.mono ?_
  rintro e w1 ⟨rfl,hf1⟩
  have Hf1:=Lib.hid hf1
  clear hf1
  go_wp2
  go_ret2
  exact⟨rfl,H.out.step Hf1.out⟩
 | true =>
 rw [hr] at HRT
 simp only [Bool.true_eq_false,if_false]
 by_cases hl0:level<0
 ·rw [if_pos (.inl hl0)]
  have hd:decide (level<0)=true:=by simpa using hl0
  clear h hp hr hx hy hl0
  go_enter Tryz.func20,Tryz.ntmps20
  go_wp2_with fail
  refine HRT.out.mono ?_
  rintro e w1 ⟨rfl,hf1⟩
  have Hf1:=Lib.hid hf1
  clear hf1
  go_wp2
  go_ret2
  exact⟨rfl,H.out.step Hf1.out⟩
 have hd:decide (level<0)=false:=by simpa using hl0
 by_cases hl1:256<level
 ·rw [if_pos (.inr hl1)]
  have hd2:decide (level > 256)=true:=by simpa using hl1
  clear h hp hr hx hy hl0 hl1
  go_enter Tryz.func20,Tryz.ntmps20
  go_wp2_with fail
  refine HRT.out.mono ?_
  rintro e w1 ⟨rfl,hf1⟩
  have Hf1:=Lib.hid hf1
  clear hf1
  go_wp2
  go_ret2
  exact⟨rfl,H.out.step Hf1.out⟩
 have hd2:decide (level > 256)=false:=by simpa using hl1
 rw [if_neg (by omega)]
 obtain⟨L,rfl⟩:=Int.eq_ofNat_of_zero_le (show 0≤level by omega)
 simp only [Int.toNat_natCast] at hd hd2 hl0 hl1 ⊢
 obtain⟨R,hR⟩:∃ R,(if p.all (inC x y L)=false then (((0:Int),(5:Int)),ns) else if p.all (stB s)=false then ((0,10),ns) else buildQ s L ns (p.map (spot x y)))=R:=⟨_,rfl⟩
 rw [hR]
 have HR:=Lib.hid hR
 clear hR
 obtain⟨hp5,hpc⟩:=right_cell hr
 have HPC:=Lib.hid hpc
 have HP:=Lib.hid hp
 have HXY:=Lib.hid (And.intro hx hy)
 have hL256:L≤256:=by omega
 have HOF:=Lib.hid (fun w1 n f (h:(-9223372036854775808≤n∧n<9223372036854775808)∧-9223372036854775808≤f∧f<9223372036854775808)=>offset_q w1 n f L hL256 h.1.1 h.1.2 h.2.1 h.2.2)
 have HIS:=Lib.hid (fun w1 st (hf:Fr [] w w1)=>isState_q (h.step hf) st)
 have HBQ:=Lib.hid (build_q (W:=W) (b:=b) (s:=s) L hL256)
 have hcap:(24:Nat)*p.length≤281474976710656:=by omega
 have hmx:p.length≤maxLen:=by unfold maxLen;omega
 clear h hp hr hx hy hpc hl0 hl1 hlen
 go_enter Tryz.func20,Tryz.ntmps20
 go_wp2_with fail
 refine HRT.out.mono ?_
 rintro e w1 ⟨rfl,hf1⟩
 have Hf1:=Lib.hid hf1
 clear hf1
 go_wp2_with (refine wpList_make0 rfl (t:=123) (e:=127) (n:=p.length) (z:=.agg #[.int .u64 0,.int .u64 0,.int .i64 0]) (size:=3) (bytes:=24) rfl rfl rfl Tryz.underlying123 info_spot hcap hmx ?_)
 intro w2 hown hf2 hlt2
 have Hf2:=Lib.hid (Hf1.out.trans0 hf2)
 have Ho2:=Lib.hid (owns_base hown Hf1.out.size)
 clear hown hf2 hlt2 hcap
 go_wp2
 go_loopw [12,40] (fun x12 x40 wr=>∃ k:Nat,x40=.int .i64 (k:Nat)∧k≤p.length∧(p.take k).all (inC x y L)=true∧Fr [] w wr∧wr.ownsRow w.heap.size 127 3 x12 k (sps ((p.map (spot x y)).take k))) (fun _ x40 _=>p.length - (intOf x40).toNat)
 case atStart=>exact⟨0,rfl,by omega,rfl,Hf2.out,Ho2.out⟩
 case round =>
  clear Hf2 Ho2 Hf1
  obtain⟨k,rfl,hk,hall,hf,ho⟩:=hrel
  have Hall:=Lib.hid hall
  have Hf:=Lib.hid hf
  have Ho:=Lib.hid ho
  clear hall hf ho
  by_cases hlt:k<p.length
  ·obtain⟨⟨cx,cy,st⟩,hp⟩:∃ c,p[k]?=some c:=⟨_,List.getElem?_eq_getElem hlt⟩
   obtain⟨g,off,rfl,hg,e0,e1,e2⟩:=(HP.out.fr Hf.out).cell hp
   simp only at e0 e1 e2
   have hcc:=HPC.out _ (List.mem_of_getElem? hp)
   simp only at hcc
   have HOX:=Lib.hid (fun w1=>HOF.out w1 cx x ⟨by omega,HXY.out.1⟩)
   have HOY:=Lib.hid (fun w1=>HOF.out w1 cy y ⟨by omega,HXY.out.2⟩)
   have Hp:=Lib.hid hp
   have hsp:spot x y ⟨cx,cy,st⟩=⟨(cx - x).toNat,(cy - y).toNat,st⟩:=rfl
   have HSP:=Lib.hid hsp
   have hinc:inC x y L ⟨cx,cy,st⟩=(inB cx x L && inB cy y L):=rfl
   have HINC:=Lib.hid hinc
   have HB1:=Lib.hid (show inB cx x L=true→x≤cx by unfold inB;simp;omega)
   have HB2:=Lib.hid (show inB cy y L=true→y≤cy by unfold inB;simp;omega)
   clear hp hcc hsp hinc
   obtain⟨o1,ho1⟩:∃ o,inB cx x L=o:=⟨_,rfl⟩
   obtain⟨o2,ho2⟩:∃ o,inB cy y L=o:=⟨_,rfl⟩
   unfold OffPost at HOX HOY
   rw [ho1] at HOX HINC HB1
   rw [ho2] at HOY HINC HB2
   clear ho1 ho2
   obtain⟨x14,hx14⟩:∃ z,wr.heap.size=z:=⟨_,rfl⟩
   have HX14:=Lib.hid hx14
   go_wp2_with fail
   refine (HOX.out _).mono ?_
   rintro e w3 ⟨d1,rfl,hd1,rfl⟩
   have HD1:=Lib.hid hd1
   clear hd1
   go_wp2_with fail
   refine (HOY.out _).mono ?_
   rintro e w4 ⟨d2,rfl,hd2',rfl⟩
   have HD2:=Lib.hid hd2'
   clear hd2'
   cases o1 with
   | false =>
    have HBAD:=Lib.hid (all_bad (f:=inC x y L) Hp.out (HINC.out.trans (by simp)))
    go_wp2
    go_ret2
    have hR:=HR.out
    simp only [HBAD.out,if_true] at hR
    subst hR
    exact⟨rfl,H.out.step (by have:=Hf.out;(repeat first|exact Fr.refl _ _|assumption|apply Fr.n|apply Fr.d|apply Fr.a|refine Fr.s ?_ (.inr (by simp;try omega)) _))⟩
   | true =>
    cases o2 with
    | false =>
     have HBAD:=Lib.hid (all_bad (f:=inC x y L) Hp.out (HINC.out.trans (by simp)))
     go_wp2
     go_ret2
     have hR:=HR.out
     simp only [HBAD.out,if_true] at hR
     subst hR
     exact⟨rfl,H.out.step (by have:=Hf.out;(repeat first|exact Fr.refl _ _|assumption|apply Fr.n|apply Fr.d|apply Fr.a|refine Fr.s ?_ (.inr (by simp;try omega)) _))⟩
    | true =>
     obtain rfl:d1=(((cx - x).toNat:Nat):Int):=by have h1:=(HD1.out (by simp)).1;have h2:=HB1.out (by simp);omega
     obtain rfl:d2=(((cy - y).toNat:Nat):Int):=by have h1:=(HD2.out (by simp)).1;have h2:=HB2.out (by simp);omega
     obtain⟨X,hX⟩:∃ X,(cx - x).toNat=X:=⟨_,rfl⟩
     obtain⟨Y,hY⟩:∃ Y,(cy - y).toNat=Y:=⟨_,rfl⟩
     rw [hX,hY] at HSP
     have HGOOD:=Lib.hid (all_take (f:=inC x y L) Hall.out Hp.out (HINC.out.trans (by simp)))
     have HE:=Lib.hid (show ((p.map (spot x y)).take k)++[⟨X,Y,st⟩]=(p.map (spot x y)).take (k+1) by
      rw [List.take_add_one,List.getElem?_map,Hp.out,← HSP.out];rfl)
     rw [hX,hY]
     clear HD1 HD2 HB1 HB2 hX hY HOX HOY
     go_wp2_with (at_builtin;refine append_sp (n:=k) (base:=w.heap.size) (xs:=sps ((p.map (spot x y)).take k)) (y:=⟨X,Y,st⟩) rfl rfl rfl ?e1 rfl ?e2 ?e3 ?e4 ?_)
     case e1=>exact oOB Ho.out fun g hg=>by have h:=oLT Ho.out hg;(repeat first|rw [if_pos (by omega)]|rw [if_neg (by omega)]|rw [hDR]|rw [hDN]|rw [hAz]|rw [hSz]|rw [hAC]|rw [hSC]|rw [oMS]|rw [uPC]|rw [lSZ]|rw [lSS]|rfl)
     case e2=>first|(first|(rw [hAC,if_pos rfl];done)|exact (Array.getElem?_eq_some_iff.1 ((hAC _ _ _).trans (if_pos rfl))).2|(simp only [hDR,hDN];rw [hAC,if_pos rfl];done))|(refine (Array.getElem?_eq_some_iff.1 ?_).2;(repeat first|rw [if_pos (by omega)]|rw [if_neg (by omega)]|rw [hDR]|rw [hDN]|rw [hAz]|rw [hSz]|rw [hAC]|rw [hSC]|rw [oMS]|rw [uPC]|rw [lSZ]|rw [lSS]|rfl))
     case e3=>omega
     case e4=>have:=Hf.out.size;(first|omega|(simp only [hDR,hDN,hAz];omega)|(simp;omega))
     intro g2 cap w9 hown1 hW1 hF1 hloc1 hg1
     rw [sps_snoc _ ⟨X,Y,st⟩,HE.out] at hown1
     have Hown1:=Lib.hid hown1
     have hfw:Fr [] w (wr.alloc (.cells #[.int .i64 cx,.int .i64 cy,.int .i64 st] 75)):=by have:=Hf.out;(repeat first|exact Fr.refl _ _|assumption|apply Fr.n|apply Fr.d|apply Fr.a|refine Fr.s ?_ (.inr (by simp;try omega)) _)
     have Hf9:=Lib.hid (fr_append hfw (oOB Ho.out fun g hg=>by have h:=oLT Ho.out hg;(repeat first|rw [if_pos (by omega)]|rw [if_neg (by omega)]|rw [hDR]|rw [hDN]|rw [hAz]|rw [hSz]|rw [hAC]|rw [hSC]|rw [oMS]|rw [uPC]|rw [lSZ]|rw [lSS]|rfl)) hF1)
     clear hown1 hW1 hF1 hloc1 hfw
     go_wp2
     go_roundw
     case rel=>exact⟨k+1,by go_num,by omega,HGOOD.out,Hf9.out,Hown1.out⟩
     case measure=>simp [intOf];omega
  ·obtain rfl:k=p.length:=by omega
   have hall:=Hall.out
   have ho:=Ho.out
   rw [List.take_length] at hall
   rw [show (p.map (spot x y)).take p.length=p.map (spot x y) from List.take_of_length_le (by simp)] at ho
   have HROW:=Lib.hid ho
   have HALL:=Lib.hid hall
   have HFW:=Lib.hid Hf.out
   obtain⟨W0,hW0⟩:∃ W0,W0=wr:=⟨_,rfl⟩
   subst hW0
   clear hall ho Ho Hall Hf
   go_wp2
   go_loopw [77] (fun z wr=>∃ k:Nat,z=.int .i64 (k:Nat)∧k≤p.length∧(p.take k).all (stB s)=true∧Fr [] W0 wr) (fun z _=>p.length - (intOf z).toNat)
   case atStart=>exact⟨0,rfl,by omega,rfl,Fr.refl _ _⟩
   case round =>
    obtain⟨k,rfl,hk,hst,hf⟩:=hrel
    have Hf:=Lib.hid hf
    have Hst:=Lib.hid hst
    clear hf hst
    by_cases hlt:k<p.length
    ·obtain⟨⟨cx,cy,st⟩,hp⟩:∃ c,p[k]?=some c:=⟨_,List.getElem?_eq_getElem hlt⟩
     obtain⟨g,off,rfl,hg,e0,e1,e2⟩:=((HP.out.fr HFW.out).fr Hf.out).cell hp
     simp only at e0 e1 e2
     have hsn:=all_take (f:=stB s) Hst.out hp
     have hsb:=all_bad (f:=stB s) hp
     rw [show stB s ⟨cx,cy,st⟩=decide (0≤st∧st<s) from rfl] at hsn hsb
     have HS1:=Lib.hid (fun w1 (hf:Fr [] wr w1)=>HIS.out w1 st ((HFW.out.trans0 Hf.out).trans0 hf))
     have HSN:=Lib.hid hsn
     have HSB:=Lib.hid hsb
     clear hsn hsb hp
     obtain⟨o,ho⟩:∃ o,decide (0≤st∧st<s)=o:=⟨_,rfl⟩
     rw [ho] at HS1 HSN HSB
     clear ho
     go_wp2_with fail
     refine (HS1.out _ (by (repeat first|exact Fr.refl _ _|assumption|apply Fr.n|apply Fr.d|apply Fr.a|refine Fr.s ?_ (.inr (by simp;try omega)) _))).mono ?_
     rintro e w3 ⟨rfl,_,hf3⟩
     have Hf3:=Lib.hid (Hf.out.trans0 (Fr.trans0 (by (repeat first|exact Fr.refl _ _|assumption|apply Fr.n|apply Fr.d|apply Fr.a|refine Fr.s ?_ (.inr (by simp;try omega)) _)) hf3))
     clear hf3 e0 e1 e2 hg
     cases o with
     | false =>
      have HBAD:=Lib.hid (HSB.out rfl)
      go_wp2
      go_ret2
      have hR:=HR.out
      simp only [HALL.out,HBAD.out,Bool.true_eq_false,if_false,if_true] at hR
      subst hR
      exact⟨rfl,H.out.step (HFW.out.trans0 Hf3.out)⟩
     | true =>
      have HGOOD:=Lib.hid (HSN.out rfl)
      go_wp2
      go_roundw
      case rel=>exact⟨k+1,by go_num,by omega,HGOOD.out,Hf3.out⟩
      case measure=>simp [intOf];omega
    ·obtain rfl:k=p.length:=by omega
     have hst:=Hst.out
     rw [List.take_length] at hst
     have HST:=Lib.hid hst
     have hrow:=(H.out.newRow (HFW.out.trans0 Hf.out) (oOB HROW.out fun g hg=>Hf.out.block g (oLT HROW.out hg) (by simp))).swap
     have hrow:Has W wr (sTR b s ns::rowS u12 (p.map (spot x y))::Ps):=by
      unfold rowS
      rw [List.length_map];exact hrow
     have HBC:=Lib.hid (HBQ.out _ _ _ _ _ hrow (SpSrc.row (v:=u12) (p:=p.map (spot x y)) (by simp)) ⟨in_len HALL.out (fun c hc=>by have:=HPC.out c hc;omega) HXY.out.1.1 HXY.out.2.1,by rw [List.length_map];omega⟩)
     clear hst hrow
     go_wp2_with fail
     refine HBC.out.mono ?_
     rintro e w3 ⟨rfl,h3⟩
     have H3:=Lib.hid h3
     clear h3
     go_wp2
     go_ret2
     have hR:=HR.out
     simp only [HALL.out,HST.out,Bool.true_eq_false,if_false] at hR
     subst hR
     exact⟨rfl,H3.out.ord 2 [0]⟩
end Go.Proofs.YtdanghnadbkhfaaGreat
end
section
namespace Go.Proofs.YtdanghnadbkhfaaGreat
open Go Go.RowKit Rg Mp Hp Qs Ev Bn Pt
def qX (H X q:Nat):Nat:=X+if q % 2=1 then H else 0
def qY (H Y q:Nat):Nat:=Y+if 2≤q then H else 0
def cellsQ (n:Nat) (t:Tr) (X Y:Nat):Nat→List Spot
 | 0=>[]
 | q+1=>cellsQ n t X Y q++cellsT n (Tr.q t q) (qX (2 ^ n) X q) (qY (2 ^ n) Y q)
theorem cellsQ_four {n:Nat} {t:Tr} {X Y:Nat} (h:Full (n+1) t):cellsT (n+1) t X Y=cellsQ n t X Y 4:=by
 cases t with
 | leaf v=>exact h.elim
 | node a b c d=>simp [cellsQ,cellsT,Tr.q,qX,qY]
theorem shC_append (x0 y0:Int) (L M:List Spot):shC x0 y0 (L++M)=shC x0 y0 L++shC x0 y0 M:=by simp [shC]
theorem shC_len (x0 y0:Int) (L:List Spot):(shC x0 y0 L).length=L.length:=by simp [shC]
theorem pos_near {n X Y q:Nat} {x y:Int} {far:Bool} (hn:n+1≤64) (hq:q<4) (h:Pos (n+1) X Y x y far) {x' y':Int} (hx:x'=IntKind.u64.wrap (x+if q % 2=1 then ((2 ^ n:Nat):Int) else 0)) (hy:y'=IntKind.u64.wrap (y+if 2≤q then ((2 ^ n:Nat):Int) else 0)):Pos n (qX (2 ^ n) X q) (qY (2 ^ n) Y q) x' y' far:=by
 obtain⟨⟨⟨h1,h2⟩,h3,h4⟩,h5,h6⟩:=h
 have hw:∀ z:Int,0≤IntKind.u64.wrap z∧IntKind.u64.wrap z<18446744073709551616:=by
  intro z;simp only [IntKind.wrap,IntKind.bits,IntKind.signed];simp;omega
 refine⟨⟨by rw [hx];exact hw _,by rw [hy];exact hw _⟩,fun e=>?_,fun e=>?_⟩
 ·have:=h5 e
  unfold qX qY;omega
 ·obtain⟨rfl,rfl,h7,h8⟩:=h6 e
  obtain⟨h9,h10⟩:=h7 hn
  rw [Nat.pow_succ] at h9 h10
  generalize 2 ^ n=H at *
  refine⟨?_,?_,fun _=>?_,fun _=>by omega⟩
  ·rw [hx];unfold qX
   split
   ·rw [u64w (by omega) (by omega)];omega
   ·rw [u64w (by omega) (by omega)];omega
  ·rw [hy];unfold qY
   split
   ·rw [u64w (by omega) (by omega)];omega
   ·rw [u64w (by omega) (by omega)];omega
  ·unfold qX qY
   constructor<;>split<;>omega
theorem pow64 {n:Nat} (h:64≤n):18446744073709551616≤2 ^ n:=by
 have:=Nat.pow_le_pow_right (n:=2) (by omega) h
 omega
theorem pos_far {n X Y q:Nat} {x y:Int} {far:Bool} (hn:64<n+1) (hq:q<4) (hq0:0<q) (h:Pos (n+1) X Y x y far):Pos n (qX (2 ^ n) X q) (qY (2 ^ n) Y q) x y true:=by
 obtain⟨h1,h5,h6⟩:=h
 refine⟨h1,fun _=>?_,fun e=>by simp at e⟩
 have hp:=pow64 (n:=n) (by omega)
 generalize 2 ^ n=H at *
 unfold qX qY
 have:q=1∨q=2∨q=3:=by omega
 rcases this with rfl|rfl|rfl
 ·left;simp;omega
 ·right;simp;omega
 ·left;simp;omega
theorem pos_zero {n X Y:Nat} {x y:Int} {far:Bool} (hn:64<n+1) (h:Pos (n+1) X Y x y far):Pos n (qX (2 ^ n) X 0) (qY (2 ^ n) Y 0) x y far:=by
 obtain⟨h1,h5,h6⟩:=h
 have e1:qX (2 ^ n) X 0=X:=rfl
 have e2:qY (2 ^ n) Y 0=Y:=rfl
 rw [e1,e2]
 refine⟨h1,h5,fun e=>?_⟩
 obtain⟨h7,h8,h9,h10⟩:=h6 e
 obtain⟨rfl,rfl⟩:=h10 (by omega)
 refine⟨h7,h8,fun h=>?_,fun _=>⟨rfl,rfl⟩⟩
 obtain rfl:n=64:=by omega
 omega
theorem full_q {n:Nat} {t:Tr} (h:Full (n+1) t) {q:Nat} (hq:q<4):Full n (Tr.q t q):=by
 cases t with
 | leaf v=>exact h.elim
 | node a b c d =>
  obtain⟨ha,hb,hc,hd⟩:=h
  have:q=0∨q=1∨q=2∨q=3:=by omega
  rcases this with rfl|rfl|rfl|rfl<;>simp only [Tr.q]<;>assumption
theorem cellsQ_len {n:Nat} {t:Tr} {X Y:Nat} (h:Full (n+1) t):∀ q,q≤4→(cellsQ n t X Y q).length=sumq t q
 | 0,_=>rfl
 | q+1,hq=>by
  rw [cellsQ,List.length_append,cellsQ_len h q (by omega),cellsT_len (full_q h (by omega))];rfl
theorem sumq_mono {t:Tr} {q r:Nat} (h:q≤r):sumq t q≤sumq t r:=by
 induction r with
 | zero =>
      obtain rfl:q=0:=by omega
      exact Nat.le_refl _
 | succ r ih =>
  by_cases hq:q=r+1
  ·subst hq;exact Nat.le_refl _
  ·have:=ih (by omega)
   show _≤sumq t r+_
   omega
theorem pop_sumq {n:Nat} {t:Tr} (h:Full (n+1) t):popT t=sumq t 4:=by
 cases t with
 | leaf v=>exact h.elim
 | node a b c d=>simp [sumq,popT,Tr.q]
theorem rd_room {n:Nat} {t:Tr} {X Y q:Nat} {x0 y0:Int} {l l':List PC} {ok:Bool} (hf:Full (n+1) t) (hq:q<4) (hl:l.length+popT t≤5000) (h:RdRel true l (shC x0 y0 (cellsQ n t X Y q)) ok l'):l'.length+popT (Tr.q t q)≤5000:=by
 have h1:=h.2.2
 rw [shC_len,cellsQ_len hf q (by omega)] at h1
 have h2:=sumq_mono (t:=t) (show q+1≤4 by omega)
 rw [← pop_sumq hf] at h2
 have h3:sumq t (q+1)=sumq t q+popT (Tr.q t q):=rfl
 omega
theorem rd_next {n:Nat} {t:Tr} {X Y q:Nat} {x0 y0:Int} {l l1 l2:List PC} {o1 o2:Bool} (h:RdRel true l (shC x0 y0 (cellsQ n t X Y q)) o1 l1) (k:RdRel o1 l1 (shC x0 y0 (cellsT n (Tr.q t q) (qX (2 ^ n) X q) (qY (2 ^ n) Y q))) o2 l2):RdRel true l (shC x0 y0 (cellsQ n t X Y (q+1))) o2 l2:=by
 rw [cellsQ,shC_append];exact h.trans k
set_option maxHeartbeats 16000000 in
theorem read_node {W:World} {b db rb:Nat} {s:Int} {ns:List K4} {x0 y0:Int} {n:Nat} (hn:n+1≤256) (ih:ReadAt W b db rb s ns x0 y0 n):ReadAt W b db rb s ns x0 y0 (n+1):=by
 intro w Ps mm v ok l id t X Y x y far h hi hpos hlen
 obtain⟨V,hV⟩:∃ V,popT t=V:=⟨_,rfl⟩
 have HC:=Lib.hid (fun w1 Qs (h1:Has W w1 (rdL b db rb s ns mm x0 y0 v ok l Qs))=>hV▸count_q (rdO_cnt b rb x0 y0 v ok) (n+1) hn w1 _ mm id t h1 hi)
 obtain⟨kk,hkk⟩:∃ kk,nodeOf s ns id=kk:=⟨_,rfl⟩
 have HK:=Lib.hid (fun w1 Qs (h1:Has W w1 (sTR b s ns::Qs))=>hkk▸Kids_has h1 hi)
 have HL:=Lib.hid (fun w1 Qs (h1:Has W w1 (sTR b s ns::Qs))=>LevelIs_has h1 hi)
 have HQ:=Lib.hid (hkk▸(hi.node (has_good h.third)).2.2)
 have HIH:=Lib.hid ih
 have hfl:=run_field_mag
 have H:=Lib.hid h
 have hfull:=hi.2.2.1
 by_cases hV0:V=0
 ·have hc:cellsT (n+1) t X Y=[]:=cellsT_none hfull (by rw [hV,hV0])
  rw [hc]
  clear h hi hpos hc hfull hkk HK HL HQ HIH ih
  have hz:zd (V:Int)=[]:=zd_nil.2 hV0
  have hb:(((zd (V:Int)).length:Int) == 0)=true:=by rw [hz];rfl
  clear hV0 hV
  go_enter Tryz.func55,Tryz.ntmps55
  go_wp2_with fail
  refine (HC.out _ _ H.out).mono ?_
  rintro e w1 ⟨a1,c1,mm1,rfl,h1,hm1⟩
  simp only [bvV]
  have hd:=h1.swap.blk
  simp only [rdO] at hd
  have d0:=hEC hd 0
  have d5:=hEC hd 5
  have dl:=lBk hd
  have H1:=Lib.hid h1
  clear h1 hd hm1
  go_wp2
  go_end0
  exact⟨rfl,v,ok,l,mm1,H1.out,RdRel.refl ok l⟩
 cases ok with
 | false =>
  clear h hi hpos hfull hkk HK HL HQ HIH ih
  have hz:¬ zd (V:Int)=[]:=fun e=>hV0 (zd_nil.1 e)
  have hb:(((zd (V:Int)).length:Int) == 0)=false:=by
   have:=List.length_pos_iff.2 hz
   simp;exact hz
  clear hV0 hV
  go_enter Tryz.func55,Tryz.ntmps55
  go_wp2_with fail
  refine (HC.out _ _ H.out).mono ?_
  rintro e w1 ⟨a1,c1,mm1,rfl,h1,hm1⟩
  simp only [bvV]
  have hd:=h1.swap.blk
  simp only [rdO] at hd
  have d0:=hEC hd 0
  have d5:=hEC hd 5
  have dl:=lBk hd
  have H1:=Lib.hid h1
  clear h1 hd hm1
  go_wp2
  go_end0
  exact⟨rfl,v,false,l,mm1,H1.out,RdRel.off⟩
 | true =>
 rw [cellsQ_four hfull]
 have HPOS:=Lib.hid hpos
 have HLEN:=Lib.hid hlen
 have HFULL:=Lib.hid hfull
 have HH:=Lib.hid hn
 clear h hi hfull hpos hlen hkk ih
 have hz:¬ zd (V:Int)=[]:=fun e=>hV0 (zd_nil.1 e)
 have hb:(((zd (V:Int)).length:Int) == 0)=false:=by
  have:=List.length_pos_iff.2 hz
  simp;exact hz
 clear hV0 hV
 go_enter Tryz.func55,Tryz.ntmps55
 go_wp2_with fail
 refine (HC.out _ _ H.out).mono ?_
 rintro e w1 ⟨a1,c1,mm1,rfl,h1,hm1⟩
 simp only [bvV]
 have hd:=h1.swap.blk
 simp only [rdO] at hd
 have d0:=hEC hd 0
 have d5:=hEC hd 5
 have dl:=lBk hd
 have H1:=Lib.hid h1
 clear h1 hd hm1
 go_wp2_with fail
 refine (HK.out _ _ H1.out.third).mono ?_
 rintro e w2 ⟨rfl,h2,_⟩
 have hd:=h2.third.blk
 simp only [rdO] at hd
 clear d0 d5 dl
 have d0:=hEC hd 0
 have d2:=hEC hd 2
 have d3:=hEC hd 3
 have d4:=hEC hd 4
 have d4z:=hEF hd 4
 have d5:=hEC hd 5
 have d5z:=hEF hd 5
 have dl:=lBk hd
 clear hd
 go_wp2_with fail
 refine (HL.out _ _ (h2.step (by (repeat first|exact Fr.refl _ _|assumption|apply Fr.n|apply Fr.d|apply Fr.a|refine Fr.s ?_ (.inr (by simp;try omega)) _)))).mono ?_
 rintro e w3 ⟨rfl,h3,hf3⟩
 have hj_:=(hf3.block (w2.heap.size) (by first|(simp;done)|(simp;omega)) (by simp)).trans (show _=some (.cells #[.int .i64 kk.a,.int .i64 kk.b,.int .i64 kk.c,.int .i64 kk.d] 81 (0,0)) by (repeat first|rw [if_pos (by omega)]|rw [if_neg (by omega)]|rw [hDR]|rw [hDN]|rw [hAz]|rw [hSz]|rw [hAC]|rw [hSC]|rw [oMS]|rw [uPC]|rw [lSZ]|rw [lSS]|rfl))
 have j0:=hEC hj_ 0
 have j1:=hEC hj_ 1
 have j2:=hEC hj_ 2
 have j3:=hEC hj_ 3
 have jl:=lBk hj_
 have Hj:=Lib.hid hj_
 clear hj_
 have H3:=Lib.hid h3
 have hdl3:db<w3.heap.size:=lBk h3.third.blk
 clear h2 h3 hf3 d0 d2 d3 d4 d4z d5 d5z dl
 go_wp2
 go_loopw [101] (fun x wr=>∃ z:Int,x=.int .i64 z∧At5 (fun q=>∃ v' ok' l' mm',Has W wr (rdL b db rb s ns mm' x0 y0 v' ok' l' Ps)∧RdRel true l (shC x0 y0 (cellsQ n t X Y q)) ok' l') z) (fun x _=>4 - (intOf x).toNat)
 case atStart=>exact⟨0,rfl,.inl ⟨rfl,v,true,l,mm1,H3.out.ord 4 [1,2,0,3],RdRel.refl true l⟩⟩
 case round =>
  clear j0 j1 j2 j3 jl Hj H3 hdl3
  obtain⟨z,rfl,hz⟩:=hrel
  by_cases hle:n+1≤64
  ·have hd64:decide ((n:Int)+1≤64)=true:=by simp;omega
   obtain⟨Hn,hHn⟩:∃ Hn:Int,((2 ^ n:Nat):Int)=Hn:=⟨_,rfl⟩
   have hp64:2 ^ n≤2 ^ 63:=Nat.pow_le_pow_right (by omega) (by omega)
   have hpz:=Nat.pow_pos (n:=n) (show 0<2 by omega)
   have hw3:IntKind.u64.wrap Hn=Hn:=u64w (by omega) (by omega)
   have hw2:IntKind.u64.wrap (2 ^ n)=Hn:=by
    rw [show (2:Int) ^ n=((2 ^ n:Nat):Int) by simp,hHn];exact hw3
   have HHV:=Lib.hid hHn.symm
   clear hHn hp64 hpz
   rcases hz with ⟨rfl,hz⟩|⟨rfl,hz⟩|⟨rfl,hz⟩|⟨rfl,hz⟩|⟨rfl,hz⟩
   ·
    obtain⟨v1,ok1,l1,mm2,h,hrel1⟩:=hz
    have HREL:=Lib.hid hrel1
    have HR:=Lib.hid (rd_room HFULL.out (q:=0) (by omega) HLEN.out hrel1)
    have H4:=Lib.hid h
    have hdl:=lBk h.swap.blk
    clear h hrel1
    go_wp2_with fail
    have hp:=pos_near (q:=0) hle (by omega) HPOS.out (x':=IntKind.u64.wrap x) (y':=IntKind.u64.wrap y) (by simp [HHV.out]) (by simp [HHV.out])
    refine (HIH.out _ _ _ _ _ _ _ _ _ _ _ _ _ H4.out (HQ.out 0 (by omega)) hp HR.out).mono ?_
    rintro e w5 ⟨rfl,v5,ok5,l5,mm5,h5,hr5⟩
    have H5:=Lib.hid (And.intro h5 (rd_next HREL.out hr5))
    clear h5 hr5 hp
    go_wp2
    go_roundw
    case rel=>exact⟨1,rfl,.inr (.inl ⟨rfl,v5,ok5,l5,mm5,H5.out.1,H5.out.2⟩)⟩
    case measure=>simp [intOf]
   ·
    obtain⟨v1,ok1,l1,mm2,h,hrel1⟩:=hz
    have HREL:=Lib.hid hrel1
    have HR:=Lib.hid (rd_room HFULL.out (q:=1) (by omega) HLEN.out hrel1)
    have H4:=Lib.hid h
    have hdl:=lBk h.swap.blk
    clear h hrel1
    go_wp2_with fail
    have hp:=pos_near (q:=1) hle (by omega) HPOS.out (x':=IntKind.u64.wrap (x+Hn)) (y':=IntKind.u64.wrap y) (by simp [HHV.out]) (by simp [HHV.out])
    refine (HIH.out _ _ _ _ _ _ _ _ _ _ _ _ _ H4.out (HQ.out 1 (by omega)) hp HR.out).mono ?_
    rintro e w5 ⟨rfl,v5,ok5,l5,mm5,h5,hr5⟩
    have H5:=Lib.hid (And.intro h5 (rd_next HREL.out hr5))
    clear h5 hr5 hp
    go_wp2
    go_roundw
    case rel=>exact⟨2,rfl,.inr (.inr (.inl ⟨rfl,v5,ok5,l5,mm5,H5.out.1,H5.out.2⟩))⟩
    case measure=>simp [intOf]
   ·
    obtain⟨v1,ok1,l1,mm2,h,hrel1⟩:=hz
    have HREL:=Lib.hid hrel1
    have HR:=Lib.hid (rd_room HFULL.out (q:=2) (by omega) HLEN.out hrel1)
    have H4:=Lib.hid h
    have hdl:=lBk h.swap.blk
    clear h hrel1
    go_wp2_with fail
    have hp:=pos_near (q:=2) hle (by omega) HPOS.out (x':=IntKind.u64.wrap x) (y':=IntKind.u64.wrap (y+Hn)) (by simp [HHV.out]) (by simp [HHV.out])
    refine (HIH.out _ _ _ _ _ _ _ _ _ _ _ _ _ H4.out (HQ.out 2 (by omega)) hp HR.out).mono ?_
    rintro e w5 ⟨rfl,v5,ok5,l5,mm5,h5,hr5⟩
    have H5:=Lib.hid (And.intro h5 (rd_next HREL.out hr5))
    clear h5 hr5 hp
    go_wp2
    go_roundw
    case rel=>exact⟨3,rfl,.inr (.inr (.inr (.inl ⟨rfl,v5,ok5,l5,mm5,H5.out.1,H5.out.2⟩)))⟩
    case measure=>simp [intOf]
   ·
    obtain⟨v1,ok1,l1,mm2,h,hrel1⟩:=hz
    have HREL:=Lib.hid hrel1
    have HR:=Lib.hid (rd_room HFULL.out (q:=3) (by omega) HLEN.out hrel1)
    have H4:=Lib.hid h
    have hdl:=lBk h.swap.blk
    clear h hrel1
    go_wp2_with fail
    have hp:=pos_near (q:=3) hle (by omega) HPOS.out (x':=IntKind.u64.wrap (x+Hn)) (y':=IntKind.u64.wrap (y+Hn)) (by simp [HHV.out]) (by simp [HHV.out])
    refine (HIH.out _ _ _ _ _ _ _ _ _ _ _ _ _ H4.out (HQ.out 3 (by omega)) hp HR.out).mono ?_
    rintro e w5 ⟨rfl,v5,ok5,l5,mm5,h5,hr5⟩
    have H5:=Lib.hid (And.intro h5 (rd_next HREL.out hr5))
    clear h5 hr5 hp
    go_wp2
    go_roundw
    case rel=>exact⟨4,rfl,.inr (.inr (.inr (.inr ⟨rfl,v5,ok5,l5,mm5,H5.out.1,H5.out.2⟩)))⟩
    case measure=>simp [intOf]
   ·obtain⟨v1,ok1,l1,mm2,h,hrel1⟩:=hz
    have H4:=Lib.hid (And.intro h hrel1)
    clear h hrel1
    go_wp2
    go_end0
    exact⟨rfl,v1,ok1,l1,mm2,H4.out.1,H4.out.2⟩
  ·have hd64:decide ((n:Int)+1≤64)=false:=by simp;omega
   rcases hz with ⟨rfl,hz⟩|⟨rfl,hz⟩|⟨rfl,hz⟩|⟨rfl,hz⟩|⟨rfl,hz⟩
   ·
    obtain⟨v1,ok1,l1,mm2,h,hrel1⟩:=hz
    have HREL:=Lib.hid hrel1
    have HR:=Lib.hid (rd_room HFULL.out (q:=0) (by omega) HLEN.out hrel1)
    have H4:=Lib.hid h
    have hdl:=lBk h.swap.blk
    clear h hrel1
    go_wp2_with fail
    have hp:=pos_zero (by omega) HPOS.out
    refine (HIH.out _ _ _ _ _ _ _ _ _ _ _ _ _ H4.out (HQ.out 0 (by omega)) hp HR.out).mono ?_
    rintro e w5 ⟨rfl,v5,ok5,l5,mm5,h5,hr5⟩
    have H5:=Lib.hid (And.intro h5 (rd_next HREL.out hr5))
    clear h5 hr5 hp
    go_wp2
    go_roundw
    case rel=>exact⟨1,rfl,.inr (.inl ⟨rfl,v5,ok5,l5,mm5,H5.out.1,H5.out.2⟩)⟩
    case measure=>simp [intOf]
   ·
    obtain⟨v1,ok1,l1,mm2,h,hrel1⟩:=hz
    have HREL:=Lib.hid hrel1
    have HR:=Lib.hid (rd_room HFULL.out (q:=1) (by omega) HLEN.out hrel1)
    have H4:=Lib.hid h
    have hdl:=lBk h.swap.blk
    clear h hrel1
    go_wp2_with fail
    have hp:=pos_far (q:=1) (by omega) (by omega) (by omega) HPOS.out
    refine (HIH.out _ _ _ _ _ _ _ _ _ _ _ _ _ H4.out (HQ.out 1 (by omega)) hp HR.out).mono ?_
    rintro e w5 ⟨rfl,v5,ok5,l5,mm5,h5,hr5⟩
    have H5:=Lib.hid (And.intro h5 (rd_next HREL.out hr5))
    clear h5 hr5 hp
    go_wp2
    go_roundw
    case rel=>exact⟨2,rfl,.inr (.inr (.inl ⟨rfl,v5,ok5,l5,mm5,H5.out.1,H5.out.2⟩))⟩
    case measure=>simp [intOf]
   ·
    obtain⟨v1,ok1,l1,mm2,h,hrel1⟩:=hz
    have HREL:=Lib.hid hrel1
    have HR:=Lib.hid (rd_room HFULL.out (q:=2) (by omega) HLEN.out hrel1)
    have H4:=Lib.hid h
    have hdl:=lBk h.swap.blk
    clear h hrel1
    go_wp2_with fail
    have hp:=pos_far (q:=2) (by omega) (by omega) (by omega) HPOS.out
    refine (HIH.out _ _ _ _ _ _ _ _ _ _ _ _ _ H4.out (HQ.out 2 (by omega)) hp HR.out).mono ?_
    rintro e w5 ⟨rfl,v5,ok5,l5,mm5,h5,hr5⟩
    have H5:=Lib.hid (And.intro h5 (rd_next HREL.out hr5))
    clear h5 hr5 hp
    go_wp2
    go_roundw
    case rel=>exact⟨3,rfl,.inr (.inr (.inr (.inl ⟨rfl,v5,ok5,l5,mm5,H5.out.1,H5.out.2⟩)))⟩
    case measure=>simp [intOf]
   ·
    obtain⟨v1,ok1,l1,mm2,h,hrel1⟩:=hz
    have HREL:=Lib.hid hrel1
    have HR:=Lib.hid (rd_room HFULL.out (q:=3) (by omega) HLEN.out hrel1)
    have H4:=Lib.hid h
    have hdl:=lBk h.swap.blk
    clear h hrel1
    go_wp2_with fail
    have hp:=pos_far (q:=3) (by omega) (by omega) (by omega) HPOS.out
    refine (HIH.out _ _ _ _ _ _ _ _ _ _ _ _ _ H4.out (HQ.out 3 (by omega)) hp HR.out).mono ?_
    rintro e w5 ⟨rfl,v5,ok5,l5,mm5,h5,hr5⟩
    have H5:=Lib.hid (And.intro h5 (rd_next HREL.out hr5))
    clear h5 hr5 hp
    go_wp2
    go_roundw
    case rel=>exact⟨4,rfl,.inr (.inr (.inr (.inr ⟨rfl,v5,ok5,l5,mm5,H5.out.1,H5.out.2⟩)))⟩
    case measure=>simp [intOf]
   ·obtain⟨v1,ok1,l1,mm2,h,hrel1⟩:=hz
    have H4:=Lib.hid (And.intro h hrel1)
    clear h hrel1
    go_wp2
    go_end0
    exact⟨rfl,v1,ok1,l1,mm2,H4.out.1,H4.out.2⟩
theorem read_q {W:World} {b db rb:Nat} {s:Int} {ns:List K4} {x0 y0:Int} (hx0:-9223372036854775808≤x0∧x0<9223372036854775808) (hy0:-9223372036854775808≤y0∧y0<9223372036854775808):∀ n:Nat,n≤256→ReadAt W b db rb s ns x0 y0 n
 | 0,_=>read_leaf hx0 hy0
 | n+1,hn=>read_node hn (read_q hx0 hy0 n (by omega))
end Go.Proofs.YtdanghnadbkhfaaGreat
end
section
namespace Go.Proofs.YtdanghnadbkhfaaGreat
open Go Go.RowKit Rg Mp Hp Qs Ev Bn Pt
def patQ (s:Int) (ns:List K4) (id x y:Int):List PC×Int :=
 if lvl s (levs s ns) id<0 then ([],13) else if 5000<popT (tr s ns id) then ([],6) else fromP (shC x y (cellsT (tr s ns id).ht (tr s ns id) 0 0))
theorem cells_state {s:Int}:∀ {n:Nat} {t:Tr} {X Y:Nat},Full n t→t.ok s→∀ c∈cellsT n t X Y,1≤c.st∧c.st<s
 | 0,.leaf v,X,Y,_,⟨h1,h2⟩,c,hc=>by
  unfold cellsT at hc
  split at hc
  ·cases hc
  ·simp only [List.mem_singleton] at hc
   subst hc
   simp only;omega
 | 0,.node _ _ _ _,_,_,h,_,_,_=>h.elim
 | n+1,.leaf _,_,_,h,_,_,_=>h.elim
 | n+1,.node a b c d,X,Y,⟨ha,hb,hc,hd⟩,⟨oa,ob,oc,od⟩,x,hx=>by
  unfold cellsT at hx
  simp only [List.mem_append] at hx
  rcases hx with hx|hx|hx|hx
  ·exact cells_state ha oa x hx
  ·exact cells_state hb ob x hx
  ·exact cells_state hc oc x hx
  ·exact cells_state hd od x hx
theorem badP_place:∀ {l:List PC},(∀ c∈l,1≤c.st∧c.st<8)→(∃ c∈l,placeB c.x c.y=false)→badP l=5
 | [],_,⟨c,hc,_⟩=>by cases hc
 | d::l,h,⟨c,hc,hp⟩=>by
  have h1:=h d (by simp)
  unfold badP
  split
  ·rfl
  ·rw [if_neg (by omega)]
   rename_i hd
   refine badP_place (fun c hc=>h c (by simp [hc])) ?_
   rw [List.mem_cons] at hc
   rcases hc with rfl|hc
   ·exact absurd hp hd
   ·exact⟨c,hc,hp⟩
theorem fromP_place {l:List PC} (h:∀ c∈l,1≤c.st∧c.st<8) (hb:∃ c∈l,placeB c.x c.y=false):fromP l=([],5):=by
 have:=badP_place h hb
 rw [fromP_bad (by omega),this]
theorem shC_state {s:Int} {n:Nat} {t:Tr} {X Y:Nat} {x y:Int} (hs:s≤8) (h1:Full n t) (h2:t.ok s):∀ c∈shC x y (cellsT n t X Y),1≤c.st∧c.st<8:=by
 intro c hc
 simp only [shC,List.mem_map] at hc
 obtain⟨d,hd,rfl⟩:=hc
 have:=cells_state h1 h2 d hd
 simp only;omega
theorem cmpI_gt (x y:Int):decide (cmpI x y > 0)=decide (y<x):=by
 unfold cmpI
 rw [decide_eq_decide]
 split
 ·omega
 ·split<;>omega
theorem has_reader {W w:World} {b:Nat} {s:Int} {ns:List K4} {Ps:List Res} (h:Has W w (sTR b s ns::Ps)) (x y:Int):Has W ((w.alloc (.map #[] 0)).alloc (rdO b w.heap.size x y (.slice none 0 0) true)) (rdL b (w.heap.size+1) w.heap.size s ns [] x y (.slice none 0 0) true [] Ps):=by
 have h0:Has W w (Hp.row 75 3 (.slice none 0 0) 0 []::sTR b s ns::Ps):=h.newRow (Fr.refl [] w) (owns_none _ _ _ _)
 have h2:=(hAL (has_popmap (s:=s) (ns:=ns) h0) #[.pointer (some ⟨b,0,none⟩),.map (some w.heap.size),.int .i64 x,.int .i64 y,.slice none 0 0,.bool true] 108).ord 4 [1,0,3,2]
 rw [show (w.alloc (.map #[] 0)).heap.size=w.heap.size+1 by simp] at h2
 exact h2
set_option maxHeartbeats 8000000 in
set_option maxRecDepth 20000 in
theorem Pattern_q {W w:World} {b:Nat} {s:Int} {ns:List K4} {Ps:List Res} (h:Has W w (sTR b s ns::Ps)) (id x y:Int) (hx0:-9223372036854775808≤x∧x<9223372036854775808) (hy0:-9223372036854775808≤y∧y<9223372036854775808) :
  Calls Tryz.prog 17 #[.pointer (some ⟨b,0,none⟩),.int .i64 id,.int .i64 x,.int .i64 y] w fun e w' =>
   ∃ v,e=.returned (.tuple #[v,.int .i64 (patQ s ns id x y).2])∧Has W w' (sTR b s ns::Hp.row 75 3 v (patQ s ns id x y).1.length (pcs (patQ s ns id x y).1)::Ps):=by
 have hg:=has_good h
 have HN:=Lib.hid (fun w1 Qs (h1:Has W w1 (sTR b s ns::Qs))=>known_q h1 id)
 have H:=Lib.hid h
 have HNIL:=Lib.hid (fun w1 Qs (h1:Has W w1 (sTR b s ns::Qs))=>(h1.newRow (T:=75) (size:=3) (Fr.refl [] w1) (owns_none _ _ _ _)).swap)
 unfold knownQ at HN
 unfold patQ
 by_cases h0:lvl s (levs s ns) id<0
 ·simp only [if_pos h0] at HN ⊢
  clear h hg hx0 hy0
  go_enter Tryz.func17,Tryz.ntmps17
  go_wp2_with fail
  refine (HN.out _ _ H.out).mono ?_
  rintro e w1 ⟨rfl,hs,hf⟩
  have H1:=Lib.hid hs
  clear hs hf
  go_wp2
  go_ret2
  exact⟨_,rfl,HNIL.out _ _ H1.out⟩
 simp only [if_neg h0] at HN ⊢
 obtain⟨n,hn,hn256,hi⟩:=level_nat hg (id:=id) (by omega)
 obtain⟨V,hV⟩:∃ V,popT (tr s ns id)=V:=⟨_,rfl⟩
 have HC:=Lib.hid (fun cb rb w1 Qs (h1:Has W w1 (rdL b cb rb s ns [] x y (.slice none 0 0) true [] Qs))=>hV▸count_q (rdO_cnt b rb x y (.slice none 0 0) true) n hn256 w1 _ [] id _ h1 hi)
 have HZV:=Lib.hid (hV▸pop_zok hn256 hi.2.2.1)
 have hcg:=cmpI_gt (V:Int) 5000
 obtain⟨z,hz⟩:∃ z,cmpI (V:Int) 5000=z:=⟨_,rfl⟩
 have HCZ:=Lib.hid hz
 rw [hz] at hcg
 rw [full_ht n hi.2.2.1,hV]
 by_cases h5:5000<V
 ·rw [if_pos h5]
  replace hcg:=hcg.trans (decide_eq_true (by omega))
  clear h hg h0 hn hn256 hi hV hz h5 hx0 hy0
  have hmm:=@run_makeMap Tryz.prog
  go_enter Tryz.func17,Tryz.ntmps17
  go_wp2_with fail
  refine (HN.out _ _ H.out).mono ?_
  rintro e w1 ⟨rfl,hs,hf⟩
  have H1:=Lib.hid hs
  clear hs hf
  go_wp2_with fail
  have h2:=has_reader H1.out x y
  refine (HC.out _ _ _ _ h2).mono ?_
  rintro e w2 ⟨a2,c2,mm2,rfl,h3,hm3⟩
  have HB:=Lib.hid (in_z (cnt_in h3 hm3))
  have H3:=Lib.hid h3
  have hdl:=lBk h3.swap.blk
  clear h2 h3 hm3 H1 hmm
  simp only [bvV]
  go_wp2_with fail
  refine (From_z (x:=5000) (by omega) (by omega)).mono ?_
  rintro e w3 ⟨v3,rfl,hb3,hf3⟩
  have H4:=Lib.hid (H3.out.step hf3)
  have HB3:=Lib.hid (HB.out.fr0 hf3)
  have Hb3:=Lib.hid (hb3.mono (fun _ _=>trivial):BigZ _ (fun _=>True) _ _)
  clear hf3 hb3 hdl H3
  go_wp2_with fail
  refine (Compare_z HB3.out Hb3.out HZV.out (zok_int (by omega) (by omega))).mono ?_
  rintro e w4 ⟨rfl,hf4⟩
  have h5:=H4.out.step hf4
  have hdl:w1.heap.size+1<w4.heap.size:=lBk h5.swap.blk
  have H5:=Lib.hid h5
  clear h5 hf4
  rw [HCZ.out]
  go_wp2
  go_ret2
  exact⟨_,rfl,HNIL.out _ _ (H5.out.ord 4 [2])⟩
 rw [if_neg h5]
 replace hcg:=hcg.trans (decide_eq_false (by omega))
 obtain⟨C,hC⟩:∃ C,shC x y (cellsT n (tr s ns id) 0 0)=C:=⟨_,rfl⟩
 have hCl:C.length=V:=by rw [← hC,shC_len,cellsT_len hi.2.2.1,hV]
 rw [hC]
 have HST:=Lib.hid (hC▸shC_state hg.2.1 hi.2.2.1 hi.2.2.2)
 have HRD:=Lib.hid (fun db rb w1 Qs mm (h1:Has W w1 (rdL b db rb s ns mm x y (.slice none 0 0) true [] Qs))=>hC▸read_q (W:=W) hx0 hy0 n hn256 w1 Qs mm _ true [] id _ 0 0 0 0 false h1 hi ⟨⟨by omega,by omega⟩,by simp,fun _=>⟨rfl,rfl,fun hn=>by have:=Nat.pow_le_pow_right (n:=2) (by omega) hn;omega,fun _=>⟨rfl,rfl⟩⟩⟩ (by rw [hV];simp;omega))
 have HCL:=Lib.hid (show C.length≤5000 by omega)
 clear h hg h0 hn hn256 hi hV hz h5 hx0 hy0 hC hCl
 have hmm:=@run_makeMap Tryz.prog
 go_enter Tryz.func17,Tryz.ntmps17
 go_wp2_with fail
 refine (HN.out _ _ H.out).mono ?_
 rintro e w1 ⟨rfl,hs,hf⟩
 have H1:=Lib.hid hs
 clear hs hf
 go_wp2_with fail
 have h2:=has_reader H1.out x y
 refine (HC.out _ _ _ _ h2).mono ?_
 rintro e w2 ⟨a2,c2,mm2,rfl,h3,hm3⟩
 have HB:=Lib.hid (in_z (cnt_in h3 hm3))
 have H3:=Lib.hid h3
 have hdl:=lBk h3.swap.blk
 clear h2 h3 hm3 H1 hmm
 simp only [bvV]
 go_wp2_with fail
 refine (From_z (x:=5000) (by omega) (by omega)).mono ?_
 rintro e w3 ⟨v3,rfl,hb3,hf3⟩
 have H4:=Lib.hid (H3.out.step hf3)
 have HB3:=Lib.hid (HB.out.fr0 hf3)
 have Hb3:=Lib.hid (hb3.mono (fun _ _=>trivial):BigZ _ (fun _=>True) _ _)
 clear hf3 hb3 hdl H3
 go_wp2_with fail
 refine (Compare_z HB3.out Hb3.out HZV.out (zok_int (by omega) (by omega))).mono ?_
 rintro e w4 ⟨rfl,hf4⟩
 have h5:=H4.out.step hf4
 have hdl:w1.heap.size+1<w4.heap.size:=lBk h5.swap.blk
 have H5:=Lib.hid h5
 clear h5 hf4
 rw [HCZ.out]
 go_wp2_with fail
 refine (HRD.out _ _ _ _ _ H5.out).mono ?_
 rintro e w6 ⟨rfl,v6,ok6,l6,mm6,h6,hr6⟩
 have hd:=h6.swap.blk
 simp only [rdO] at hd
 have d4:=hEC hd 4
 have d5:=hEC hd 5
 clear hdl
 have hdl:=lBk hd
 have H6:=Lib.hid h6
 have HR6:=Lib.hid hr6
 clear h6 hr6 hd
 cases ok6 with
 | false =>
  have hb6:fromP C=([],5):=fromP_place HST.out (by
   rcases HR6.out.2.1 rfl with h|h
   ·cases h
   ·exact h)
  have HB6:=Lib.hid hb6
  clear hb6
  go_wp2
  go_ret2
  rw [HB6.out]
  exact⟨_,rfl,HNIL.out _ _ (H6.out.ord 4 [2])⟩
 | true =>
  obtain rfl:C=l6:=by simpa using (HR6.out.1 rfl).2.symm
  obtain⟨_,a6,c6,rfl,_⟩:=Reads.of_owns H6.out.f3.row
  have HPF:=Lib.hid (PFrom_calls (Reads.of_owns H6.out.f3.row:CellsAt w6 _ C) (by have:=HCL.out;omega))
  go_wp2_with fail
  refine HPF.out.mono ?_
  rintro e w7 ⟨v7,rfl,hown,hf⟩
  have H7:=Lib.hid (H6.out.newRow hf hown)
  clear hown hf d4 d5 hdl
  go_wp2
  go_ret2
  exact⟨v7,rfl,H7.out.ord 5 [3,0]⟩
end Go.Proofs.YtdanghnadbkhfaaGreat
end
section
namespace Go.Proofs.YtdanghnadbkhfaaGreat
open Go Qs Ev Bn Pt
def awP:List PC:=[⟨1,0,1⟩]
def aw1:List K4:=[⟨0,1,0,0⟩]
def aw3:List K4:=[⟨0,1,0,0⟩,⟨0,0,0,0⟩,⟨2,3,3,3⟩]
def aw4:List K4:=(expandQ 2 aw3 2).2
def awX:Int:=(expandQ 2 aw3 2).1.1
theorem aw_from1:fromQ 2 [] awP 0 0 1=((2,0),aw1):=by decide +kernel
theorem aw_from2:fromQ 2 aw1 awP 0 0 2=((4,0),aw3):=by decide +kernel
theorem aw_get:getQ 2 aw3 4 false [1] false []=(1,0):=by decide +kernel
theorem aw_fr:frQ 2 aw3 4=some (1,0,1,0):=by decide +kernel
theorem aw_kn:knownQ 2 aw3 4=0:=by decide +kernel
theorem aw_pop:popQ 2 aw3 4=1:=by decide +kernel
theorem aw_exp:expandQ 2 aw3 2=((awX,0),aw4):=by decide +kernel
theorem aw_ctr:centreQ 2 aw4 awX=((2,0),aw4):=by decide +kernel
theorem aw_pat:patQ 2 aw4 4 0 0=(awP,0):=by decide +kernel
def aw5:List K4:=(changeQ 2 aw4 4 false [1] false [] 0).2
def awC:Int:=(changeQ 2 aw4 4 false [1] false [] 0).1.1
theorem aw_set:changeQ 2 aw4 4 false [1] false [] 0=((awC,0),aw5):=by decide +kernel
theorem aw_empty:(emptyQ 2 aw5 2).1=(awC,0):=by decide +kernel
end Go.Proofs.YtdanghnadbkhfaaGreat
end
section
namespace Go.Proofs.YtdanghnadbkhfaaGreat
open Go Go.RowKit Rg Mp Hp Qs Ev Bn
theorem ret_b {a b:Bool} (h:a=b):Ending.returned (.bool a)=Ending.returned (.bool b):=by rw [h]
theorem big_cell {w:World} {neg:Bool} {ds:List Nat} {a:Option Addr} {c:Nat} (h:BigIn w neg ds a c) {i:Nat} {d:Nat} (hi:ds[i]?=some d):∃ g off,a=some ⟨g,off,none⟩∧g<w.heap.size∧w.cell? ⟨g,off+i,none⟩=some (.int .u32 d):=by
 obtain⟨_,a',c',he,h2⟩:=h.rd
 cases he
 obtain⟨g,off,rfl,hg,hc⟩:=h2 (by have:=(List.getElem?_eq_some_iff.1 hi).1;omega)
 refine⟨g,off,rfl,hg,hc _ _ ?_⟩
 unfold u32s
 rw [List.getElem?_map,hi];rfl
set_option maxHeartbeats 4000000 in
theorem equal_q {w:World} {nx ny:Bool} {dx dy:List Nat} {ax ay:Option Addr} {cx cy:Nat} (hx:BigIn w nx dx ax cx) (hy:BigIn w ny dy ay cy) (hsz:dx.length≤9223372036854775807) :
  Calls Tryz.prog 15 #[.agg #[.bool nx,.slice ax dx.length cx],.agg #[.bool ny,.slice ay dy.length cy]] w fun e w'=>e=.returned (.bool (decide (nx=ny∧dx=dy)))∧Fr [] w w':=by
 have HX:=Lib.hid hx
 have HY:=Lib.hid hy
 clear hx hy
 obtain⟨r,hr⟩:∃ r,decide (nx=ny∧dx=dy)=r:=⟨_,rfl⟩
 rw [hr]
 have HR:=Lib.hid hr
 clear hr
 by_cases hn:nx=ny
 ·subst hn
  by_cases hl:dx.length=dy.length
  ·obtain⟨m,hm⟩:∃ m,dx.length=m:=⟨_,rfl⟩
   rw [← hl,hm]
   have HM:=Lib.hid (And.intro hm (hl.symm.trans hm))
   rw [hm] at hsz
   have hnx:(nx != nx)=false:=by simp
   clear hl hm
   go_enter Tryz.func15,Tryz.ntmps15
   go_wp2
   go_loopw [23] (fun x wr=>∃ k:Nat,x=.int .i64 (k:Nat)∧k≤m∧dx.take k=dy.take k∧Fr [] w wr∧wr.heap[w.heap.size]?=some (.cells #[.bool nx,.slice ax m cx] 27 (0,0))∧wr.heap[w.heap.size+1]?=some (.cells #[.bool nx,.slice ay m cy] 27 (0,0))) (fun x _=>m - (intOf x).toNat)
   case atStart=>exact⟨0,rfl,by omega,rfl,by (repeat first|exact Fr.refl _ _|assumption|apply Fr.n|apply Fr.d|apply Fr.a|refine Fr.s ?_ (.inr (by simp;try omega)) _),by (repeat first|rw [if_pos (by omega)]|rw [if_neg (by omega)]|rw [hDR]|rw [hDN]|rw [hAz]|rw [hSz]|rw [hAC]|rw [hSC]|rw [oMS]|rw [uPC]|rw [lSZ]|rw [lSS]|rfl),by (repeat first|rw [if_pos (by omega)]|rw [if_neg (by omega)]|rw [hDR]|rw [hDN]|rw [hAz]|rw [hSz]|rw [hAC]|rw [hSC]|rw [oMS]|rw [uPC]|rw [lSZ]|rw [lSS]|rfl)⟩
   case round =>
    obtain⟨k,rfl,hk,ht,hf,h1,h2⟩:=hrel
    have Hf:=Lib.hid hf
    have Ht:=Lib.hid ht
    have x0:=hEC h1 0
    have x1:=hEC h1 1
    have xl:=lBk h1
    have y0:=hEC h2 0
    have y1:=hEC h2 1
    have yl:=lBk h2
    have HB:=Lib.hid (And.intro h1 h2)
    clear hf ht h1 h2
    by_cases hlt:k<m
    ·obtain⟨d,hd⟩:∃ d,dx[k]?=some d:=⟨_,List.getElem?_eq_getElem (by rw [HM.out.1];exact hlt)⟩
     obtain⟨d',hd'⟩:∃ d,dy[k]?=some d:=⟨_,List.getElem?_eq_getElem (by rw [HM.out.2];exact hlt)⟩
     obtain⟨g,off,rfl,hg,e0⟩:=big_cell (HX.out.fr Hf.out) hd
     obtain⟨g',off',rfl,hg',e1⟩:=big_cell (HY.out.fr Hf.out) hd'
     have HD:=Lib.hid (And.intro hd hd')
     clear hd hd'
     by_cases hdd:d=d'
     ·subst hdd
      have hdb:((d:Int) != (d:Int))=false:=by simp
      go_wp2
      (refine wRT (by kernel_rfl) (by kernel_rfl) ?_)
      go_wp2
      refine Strict.intro rfl ?_
      go_wp2
      go_roundw
      case rel =>
       refine⟨k+1,by go_num,by omega,?_,by have:=Hf.out;(repeat first|exact Fr.refl _ _|assumption|apply Fr.n|apply Fr.d|apply Fr.a|refine Fr.s ?_ (.inr (by simp;try omega)) _),by have:=HB.out.1;(repeat first|rw [if_pos (by omega)]|rw [if_neg (by omega)]|rw [hDR]|rw [hDN]|rw [hAz]|rw [hSz]|rw [hAC]|rw [hSC]|rw [oMS]|rw [uPC]|rw [lSZ]|rw [lSS]|rfl);exact this,by have:=HB.out.2;(repeat first|rw [if_pos (by omega)]|rw [if_neg (by omega)]|rw [hDR]|rw [hDN]|rw [hAz]|rw [hSz]|rw [hAC]|rw [hSC]|rw [oMS]|rw [uPC]|rw [lSZ]|rw [lSS]|rfl);exact this⟩
       rw [List.take_add_one,List.take_add_one,Ht.out,HD.out.1,HD.out.2]
      case measure=>simp [intOf];omega
     ·have hdb:((d:Int) != (d':Int))=true:=by simp;omega
      have HNE:=Lib.hid (show r=false by
       rw [← HR.out,decide_eq_false_iff_not]
       rintro⟨_,rfl⟩
       have:=HD.out.1.symm.trans HD.out.2
       exact hdd (Option.some.inj this))
      clear hdd
      go_wp2
      (refine wRT (by kernel_rfl) (by kernel_rfl) ?_)
      go_wp2
      refine Strict.intro rfl ?_
      go_wp2
      go_ret
      exact⟨ret_b HNE.out.symm,by have:=Hf.out;(repeat first|exact Fr.refl _ _|assumption|apply Fr.n|apply Fr.d|apply Fr.a|refine Fr.s ?_ (.inr (by simp;try omega)) _)⟩
    ·obtain rfl:k=m:=by omega
     have HEQ:=Lib.hid (show r=true by
      rw [← HR.out,decide_eq_true_eq]
      have:=Ht.out
      rw [List.take_of_length_le (by rw [HM.out.1];exact Nat.le_refl _),List.take_of_length_le (by rw [HM.out.2];exact Nat.le_refl _)] at this
      exact⟨by simp,this⟩)
     go_wp2
     go_ret
     exact⟨ret_b HEQ.out.symm,by have:=Hf.out;(repeat first|exact Fr.refl _ _|assumption|apply Fr.n|apply Fr.d|apply Fr.a|refine Fr.s ?_ (.inr (by simp;try omega)) _)⟩
  ·have hlb:((dx.length:Int) != (dy.length:Int))=true:=by simp;omega
   have hnx:(nx != nx)=false:=by simp
   have HNE:=Lib.hid (show r=false by
    rw [← HR.out,decide_eq_false_iff_not]
    rintro⟨_,rfl⟩
    exact hl rfl)
   have hlb2:(dx.length != dy.length)=true:=by simpa using hl
   go_enter Tryz.func15,Tryz.ntmps15
   go_wp2
   go_ret
   exact⟨ret_b HNE.out.symm,by (repeat first|exact Fr.refl _ _|assumption|apply Fr.n|apply Fr.d|apply Fr.a|refine Fr.s ?_ (.inr (by simp;try omega)) _)⟩
 ·have hnb:(nx != ny)=true:=by simpa using hn
  have HNE:=Lib.hid (show r=false by
   rw [← HR.out,decide_eq_false_iff_not]
   rintro⟨h,_⟩
   exact hn h)
  have hn2:nx=!ny:=by cases nx<;>cases ny<;>simp_all
  subst hn2
  clear hn hnb
  cases ny with
  | true =>
   go_enter Tryz.func15,Tryz.ntmps15
   go_wp2
   go_ret
   exact⟨ret_b HNE.out.symm,by (repeat first|exact Fr.refl _ _|assumption|apply Fr.n|apply Fr.d|apply Fr.a|refine Fr.s ?_ (.inr (by simp;try omega)) _)⟩
  | false =>
   go_enter Tryz.func15,Tryz.ntmps15
   go_wp2
   go_ret
   exact⟨ret_b HNE.out.symm,by (repeat first|exact Fr.refl _ _|assumption|apply Fr.n|apply Fr.d|apply Fr.a|refine Fr.s ?_ (.inr (by simp;try omega)) _)⟩
end Go.Proofs.YtdanghnadbkhfaaGreat
end
