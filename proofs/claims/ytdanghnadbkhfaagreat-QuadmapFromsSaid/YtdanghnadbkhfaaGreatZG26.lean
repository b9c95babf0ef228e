/- Own texts of this claim, part 27: no condition. -/
import Derived.Test.YtdanghnadbkhfaaGreatZG25
import Derived.Test.YtdanghnadbkhfaaGreatZG23
import Derived.Test.YtdanghnadbkhfaaGreatZG18
section
namespace Go.Proofs.YtdanghnadbkhfaaGreat
open Go Go.RowKit Rg Mp Hp Qs Ev Bn Pt
set_option linter.unusedVariables false
set_option linter.unusedSimpArgs false
def rdO (b rb:Nat) (x0 y0:Int) (v:Value) (ok:Bool):Obj:=.cells #[.pointer (some ⟨b,0,none⟩),.map (some rb),.int .i64 x0,.int .i64 y0,v,.bool ok] 108 (0,0)
theorem rdO_cnt (b rb:Nat) (x0 y0:Int) (v:Value) (ok:Bool):CntO b rb (rdO b rb x0 y0 v ok):=⟨_,_,rfl,rfl,rfl⟩
def rdL (b db rb:Nat) (s:Int) (ns:List K4) (mm:List (Int×BV)) (x0 y0:Int) (v:Value) (ok:Bool) (l:List PC) (Ps:List Res):List Res :=
 cntL (rdO b rb x0 y0 v ok) b db rb s ns mm (Hp.row 75 3 v l.length (pcs l)::Ps)
def RdRel (ok:Bool) (l C:List PC) (ok':Bool) (l':List PC):Prop :=
 (ok'=true→ok=true∧l'=l++C)∧(ok'=false→ok=false∨∃ c∈C,placeB c.x c.y=false)∧l'.length≤l.length+C.length
theorem RdRel.refl (ok:Bool) (l:List PC):RdRel ok l [] ok l:=⟨fun h=>⟨h,by simp⟩,fun h=>.inl h,by simp⟩
theorem RdRel.trans {a b c:Bool} {l m n C D:List PC} (h:RdRel a l C b m) (k:RdRel b m D c n):RdRel a l (C++D) c n:=by
 obtain⟨h1,h2,h3⟩:=h
 obtain⟨k1,k2,k3⟩:=k
 refine⟨fun e=>?_,fun e=>?_,by rw [List.length_append];omega⟩
 ·obtain⟨e1,rfl⟩:=k1 e
  obtain⟨e2,rfl⟩:=h1 e1
  exact⟨e2,by rw [List.append_assoc]⟩
 ·rcases k2 e with e|⟨x,hx,hp⟩
  ·rcases h2 e with e|⟨x,hx,hp⟩
   ·exact .inl e
   ·exact .inr ⟨x,by simp [hx],hp⟩
  ·exact .inr ⟨x,by simp [hx],hp⟩
theorem RdRel.off {l C:List PC}:RdRel false l C false l:=⟨fun h=>by simp at h,fun _=>.inl rfl,by omega⟩
def shC (x0 y0:Int) (L:List Spot):List PC:=L.map fun c=>⟨x0+c.x,y0+c.y,c.st⟩
def Pos (n X Y:Nat) (x y:Int) (far:Bool):Prop :=
 ((0≤x∧x<18446744073709551616)∧0≤y∧y<18446744073709551616)∧(far=true→18446744073709551616≤X∨18446744073709551616≤Y) ∧
 (far=false→x=X∧y=Y∧(n≤64→X+2 ^ n≤18446744073709551616∧Y+2 ^ n≤18446744073709551616)∧(64<n→X=0∧Y=0))
def RdPost (W:World) (b db rb:Nat) (s:Int) (ns:List K4) (x0 y0:Int) (ok:Bool) (l C:List PC) (Ps:List Res) (e:Ending) (w':World):Prop :=
 e=.returned (.tuple #[])∧∃ v' ok' l' mm',Has W w' (rdL b db rb s ns mm' x0 y0 v' ok' l' Ps)∧RdRel ok l C ok' l'
def ReadAt (W:World) (b db rb:Nat) (s:Int) (ns:List K4) (x0 y0:Int) (n:Nat):Prop :=
 ∀ (w:World) (Ps:List Res) (mm:List (Int×BV)) (v:Value) (ok:Bool) (l:List PC) (id:Int) (t:Tr) (X Y:Nat) (x y:Int) (far:Bool),Has W w (rdL b db rb s ns mm x0 y0 v ok l Ps)→Is s ns n id t→Pos n X Y x y far→l.length+popT t≤5000 →
  Calls Tryz.prog 55 #[.pointer (some ⟨db,0,none⟩),.int .i64 id,.int .u64 x,.int .u64 y,.bool far] w (RdPost W b db rb s ns x0 y0 ok l (shC x0 y0 (cellsT n t X Y)) Ps)
theorem run_field_mag (w:World) (a:Bool) (s:Value):(Instr.field 27 (.agg #[.bool a,s]) 1).run Tryz.prog w=.ok s w:=by
 simp [Instr.field,Sem.run_bind,run_underlying,Tryz.underlying27,part,go_sem,asAgg,isAgg,Tryz.underlying4,Tryz.underlying25]
theorem zd_nil {V:Nat}:zd (V:Int)=[]↔V=0:=by
 unfold zd
 rw [Int.natAbs_natCast]
 exact dg_eq_nil (by omega)
theorem append_pl {ops:Array Oper} {rest:List Oper} {o:Oper} {a:Act} {W:World} {Q:Exit→Act→World→Prop} (hgd:o.guard=none) {s x:Operand} (ho:o.op=.call { callee:=.builtin .append,args:=#[s,x],argTypes:=#[50,50] })
  {base:Nat} {v:Value} {n:Nat} {xs:List Value} (hs:a.eval s=v) (hown:W.ownsRow base 75 3 v n xs) {nb c:Nat} {y:PC} (hx:a.eval x=.slice (some ⟨nb,0,none⟩) 1 c)
  (hnb:W.heap[nb]?=some (.cells #[.int .i64 y.x,.int .i64 y.y,.int .i64 y.st] 75 (0,0))) (hn:n≤4000000000000) (hbase:base≤W.heap.size)
  (h:∀ g cap w',w'.ownsRow base 75 3 (.slice (some ⟨g,0,none⟩) (n+1) cap) (n+1) (xs++[.int .i64 y.x,.int .i64 y.y,.int .i64 y.st])→(∀ b,b<W.heap.size→v.ownBlock≠some b→w'.heap[b]?=W.heap[b]?)→Fr v.ownBlock.toList W w'→(v.ownBlock=some g∨g=W.heap.size)→g<w'.heap.size →
   wpList Tryz.prog ops Q rest (a.put o.dst (.slice (some ⟨g,0,none⟩) (n+1) cap)) w'):wpList Tryz.prog ops Q (o::rest) a W :=
 append_pc hgd ho Tryz.underlying50 hs hown hx hnb hn hbase h
set_option maxHeartbeats 16000000 in
theorem read_leaf {W:World} {b db rb:Nat} {s:Int} {ns:List K4} {x0 y0:Int} (hx0:-9223372036854775808≤x0∧x0<9223372036854775808) (hy0:-9223372036854775808≤y0∧y0<9223372036854775808):ReadAt W b db rb s ns x0 y0 0:=by
 intro w Ps mm v ok l id t X Y x y far h hi hpos hlen
 obtain⟨V,hV⟩:∃ V,popT t=V:=⟨_,rfl⟩
 have HC:=Lib.hid (fun w1 Qs (h1:Has W w1 (rdL b db rb s ns mm x0 y0 v ok l Qs))=>hV▸count_q (rdO_cnt b rb x0 y0 v ok) 0 (by omega) w1 _ mm id t h1 hi)
 have HK:=Lib.hid (fun w1 Qs (h1:Has W w1 (sTR b s ns::Qs))=>KidsLeaf_has h1 hi)
 obtain⟨_,_,ht⟩:=hi.zero (has_good h.third)
 have hfl:=run_field_mag
 have H:=Lib.hid h
 have hfull:=hi.2.2.1
 by_cases hV0:V=0
 ·have hc:cellsT 0 t X Y=[]:=cellsT_none hfull (by rw [hV,hV0])
  rw [hc]
  clear h hi hpos hc ht hfull
  have hz:zd (V:Int)=[]:=zd_nil.2 hV0
  have hb:(((zd (V:Int)).length:Int) == 0)=true:=by rw [hz];rfl
  clear hV0 hV
  go_enter Tryz.func55,Tryz.ntmps55
  go_wp2_with fail
  refine (HC.out _ _ H.out).mono ?_
  rintro e w1 ⟨a1,c1,mm1,rfl,h1,hm1⟩
  simp only [bvV]
  have hd:=h1.swap.blk
  simp only [rdO] at hd
  have d0:=hEC hd 0
  have d5:=hEC hd 5
  have dl:=lBk hd
  have H1:=Lib.hid h1
  clear h1 hd hm1
  go_wp2
  go_end0
  exact⟨rfl,v,ok,l,mm1,H1.out,RdRel.refl ok l⟩
 cases ok with
 | false =>
  clear h hi hpos ht hfull
  have hz:¬ zd (V:Int)=[]:=fun e=>hV0 (zd_nil.1 e)
  have hb:(((zd (V:Int)).length:Int) == 0)=false:=by
   have:=List.length_pos_iff.2 hz
   simp;exact hz
  clear hV0 hV
  go_enter Tryz.func55,Tryz.ntmps55
  go_wp2_with fail
  refine (HC.out _ _ H.out).mono ?_
  rintro e w1 ⟨a1,c1,mm1,rfl,h1,hm1⟩
  simp only [bvV]
  have hd:=h1.swap.blk
  simp only [rdO] at hd
  have d0:=hEC hd 0
  have d5:=hEC hd 5
  have dl:=lBk hd
  have H1:=Lib.hid h1
  clear h1 hd hm1
  go_wp2
  go_end0
  exact⟨rfl,v,false,l,mm1,H1.out,RdRel.off⟩
 | true =>
 have hc:shC x0 y0 (cellsT 0 t X Y)=[⟨x0+X,y0+Y,id⟩]:=by
  subst ht
  have:id≠0:=fun e=>hV0 (by rw [← hV,e];rfl)
  simp [cellsT,this,shC]
 rw [hc]
 obtain⟨⟨⟨p1,p2⟩,p3,p4⟩,pf,pn⟩:=hpos
 have HAX:=Lib.hid (fun w1=>at_q w1 x0 x hx0.1 hx0.2 p1 p2)
 have HAY:=Lib.hid (fun w1=>at_q w1 y0 y hy0.1 hy0.2 p3 p4)
 have HPF:=Lib.hid (And.intro pf pn)
 have HRB:=Lib.hid (And.intro hx0 hy0)
 have HLEN:=Lib.hid hlen
 clear h hi hc ht hfull pf pn p1 p2 p3 p4 hx0 hy0 hlen
 have hz:¬ zd (V:Int)=[]:=fun e=>hV0 (zd_nil.1 e)
 have hb:(((zd (V:Int)).length:Int) == 0)=false:=by
  have:=List.length_pos_iff.2 hz
  simp;exact hz
 clear hV0 hV
 go_enter Tryz.func55,Tryz.ntmps55
 go_wp2_with fail
 refine (HC.out _ _ H.out).mono ?_
 rintro e w1 ⟨a1,c1,mm1,rfl,h1,hm1⟩
 simp only [bvV]
 have hd:=h1.swap.blk
 simp only [rdO] at hd
 have d0:=hEC hd 0
 have d5:=hEC hd 5
 have dl:=lBk hd
 have H1:=Lib.hid h1
 clear h1 hd hm1
 go_wp2_with fail
 refine (HK.out _ _ H1.out.third).mono ?_
 rintro e w2 ⟨rfl,h2,_⟩
 have hd:=h2.third.blk
 simp only [rdO] at hd
 clear d0 d5 dl
 have d0:=hEC hd 0
 have d2:=hEC hd 2
 have d3:=hEC hd 3
 have d4:=hEC hd 4
 have d4z:=hEF hd 4
 have d5:=hEC hd 5
 have d5z:=hEF hd 5
 have dl:=lBk hd
 have H20:=Lib.hid h2
 have H2:=Lib.hid (h2.step ((Fr.refl [] _).alloc (.cells #[.int .i64 0,.int .i64 0,.int .i64 0,.int .i64 0] 81)))
 clear h2 hd
 go_wp2_with fail
 refine (HAX.out _).mono ?_
 rintro e w3 ⟨ax,okx,rfl,hax1,hax2,rfl⟩
 have HA1:=Lib.hid (And.intro hax1 hax2)
 clear hax1 hax2
 go_wp2_with fail
 refine (HAY.out _).mono ?_
 rintro e w4 ⟨ay,oky,rfl,hay1,hay2,rfl⟩
 have HA2:=Lib.hid (And.intro hay1 hay2)
 clear hay1 hay2
 have HC1:=Lib.hid (show RdRel true l [⟨x0+X,y0+Y,id⟩] false l↔placeB (x0+X) (y0+Y)=false by
  simp [RdRel])
 cases far with
 | true =>
  go_wp2
  go_end0
  refine⟨rfl,v,false,l,mm1,?_,HC1.out.2 ?_⟩
  ·exact ((hST H20.out.third 5 (.bool false)).ord 4 [2,0,1,3]).step ((Fr.refl [] _).alloc _)
  ·have h1:=HPF.out.1 (by simp);have h2:=HRB.out
   unfold placeB
   simp only [decide_eq_false_iff_not]
   omega
 | false =>
  have hXY:=HPF.out.2 (by simp)
  have HXY:=Lib.hid (And.intro hXY.1 hXY.2.1)
  clear hXY
  cases okx with
  | false =>
   go_wp2
   go_end0
   refine⟨rfl,v,false,l,mm1,?_,HC1.out.2 ?_⟩
   ·exact ((hST H20.out.third 5 (.bool false)).ord 4 [2,0,1,3]).step ((Fr.refl [] _).alloc _)
   ·have h1:=HA1.out.2 (by simp);have h2:=HXY.out
    unfold placeB
    simp only [decide_eq_false_iff_not]
    omega
  | true =>
   cases oky with
   | false =>
    go_wp2
    go_end0
    refine⟨rfl,v,false,l,mm1,?_,HC1.out.2 ?_⟩
    ·exact ((hST H20.out.third 5 (.bool false)).ord 4 [2,0,1,3]).step ((Fr.refl [] _).alloc _)
    ·have h1:=HA2.out.2 (by simp);have h2:=HXY.out
     unfold placeB
     simp only [decide_eq_false_iff_not]
     omega
   | true =>
    have hax:x0+(X:Int)=ax:=by have:=HA1.out.1 (by simp);have:=HXY.out;omega
    have hay:y0+(Y:Int)=ay:=by have:=HA2.out.1 (by simp);have:=HXY.out;omega
    have HE:=Lib.hid (And.intro hax hay)
    clear hax hay
    have Ho:=Lib.hid (H2.out.f3.row)
    go_wp2_with (at_builtin;refine append_pl (n:=l.length) (base:=0) (xs:=pcs l) (y:=⟨ax,ay,id⟩) rfl rfl rfl ?e1 rfl ?e2 ?e3 ?e4 ?_)
    case e1=>exact oOB Ho.out fun g hg=>hAE _ _ _ (oLT Ho.out hg)
    case e2=>refine (Array.getElem?_eq_some_iff.1 ?_).2;(repeat first|rw [if_pos (by omega)]|rw [if_neg (by omega)]|rw [hDR]|rw [hDN]|rw [hAz]|rw [hSz]|rw [hAC]|rw [hSC]|rw [oMS]|rw [uPC]|rw [lSZ]|rw [lSS]|rfl)
    case e3=>have:=HLEN.out;omega
    case e4=>omega
    intro g2 cap w9 hown1 hW1 hF1 hloc1 hg1
    rw [pcs_snoc l ⟨ax,ay,id⟩] at hown1
    have hA:=H2.out.f3.step ((Fr.refl [] _).alloc (.cells #[.int .i64 ax,.int .i64 ay,.int .i64 id] 75))
    have h9:=hAP (n':=(l++[⟨ax,ay,id⟩]:List PC).length) hA (by rw [show (l++[⟨ax,ay,id⟩]:List PC).length=l.length+1 by simp];exact hown1) rfl hF1 (by rcases hloc1 with h|h;exact .inl h;exact .inr (by rw [h];simp))
    have hd:=h9.f3.blk
    clear d0 d2 d3 d4 d4z d5 d5z dl
    have d4:=hEC hd 4
    have d4z:=hEF hd 4
    have dl:=lBk hd
    have H9:=Lib.hid h9
    clear hown1 hW1 hF1 hloc1 hg1 hA h9 hd
    go_wp2
    go_end0
    refine⟨rfl,.slice (some ⟨g2,0,none⟩) (l.length+1) cap,true,l++[⟨ax,ay,id⟩],mm1,?_,fun _=>⟨rfl,by rw [HE.out.1,HE.out.2]⟩,fun h=>by simp at h,by simp⟩
    have h5:=(hST H9.out.f3 4 (.slice (some ⟨g2,0,none⟩) (l.length+1) cap)).ord 4 [3,0,2,1]
    simp only [List.filterMap_cons,List.filterMap_nil,List.getElem?_cons_zero,List.getElem?_cons_succ,List.drop_succ_cons,List.drop_zero,List.cons_append,List.nil_append] at h5
    exact h5
end Go.Proofs.YtdanghnadbkhfaaGreat
end
