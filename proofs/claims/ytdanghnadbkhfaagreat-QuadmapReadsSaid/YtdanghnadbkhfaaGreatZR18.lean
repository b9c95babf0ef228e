/- Own texts of this claim, part 19: no condition. -/
import Derived.IntWalk
import Derived.Test.YtdanghnadbkhfaaGreatZR17
import Derived.Test.YtdanghnadbkhfaaGreatZR5
section
namespace Go.Proofs.YtdanghnadbkhfaaGreat
open Go Go.RowKit Rg Mp Hp Qs Ev Bn Pt
set_option linter.unusedVariables false
set_option linter.unusedSimpArgs false
def spE (c:Spot):List Value:=[.int .u64 c.x,.int .u64 c.y,.int .i64 c.st]
def sps (l:List Spot):List Value:=l.flatMap spE
theorem sps_get:∀ {l:List Spot} {i:Nat} {c:Spot},l[i]?=some c→(sps l)[i*3]?=some (.int .u64 c.x)∧(sps l)[i*3+1]?=some (.int .u64 c.y)∧(sps l)[i*3+2]?=some (.int .i64 c.st)
 | [],i,c,h=>by simp at h
 | d::l,0,c,h=>by
  simp only [List.getElem?_cons_zero,Option.some.injEq] at h
  subst h
  exact⟨rfl,rfl,rfl⟩
 | d::l,i+1,c,h=>by
  have:=sps_get (l:=l) (i:=i) (by simpa using h)
  have e:sps (d::l)=spE d++sps l:=rfl
  rw [e]
  have f:∀ j,(spE d++sps l)[3+j]?=(sps l)[j]?:=fun j=>by rw [List.getElem?_append_right (by simp [spE])];simp [spE]
  rw [show (i+1)*3=3+i*3 by omega,show 3+i*3+1=3+(i*3+1) by omega,show 3+i*3+2=3+(i*3+2) by omega,f,f,f]
  exact this
theorem sps_snoc (l:List Spot) (c:Spot):sps l++[.int .u64 c.x,.int .u64 c.y,.int .i64 c.st]=sps (l++[c]):=by simp [sps,spE]
theorem sps_cell {w:World} {a:Option Addr} {n c:Nat} {l:List Spot} (h:Reads w (.slice a n c) l.length 3 (sps l)) {i:Nat} {p:Spot} (hi:l[i]?=some p) :
  ∃ g off,a=some ⟨g,off,none⟩∧g<w.heap.size∧w.cell? ⟨g,off+i*3,none⟩=some (.int .u64 p.x)∧w.cell? ⟨g,off+i*3+1,none⟩=some (.int .u64 p.y)∧w.cell? ⟨g,off+i*3+2,none⟩=some (.int .i64 p.st):=by
 obtain⟨_,a',c',he,h2⟩:=h
 cases he
 obtain⟨g,off,rfl,hg,hc⟩:=h2 (by have:=(List.getElem?_eq_some_iff.1 hi).1;omega)
 obtain⟨h0,h1,h2⟩:=sps_get hi
 exact⟨g,off,rfl,hg,hc _ _ h0,by have:=hc _ _ h1;rwa [← Nat.add_assoc] at this,by have:=hc _ _ h2;rwa [← Nat.add_assoc] at this⟩
def SpSrc (W:World) (Ps:List Res) (v:Value) (l:List Spot):Prop:=∀ w Qs,Has W w Qs→(∀ P∈Ps,P∈Qs)→Reads w v l.length 3 (sps l)
def rowS (v:Value) (p:List Spot):Res:=Hp.row 127 3 v p.length (sps p)
theorem SpSrc.row {W:World} {Ps:List Res} {v:Value} {p:List Spot} (h:rowS v p∈Ps):SpSrc W Ps v p:=fun w Qs hw hm=>by
 obtain⟨G,h1,_⟩:=has_mem hw (hm _ h)
 exact Reads.of_owns h1
theorem info_spot:(Tryz.prog.info? 127).map (fun i=>(i.zero,i.size,i.bytes))=some (some (.agg #[.int .u64 0,.int .u64 0,.int .i64 0]),3,24):=by kernel_rfl
theorem append_sp {ops:Array Oper} {rest:List Oper} {o:Oper} {a:Act} {W:World} {Q:Exit→Act→World→Prop} (hgd:o.guard=none) {s x:Operand} (ho:o.op=.call { callee:=.builtin .append,args:=#[s,x],argTypes:=#[123,123] })
  {base:Nat} {v:Value} {n:Nat} {xs:List Value} (hs:a.eval s=v) (hown:W.ownsRow base 127 3 v n xs) {nb c:Nat} {y:Spot} (hx:a.eval x=.slice (some ⟨nb,0,none⟩) 1 c)
  (hnb:W.heap[nb]?=some (.cells #[.int .u64 y.x,.int .u64 y.y,.int .i64 y.st] 127 (0,0))) (hn:n≤4000000000000) (hbase:base≤W.heap.size)
  (h:∀ g cap w',w'.ownsRow base 127 3 (.slice (some ⟨g,0,none⟩) (n+1) cap) (n+1) (xs++[.int .u64 y.x,.int .u64 y.y,.int .i64 y.st])→(∀ b,b<W.heap.size→v.ownBlock≠some b→w'.heap[b]?=W.heap[b]?)→Fr v.ownBlock.toList W w'→(v.ownBlock=some g∨g=W.heap.size)→g<w'.heap.size →
   wpList Tryz.prog ops Q rest (a.put o.dst (.slice (some ⟨g,0,none⟩) (n+1) cap)) w'):wpList Tryz.prog ops Q (o::rest) a W :=
 append_new hgd ho Tryz.underlying123 info_spot rfl (by decide) hs hown hx (news:=[.int .u64 y.x,.int .u64 y.y,.int .i64 y.st]) hnb rfl (by intro u hu;simp at hu;rcases hu with rfl|rfl|rfl<;>rfl) (by unfold maxLen;omega) (by omega) hbase h
def OkB (l:List Spot):Prop:=(∀ c∈l,c.x<18446744073709551616∧c.y<18446744073709551616)∧l.length≤60000
theorem OkB.part {l:List Spot} (h:OkB l) (H k:Nat):OkB (partQ H k l):=by
 refine⟨fun c hc=>?_,?_⟩
 ·simp only [partQ,List.mem_map,List.mem_filter,decide_eq_true_eq] at hc
  obtain⟨d,⟨hd,_⟩,rfl⟩:=hc
  have:=h.1 d hd
  simp only [intoQ]
  constructor<;>split<;>omega
 ·simp only [partQ,List.length_map]
  exact Nat.le_trans (List.length_filter_le _ _) h.2
def BuildAt (W:World) (b:Nat) (s:Int) (n:Nat):Prop :=
 ∀ (w:World) (Ps:List Res) (ns:List K4) (l:List Spot) (v:Value),Has W w (sTR b s ns::Ps)→SpSrc W Ps v l→OkB l →
  Calls Tryz.prog 65 #[.pointer (some ⟨b,0,none⟩),v,.int .i64 n] w fun e w'=>e=.returned (.tuple #[.int .i64 (buildQ s n ns l).1.1,.int .i64 (buildQ s n ns l).1.2])∧Has W w' (sTR b s (buildQ s n ns l).2::Ps)
theorem build_nil {W:World} {b:Nat} {s:Int} {n:Nat} {w:World} {Ps:List Res} {ns:List K4} {v:Value} (h:Has W w (sTR b s ns::Ps)) (hv:SpSrc W Ps v []) :
  Calls Tryz.prog 65 #[.pointer (some ⟨b,0,none⟩),v,.int .i64 n] w fun e w'=>e=.returned (.tuple #[.int .i64 (buildQ s n ns []).1.1,.int .i64 (buildQ s n ns []).1.2])∧Has W w' (sTR b s (buildQ s n ns []).2::Ps):=by
 obtain⟨_,a,c,rfl,_⟩:=hv w _ h (by intro P hP;simp [hP])
 have HE:=Lib.hid (Empty_has h (n:Int))
 rw [buildQ_nil]
 clear h hv
 generalize emptyQ s ns n=r at HE ⊢
 go_enter Tryz.func65,Tryz.ntmps65
 go_wp2_with fail
 refine HE.out.mono ?_
 rintro e w1 ⟨rfl,h⟩
 have H:=Lib.hid h
 clear h
 go_wp2
 go_ret2
 exact⟨rfl,H.out⟩
theorem build_leaf {W:World} {b:Nat} {s:Int} {w:World} {Ps:List Res} {ns:List K4} {c:Spot} {l:List Spot} {v:Value} (h:Has W w (sTR b s ns::Ps)) (hv:SpSrc W Ps v (c::l)) :
  Calls Tryz.prog 65 #[.pointer (some ⟨b,0,none⟩),v,.int .i64 0] w fun e w'=>e=.returned (.tuple #[.int .i64 (buildQ s 0 ns (c::l)).1.1,.int .i64 (buildQ s 0 ns (c::l)).1.2])∧Has W w' (sTR b s (buildQ s 0 ns (c::l)).2::Ps):=by
 have hr:=hv w _ h (by intro P hP;simp [hP])
 have hr':=hr
 obtain⟨_,a,cp,rfl,_⟩:=hr'
 obtain⟨g,off,rfl,hg,e0,e1,e2⟩:=sps_cell hr (i:=0) (p:=c) rfl
 simp only [Nat.zero_mul,Nat.add_zero] at e0 e1 e2
 have hlen:((((c::l).length:Nat):Int) == 0)=false:=by simp;omega
 have H:=Lib.hid h
 clear h hv hr
 obtain⟨m,hm⟩:∃ m,(c::l).length=m:=⟨_,rfl⟩
 rw [hm] at hlen ⊢
 clear hm
 go_enter Tryz.func65,Tryz.ntmps65
 have hm0:0<m:=by
  have h:=hlen
  simp at h;omega
 go_wp2
 go_ret2
 exact⟨rfl,H.out⟩
theorem part_next {l:List Spot} {i H k:Nat} {c c':Spot} (hc:l[i]?=some c) (hq:quadOf H c=k) (hi:intoQ H c=c') (j:Nat):partQ H j (l.take (i+1))=partQ H j (l.take i)++if k=j then [c'] else []:=by
 rw [List.take_add_one,hc]
 show partQ H j (l.take i++[c])=_
 rw [partQ_snoc,hq,hi]
set_option maxHeartbeats 16000000 in
theorem build_node {W:World} {b:Nat} {s:Int} {n:Nat} (hn:n+1≤256) (ih:BuildAt W b s n) {w:World} {Ps:List Res} {ns:List K4} {c0:Spot} {l0:List Spot} {v:Value} (h:Has W w (sTR b s ns::Ps)) (hv:SpSrc W Ps v (c0::l0)) (hb:OkB (c0::l0)) :
  Calls Tryz.prog 65 #[.pointer (some ⟨b,0,none⟩),v,.int .i64 (n+1:Nat)] w fun e w'=>e=.returned (.tuple #[.int .i64 (buildQ s (n+1) ns (c0::l0)).1.1,.int .i64 (buildQ s (n+1) ns (c0::l0)).1.2])∧Has W w' (sTR b s (buildQ s (n+1) ns (c0::l0)).2::Ps):=by
 have hr:=hv w _ h (by intro P hP;simp [hP])
 have hr':=hr
 obtain⟨_,a,cp,rfl,_⟩:=hr'
 have hbq:buildQ s (n+1) ns (c0::l0)=fin4 s (fun ms k=>buildQ s n ms (partQ (2 ^ n) k (c0::l0))) ns:=rfl
 rw [hbq]
 obtain⟨l,hl⟩:∃ l,(c0::l0)=l:=⟨_,rfl⟩
 have hl0:0<l.length:=by rw [← hl];simp
 rw [hl] at hv hb hr ⊢
 obtain⟨m,hm⟩:∃ m,l.length=m:=⟨_,rfl⟩
 rw [hm] at hl0 ⊢
 have hlen:(((m:Nat):Int) == 0)=false:=by simp;omega
 have hm6:m≤60000:=by rw [← hm];exact hb.2
 have HM:=Lib.hid hm
 have HV:=Lib.hid hv
 have HB:=Lib.hid hb
 have HIH:=Lib.hid ih
 have h0:Has W w (rowS (.slice none 0 0) []::rowS (.slice none 0 0) []::rowS (.slice none 0 0) []::rowS (.slice none 0 0) []::sTR b s ns::Ps) :=
  (((h.newRow (Fr.refl [] w) (owns_none _ _ _ _)).newRow (Fr.refl [] w) (owns_none _ _ _ _)).newRow (Fr.refl [] w) (owns_none _ _ _ _)).newRow (Fr.refl [] w) (owns_none _ _ _ _)
 have h1:=(hAL h0 #[.slice none 0 0,.slice none 0 0,.slice none 0 0,.slice none 0 0] 171).ord 5 [1,2,3,4,0]
 simp only [List.filterMap_cons,List.filterMap_nil,List.getElem?_cons_zero,List.getElem?_cons_succ,List.drop_succ_cons,List.drop_zero,List.cons_append,List.nil_append,List.take_succ_cons,List.take_zero,List.eraseIdx_cons_succ,List.eraseIdx_zero,List.eraseIdx_cons_zero,List.tail_cons,Option.toList_some] at h1
 obtain⟨x8,hx8⟩:∃ x,w.heap.size=x:=⟨_,rfl⟩
 rw [hx8] at h1
 have H1:=Lib.hid h1
 obtain⟨L,hL⟩:∃ L:Int,((n+1:Nat):Int)=L:=⟨_,rfl⟩
 rw [hL]
 have hL0:(L == 0)=false:=by simp;omega
 have hL1:IntKind.i64.wrap (L - 1)=(n:Nat):=by rw [show L - 1=((n:Nat):Int) by omega];exact IntWalk.i64_in _ (by omega)
 have hL2:wrap64 (L - 1)=(n:Nat):=by rw [show L - 1=((n:Nat):Int) by omega];exact w64 (by omega) (by omega)
 have hLu:IntKind.u64.wrap ((n:Nat):Int)=(n:Nat):=u64w (by omega) (by omega)
 have HL:=Lib.hid hL
 clear h0 h1 h hr hv hb hbq hl hm ih hL
 go_enter Tryz.func65,Tryz.ntmps65
 go_wp2
 go_loopw [33] (fun x wr=>∃ i:Nat,x=.int .i64 (i:Nat)∧i≤m∧∃ v0 v1 v2 v3:Value,Has W wr (rowS v0 (partQ (2 ^ n) 0 (l.take i))::rowS v1 (partQ (2 ^ n) 1 (l.take i))::rowS v2 (partQ (2 ^ n) 2 (l.take i))::rowS v3 (partQ (2 ^ n) 3 (l.take i))::Hp.blk x8 (.cells #[v0,v1,v2,v3] 171 (0,0))::sTR b s ns::Ps)) (fun x _=>m - (intOf x).toNat)
 case atStart=>exact⟨0,rfl,by omega,_,_,_,_,H1.out⟩
 case round =>
  clear H1
  obtain⟨i,rfl,hi,v0,v1,v2,v3,h⟩:=hrel
  have H:=Lib.hid h
  clear h hx8
  by_cases hlt:i<m
  ·obtain⟨⟨x,y,st⟩,hp⟩:∃ p,l[i]?=some p:=⟨_,List.getElem?_eq_getElem (by rw [HM.out];exact hlt)⟩
   obtain⟨g,off,rfl,hgl,e0,e1,e2⟩:=sps_cell (HV.out _ _ H.out (by intro P hP;simp [hP])) hp
   simp only at e0 e1 e2
   obtain⟨x10,hx10⟩:∃ x,wr.heap.size=x:=⟨_,rfl⟩
   have HX10:=Lib.hid hx10
   by_cases hle:n+1≤64
   ·have hd64:decide (L≤64)=true:=by have:=HL.out;simp;omega
    obtain⟨Hn,hHn⟩:∃ Hn:Nat,2 ^ n=Hn:=⟨_,rfl⟩
    have hp64:2 ^ n≤2 ^ 63:=Nat.pow_le_pow_right (by omega) (by omega)
    have hpz:=Nat.pow_pos (n:=n) (show 0<2 by omega)
    have hw3:IntKind.u64.wrap (Hn:Int)=Hn:=u64w (by omega) (by omega)
    have hw2:IntKind.u64.wrap (2 ^ n)=Hn:=by
     rw [show (2:Int) ^ n=((2 ^ n:Nat):Int) by simp,hHn];exact hw3
    have hbx:=(HB.out.1 ⟨x,y,st⟩ (List.mem_of_getElem? hp))
    simp only at hbx
    by_cases hx:Hn≤x
    ·have hxd:decide (Hn≤x)=true:=by simp;omega
     obtain⟨x',hx'⟩:∃ x',x - Hn=x':=⟨_,rfl⟩
     have hsx:IntKind.u64.wrap ((x:Int) - (Hn:Int))=(x':Nat):=by rw [u64w (by omega) (by omega)];omega
     by_cases hy:Hn≤y
     ·have hyd:decide (Hn≤y)=true:=by simp;omega
      obtain⟨y',hy'⟩:∃ y',y - Hn=y':=⟨_,rfl⟩
      have hsy:IntKind.u64.wrap ((y:Int) - (Hn:Int))=(y':Nat):=by rw [u64w (by omega) (by omega)];omega
      have hqk:quadOf (2 ^ n) ⟨x,y,st⟩=3:=by unfold quadOf;rw [hHn,if_pos hx,if_pos hy]
      have hin:intoQ (2 ^ n) ⟨x,y,st⟩=⟨x',y',st⟩:=by unfold intoQ;simp only [hHn,hx,hy,if_true,hx',hy']
      clear hx hy hx' hy' hbx hp64 hpz hHn
      have HPQ:=Lib.hid (part_next hp hqk hin)
      clear hqk hin hp
      go_wp2
      refine aBW (fun w'=>Has W w' (Hp.blk x10 (.cells #[.int .u64 (x':Nat),.int .u64 (y':Nat),.int .i64 st] 127 (0,0))::rowS v0 (partQ (2 ^ n) 0 (l.take i))::rowS v1 (partQ (2 ^ n) 1 (l.take i))::rowS v2 (partQ (2 ^ n) 2 (l.take i))::rowS v3 (partQ (2 ^ n) 3 (l.take i))::Hp.blk x8 (.cells #[v0,v1,v2,v3] 171 (0,0))::sTR b s ns::Ps)) ?hasw ?_
      case hasw =>
       have hA:=hAL H.out #[.int .u64 (x':Nat),.int .u64 (y':Nat),.int .i64 st] 127
       rw [HX10.out] at hA
       exact hA
      clear e0 e1 e2 hgl hx10
      intro w4 h4
      have hk:=h4.ord 7 [4,1,2,3,5,6,0]
      simp only [List.filterMap_cons,List.filterMap_nil,List.getElem?_cons_zero,List.getElem?_cons_succ,List.drop_succ_cons,List.drop_zero,List.cons_append,List.nil_append,List.take_succ_cons,List.take_zero,List.eraseIdx_cons_succ,List.eraseIdx_zero,List.eraseIdx_cons_zero,List.tail_cons,Option.toList_some] at hk
      have HO:=Lib.hid (Has.row (show Has W w4 (Hp.row 127 3 v3 (partQ (2 ^ n) 3 (l.take i)).length (sps (partQ (2 ^ n) 3 (l.take i)))::_) from hk))
      have Hk:=Lib.hid hk
      have hxb:=h4.blk
      have c0:=hEC hxb 0
      have c1:=hEC hxb 1
      have c2:=hEC hxb 2
      have cl:=lBk hxb
      have h8b:=h4.f5.blk
      have p0:=hEC h8b 3
      have pz:=hEF h8b 3
      have pl:=lBk h8b
      clear h4 hk hxb h8b
      go_wp2
      (refine wRT (by kernel_rfl) (by kernel_rfl) ?_)
      go_wp2_with (at_builtin;refine append_sp (n:=(partQ (2 ^ n) 3 (l.take i)).length) (base:=0) (xs:=sps (partQ (2 ^ n) 3 (l.take i))) (y:=⟨x',y',st⟩) rfl rfl rfl ?e10 rfl ?e20 ?e30 ?e40 ?_)
      case e10=>exact oOB HO.out fun g hg=>hAE _ _ _ (oLT HO.out hg)
      case e20=>first|(first|(rw [hAC,if_pos rfl];done)|exact (Array.getElem?_eq_some_iff.1 ((hAC _ _ _).trans (if_pos rfl))).2|(simp only [hDR,hDN];rw [hAC,if_pos rfl];done))|(refine (Array.getElem?_eq_some_iff.1 ?_).2;(repeat first|rw [if_pos (by omega)]|rw [if_neg (by omega)]|rw [hDR]|rw [hDN]|rw [hAz]|rw [hSz]|rw [hAC]|rw [hSC]|rw [oMS]|rw [uPC]|rw [lSZ]|rw [lSS]|rfl))
      case e30=>have h1:=(OkB.part (l:=l.take i) ⟨fun c hc=>HB.out.1 c (List.mem_of_mem_take hc),by have:=HB.out.2;simp;omega⟩ (2 ^ n) 3).2;omega
      case e40=>omega
      intro g2 cap w9 hown1 hW1 hF1 hloc1 hg1
      rw [sps_snoc _ ⟨x',y',st⟩] at hown1
      have h9:=hAP (n':=(partQ (2 ^ n) 3 (l.take i)++([⟨x',y',st⟩]:List Spot)).length) (Hk.out.step (by (repeat first|exact Fr.refl _ _|assumption|apply Fr.n|apply Fr.d|apply Fr.a|refine Fr.s ?_ (.inr (by simp;try omega)) _))) (by rw [List.length_append];exact hown1) rfl hF1 (by rcases hloc1 with h|h;exact .inl h;exact .inr (by rw [h];simp))
      have h8b:=h9.f4.blk
      clear c0 c1 c2 cl p0 pz pl
      have p0:=hEC h8b 3
      have pz:=hEF h8b 3
      have pl:=lBk h8b
      have H9:=Lib.hid h9
      clear h9 h8b hown1 hW1 hF1 hloc1 hg1 HO
      go_wp2
      refine Strict.intro rfl ?_
      go_wp2
      go_roundw
      case rel =>
       refine⟨i+1,by go_num,by omega,v0,v1,v2,(.slice (some ⟨g2,0,none⟩) ((partQ (2 ^ n) 3 (l.take i)).length+1) cap),?_⟩
       rw [HPQ.out 0,HPQ.out 1,HPQ.out 2,HPQ.out 3]
       simp only [if_neg (show ¬ (3:Nat)=0 by decide),if_neg (show ¬ (3:Nat)=1 by decide),if_neg (show ¬ (3:Nat)=2 by decide),if_pos (show (3:Nat)=3 from rfl),List.append_nil]
       have h:=(hST H9.out.f4 3 (.slice (some ⟨g2,0,none⟩) ((partQ (2 ^ n) 3 (l.take i)).length+1) cap)).ord 7 [2,3,4,1,0,5]
       simp only [List.filterMap_cons,List.filterMap_nil,List.getElem?_cons_zero,List.getElem?_cons_succ,List.drop_succ_cons,List.drop_zero,List.cons_append,List.nil_append,List.take_succ_cons,List.take_zero,List.eraseIdx_cons_succ,List.eraseIdx_zero,List.eraseIdx_cons_zero,List.tail_cons,Option.toList_some] at h
       exact h
      case measure=>simp [intOf];omega
     ·have hyd:decide (Hn≤y)=false:=by simp;omega
      have hqk:quadOf (2 ^ n) ⟨x,y,st⟩=1:=by unfold quadOf;rw [hHn,if_pos hx,if_neg hy]
      have hin:intoQ (2 ^ n) ⟨x,y,st⟩=⟨x',y,st⟩:=by unfold intoQ;simp only [hHn,hx,hy,if_true,if_false,hx']
      clear hx hy hx' hbx hp64 hpz hHn
      have HPQ:=Lib.hid (part_next hp hqk hin)
      clear hqk hin hp
      go_wp2
      refine aBW (fun w'=>Has W w' (Hp.blk x10 (.cells #[.int .u64 (x':Nat),.int .u64 (y:Nat),.int .i64 st] 127 (0,0))::rowS v0 (partQ (2 ^ n) 0 (l.take i))::rowS v1 (partQ (2 ^ n) 1 (l.take i))::rowS v2 (partQ (2 ^ n) 2 (l.take i))::rowS v3 (partQ (2 ^ n) 3 (l.take i))::Hp.blk x8 (.cells #[v0,v1,v2,v3] 171 (0,0))::sTR b s ns::Ps)) ?hasw ?_
      case hasw =>
       have hA:=hAL H.out #[.int .u64 (x':Nat),.int .u64 (y:Nat),.int .i64 st] 127
       rw [HX10.out] at hA
       exact hA
      clear e0 e1 e2 hgl hx10
      intro w4 h4
      have hk:=h4.ord 7 [2,1,3,4,5,6,0]
      simp only [List.filterMap_cons,List.filterMap_nil,List.getElem?_cons_zero,List.getElem?_cons_succ,List.drop_succ_cons,List.drop_zero,List.cons_append,List.nil_append,List.take_succ_cons,List.take_zero,List.eraseIdx_cons_succ,List.eraseIdx_zero,List.eraseIdx_cons_zero,List.tail_cons,Option.toList_some] at hk
      have HO:=Lib.hid (Has.row (show Has W w4 (Hp.row 127 3 v1 (partQ (2 ^ n) 1 (l.take i)).length (sps (partQ (2 ^ n) 1 (l.take i)))::_) from hk))
      have Hk:=Lib.hid hk
      have hxb:=h4.blk
      have c0:=hEC hxb 0
      have c1:=hEC hxb 1
      have c2:=hEC hxb 2
      have cl:=lBk hxb
      have h8b:=h4.f5.blk
      have p0:=hEC h8b 1
      have pz:=hEF h8b 1
      have pl:=lBk h8b
      clear h4 hk hxb h8b
      go_wp2
      (refine wRT (by kernel_rfl) (by kernel_rfl) ?_)
      go_wp2_with (at_builtin;refine append_sp (n:=(partQ (2 ^ n) 1 (l.take i)).length) (base:=0) (xs:=sps (partQ (2 ^ n) 1 (l.take i))) (y:=⟨x',y,st⟩) rfl rfl rfl ?e11 rfl ?e21 ?e31 ?e41 ?_)
      case e11=>exact oOB HO.out fun g hg=>hAE _ _ _ (oLT HO.out hg)
      case e21=>first|(first|(rw [hAC,if_pos rfl];done)|exact (Array.getElem?_eq_some_iff.1 ((hAC _ _ _).trans (if_pos rfl))).2|(simp only [hDR,hDN];rw [hAC,if_pos rfl];done))|(refine (Array.getElem?_eq_some_iff.1 ?_).2;(repeat first|rw [if_pos (by omega)]|rw [if_neg (by omega)]|rw [hDR]|rw [hDN]|rw [hAz]|rw [hSz]|rw [hAC]|rw [hSC]|rw [oMS]|rw [uPC]|rw [lSZ]|rw [lSS]|rfl))
      case e31=>have h1:=(OkB.part (l:=l.take i) ⟨fun c hc=>HB.out.1 c (List.mem_of_mem_take hc),by have:=HB.out.2;simp;omega⟩ (2 ^ n) 1).2;omega
      case e41=>omega
      intro g2 cap w9 hown1 hW1 hF1 hloc1 hg1
      rw [sps_snoc _ ⟨x',y,st⟩] at hown1
      have h9:=hAP (n':=(partQ (2 ^ n) 1 (l.take i)++([⟨x',y,st⟩]:List Spot)).length) (Hk.out.step (by (repeat first|exact Fr.refl _ _|assumption|apply Fr.n|apply Fr.d|apply Fr.a|refine Fr.s ?_ (.inr (by simp;try omega)) _))) (by rw [List.length_append];exact hown1) rfl hF1 (by rcases hloc1 with h|h;exact .inl h;exact .inr (by rw [h];simp))
      have h8b:=h9.f4.blk
      clear c0 c1 c2 cl p0 pz pl
      have p0:=hEC h8b 1
      have pz:=hEF h8b 1
      have pl:=lBk h8b
      have H9:=Lib.hid h9
      clear h9 h8b hown1 hW1 hF1 hloc1 hg1 HO
      go_wp2
      refine Strict.intro rfl ?_
      go_wp2
      go_roundw
      case rel =>
       refine⟨i+1,by go_num,by omega,v0,(.slice (some ⟨g2,0,none⟩) ((partQ (2 ^ n) 1 (l.take i)).length+1) cap),v2,v3,?_⟩
       rw [HPQ.out 0,HPQ.out 1,HPQ.out 2,HPQ.out 3]
       simp only [if_neg (show ¬ (1:Nat)=0 by decide),if_pos (show (1:Nat)=1 from rfl),if_neg (show ¬ (1:Nat)=2 by decide),if_neg (show ¬ (1:Nat)=3 by decide),List.append_nil]
       have h:=(hST H9.out.f4 1 (.slice (some ⟨g2,0,none⟩) ((partQ (2 ^ n) 1 (l.take i)).length+1) cap)).ord 7 [2,1,3,4,0,5]
       simp only [List.filterMap_cons,List.filterMap_nil,List.getElem?_cons_zero,List.getElem?_cons_succ,List.drop_succ_cons,List.drop_zero,List.cons_append,List.nil_append,List.take_succ_cons,List.take_zero,List.eraseIdx_cons_succ,List.eraseIdx_zero,List.eraseIdx_cons_zero,List.tail_cons,Option.toList_some] at h
       exact h
      case measure=>simp [intOf];omega
    ·have hxd:decide (Hn≤x)=false:=by simp;omega
     by_cases hy:Hn≤y
     ·have hyd:decide (Hn≤y)=true:=by simp;omega
      obtain⟨y',hy'⟩:∃ y',y - Hn=y':=⟨_,rfl⟩
      have hsy:IntKind.u64.wrap ((y:Int) - (Hn:Int))=(y':Nat):=by rw [u64w (by omega) (by omega)];omega
      have hqk:quadOf (2 ^ n) ⟨x,y,st⟩=2:=by unfold quadOf;rw [hHn,if_neg hx,if_pos hy]
      have hin:intoQ (2 ^ n) ⟨x,y,st⟩=⟨x,y',st⟩:=by unfold intoQ;simp only [hHn,hx,hy,if_true,if_false,hy']
      clear hx hy hy' hbx hp64 hpz hHn
      have HPQ:=Lib.hid (part_next hp hqk hin)
      clear hqk hin hp
      go_wp2
      refine aBW (fun w'=>Has W w' (Hp.blk x10 (.cells #[.int .u64 (x:Nat),.int .u64 (y':Nat),.int .i64 st] 127 (0,0))::rowS v0 (partQ (2 ^ n) 0 (l.take i))::rowS v1 (partQ (2 ^ n) 1 (l.take i))::rowS v2 (partQ (2 ^ n) 2 (l.take i))::rowS v3 (partQ (2 ^ n) 3 (l.take i))::Hp.blk x8 (.cells #[v0,v1,v2,v3] 171 (0,0))::sTR b s ns::Ps)) ?hasw ?_
      case hasw =>
       have hA:=hAL H.out #[.int .u64 (x:Nat),.int .u64 (y':Nat),.int .i64 st] 127
       rw [HX10.out] at hA
       exact hA
      clear e0 e1 e2 hgl hx10
      intro w4 h4
      have hk:=h4.ord 7 [3,1,2,4,5,6,0]
      simp only [List.filterMap_cons,List.filterMap_nil,List.getElem?_cons_zero,List.getElem?_cons_succ,List.drop_succ_cons,List.drop_zero,List.cons_append,List.nil_append,List.take_succ_cons,List.take_zero,List.eraseIdx_cons_succ,List.eraseIdx_zero,List.eraseIdx_cons_zero,List.tail_cons,Option.toList_some] at hk
      have HO:=Lib.hid (Has.row (show Has W w4 (Hp.row 127 3 v2 (partQ (2 ^ n) 2 (l.take i)).length (sps (partQ (2 ^ n) 2 (l.take i)))::_) from hk))
      have Hk:=Lib.hid hk
      have hxb:=h4.blk
      have c0:=hEC hxb 0
      have c1:=hEC hxb 1
      have c2:=hEC hxb 2
      have cl:=lBk hxb
      have h8b:=h4.f5.blk
      have p0:=hEC h8b 2
      have pz:=hEF h8b 2
      have pl:=lBk h8b
      clear h4 hk hxb h8b
      go_wp2
      (refine wRT (by kernel_rfl) (by kernel_rfl) ?_)
      go_wp2_with (at_builtin;refine append_sp (n:=(partQ (2 ^ n) 2 (l.take i)).length) (base:=0) (xs:=sps (partQ (2 ^ n) 2 (l.take i))) (y:=⟨x,y',st⟩) rfl rfl rfl ?e12 rfl ?e22 ?e32 ?e42 ?_)
      case e12=>exact oOB HO.out fun g hg=>hAE _ _ _ (oLT HO.out hg)
      case e22=>first|(first|(rw [hAC,if_pos rfl];done)|exact (Array.getElem?_eq_some_iff.1 ((hAC _ _ _).trans (if_pos rfl))).2|(simp only [hDR,hDN];rw [hAC,if_pos rfl];done))|(refine (Array.getElem?_eq_some_iff.1 ?_).2;(repeat first|rw [if_pos (by omega)]|rw [if_neg (by omega)]|rw [hDR]|rw [hDN]|rw [hAz]|rw [hSz]|rw [hAC]|rw [hSC]|rw [oMS]|rw [uPC]|rw [lSZ]|rw [lSS]|rfl))
      case e32=>have h1:=(OkB.part (l:=l.take i) ⟨fun c hc=>HB.out.1 c (List.mem_of_mem_take hc),by have:=HB.out.2;simp;omega⟩ (2 ^ n) 2).2;omega
      case e42=>omega
      intro g2 cap w9 hown1 hW1 hF1 hloc1 hg1
      rw [sps_snoc _ ⟨x,y',st⟩] at hown1
      have h9:=hAP (n':=(partQ (2 ^ n) 2 (l.take i)++([⟨x,y',st⟩]:List Spot)).length) (Hk.out.step (by (repeat first|exact Fr.refl _ _|assumption|apply Fr.n|apply Fr.d|apply Fr.a|refine Fr.s ?_ (.inr (by simp;try omega)) _))) (by rw [List.length_append];exact hown1) rfl hF1 (by rcases hloc1 with h|h;exact .inl h;exact .inr (by rw [h];simp))
      have h8b:=h9.f4.blk
      clear c0 c1 c2 cl p0 pz pl
      have p0:=hEC h8b 2
      have pz:=hEF h8b 2
      have pl:=lBk h8b
      have H9:=Lib.hid h9
      clear h9 h8b hown1 hW1 hF1 hloc1 hg1 HO
      go_wp2
      refine Strict.intro rfl ?_
      go_wp2
      go_roundw
      case rel =>
       refine⟨i+1,by go_num,by omega,v0,v1,(.slice (some ⟨g2,0,none⟩) ((partQ (2 ^ n) 2 (l.take i)).length+1) cap),v3,?_⟩
       rw [HPQ.out 0,HPQ.out 1,HPQ.out 2,HPQ.out 3]
       simp only [if_neg (show ¬ (2:Nat)=0 by decide),if_neg (show ¬ (2:Nat)=1 by decide),if_pos (show (2:Nat)=2 from rfl),if_neg (show ¬ (2:Nat)=3 by decide),List.append_nil]
       have h:=(hST H9.out.f4 2 (.slice (some ⟨g2,0,none⟩) ((partQ (2 ^ n) 2 (l.take i)).length+1) cap)).ord 7 [2,3,1,4,0,5]
       simp only [List.filterMap_cons,List.filterMap_nil,List.getElem?_cons_zero,List.getElem?_cons_succ,List.drop_succ_cons,List.drop_zero,List.cons_append,List.nil_append,List.take_succ_cons,List.take_zero,List.eraseIdx_cons_succ,List.eraseIdx_zero,List.eraseIdx_cons_zero,List.tail_cons,Option.toList_some] at h
       exact h
      case measure=>simp [intOf];omega
     ·have hyd:decide (Hn≤y)=false:=by simp;omega
      have hqk:quadOf (2 ^ n) ⟨x,y,st⟩=0:=by unfold quadOf;rw [hHn,if_neg hx,if_neg hy]
      have hin:intoQ (2 ^ n) ⟨x,y,st⟩=⟨x,y,st⟩:=by unfold intoQ;simp only [hHn,hx,hy,if_false]
      clear hx hy hbx hp64 hpz hHn
      have HPQ:=Lib.hid (part_next hp hqk hin)
      clear hqk hin hp
      go_wp2
      refine aBW (fun w'=>Has W w' (Hp.blk x10 (.cells #[.int .u64 (x:Nat),.int .u64 (y:Nat),.int .i64 st] 127 (0,0))::rowS v0 (partQ (2 ^ n) 0 (l.take i))::rowS v1 (partQ (2 ^ n) 1 (l.take i))::rowS v2 (partQ (2 ^ n) 2 (l.take i))::rowS v3 (partQ (2 ^ n) 3 (l.take i))::Hp.blk x8 (.cells #[v0,v1,v2,v3] 171 (0,0))::sTR b s ns::Ps)) ?hasw ?_
      case hasw =>
       have hA:=hAL H.out #[.int .u64 (x:Nat),.int .u64 (y:Nat),.int .i64 st] 127
       rw [HX10.out] at hA
       exact hA
      clear e0 e1 e2 hgl hx10
      intro w4 h4
      have hk:=h4.ord 7 [1,2,3,4,5,6,0]
      simp only [List.filterMap_cons,List.filterMap_nil,List.getElem?_cons_zero,List.getElem?_cons_succ,List.drop_succ_cons,List.drop_zero,List.cons_append,List.nil_append,List.take_succ_cons,List.take_zero,List.eraseIdx_cons_succ,List.eraseIdx_zero,List.eraseIdx_cons_zero,List.tail_cons,Option.toList_some] at hk
      have HO:=Lib.hid (Has.row (show Has W w4 (Hp.row 127 3 v0 (partQ (2 ^ n) 0 (l.take i)).length (sps (partQ (2 ^ n) 0 (l.take i)))::_) from hk))
      have Hk:=Lib.hid hk
      have hxb:=h4.blk
      have c0:=hEC hxb 0
      have c1:=hEC hxb 1
      have c2:=hEC hxb 2
      have cl:=lBk hxb
      have h8b:=h4.f5.blk
      have p0:=hEC h8b 0
      have pz:=hEF h8b 0
      have pl:=lBk h8b
      clear h4 hk hxb h8b
      go_wp2
      (refine wRT (by kernel_rfl) (by kernel_rfl) ?_)
      go_wp2_with (at_builtin;refine append_sp (n:=(partQ (2 ^ n) 0 (l.take i)).length) (base:=0) (xs:=sps (partQ (2 ^ n) 0 (l.take i))) (y:=⟨x,y,st⟩) rfl rfl rfl ?e13 rfl ?e23 ?e33 ?e43 ?_)
      case e13=>exact oOB HO.out fun g hg=>hAE _ _ _ (oLT HO.out hg)
      case e23=>first|(first|(rw [hAC,if_pos rfl];done)|exact (Array.getElem?_eq_some_iff.1 ((hAC _ _ _).trans (if_pos rfl))).2|(simp only [hDR,hDN];rw [hAC,if_pos rfl];done))|(refine (Array.getElem?_eq_some_iff.1 ?_).2;(repeat first|rw [if_pos (by omega)]|rw [if_neg (by omega)]|rw [hDR]|rw [hDN]|rw [hAz]|rw [hSz]|rw [hAC]|rw [hSC]|rw [oMS]|rw [uPC]|rw [lSZ]|rw [lSS]|rfl))
      case e33=>have h1:=(OkB.part (l:=l.take i) ⟨fun c hc=>HB.out.1 c (List.mem_of_mem_take hc),by have:=HB.out.2;simp;omega⟩ (2 ^ n) 0).2;omega
      case e43=>omega
      intro g2 cap w9 hown1 hW1 hF1 hloc1 hg1
      rw [sps_snoc _ ⟨x,y,st⟩] at hown1
      have h9:=hAP (n':=(partQ (2 ^ n) 0 (l.take i)++([⟨x,y,st⟩]:List Spot)).length) (Hk.out.step (by (repeat first|exact Fr.refl _ _|assumption|apply Fr.n|apply Fr.d|apply Fr.a|refine Fr.s ?_ (.inr (by simp;try omega)) _))) (by rw [List.length_append];exact hown1) rfl hF1 (by rcases hloc1 with h|h;exact .inl h;exact .inr (by rw [h];simp))
      have h8b:=h9.f4.blk
      clear c0 c1 c2 cl p0 pz pl
      have p0:=hEC h8b 0
      have pz:=hEF h8b 0
      have pl:=lBk h8b
      have H9:=Lib.hid h9
      clear h9 h8b hown1 hW1 hF1 hloc1 hg1 HO
      go_wp2
      refine Strict.intro rfl ?_
      go_wp2
      go_roundw
      case rel =>
       refine⟨i+1,by go_num,by omega,(.slice (some ⟨g2,0,none⟩) ((partQ (2 ^ n) 0 (l.take i)).length+1) cap),v1,v2,v3,?_⟩
       rw [HPQ.out 0,HPQ.out 1,HPQ.out 2,HPQ.out 3]
       simp only [if_pos (show (0:Nat)=0 from rfl),if_neg (show ¬ (0:Nat)=1 by decide),if_neg (show ¬ (0:Nat)=2 by decide),if_neg (show ¬ (0:Nat)=3 by decide),List.append_nil]
       have h:=(hST H9.out.f4 0 (.slice (some ⟨g2,0,none⟩) ((partQ (2 ^ n) 0 (l.take i)).length+1) cap)).ord 7 [1,2,3,4,0,5]
       simp only [List.filterMap_cons,List.filterMap_nil,List.getElem?_cons_zero,List.getElem?_cons_succ,List.drop_succ_cons,List.drop_zero,List.cons_append,List.nil_append,List.take_succ_cons,List.take_zero,List.eraseIdx_cons_succ,List.eraseIdx_zero,List.eraseIdx_cons_zero,List.tail_cons,Option.toList_some] at h
       exact h
      case measure=>simp [intOf];omega
   ·have hd64:decide (L≤64)=false:=by have:=HL.out;simp;omega
    have hbx:=(HB.out.1 ⟨x,y,st⟩ (List.mem_of_getElem? hp))
    simp only at hbx
    have hpw:=Nat.pow_le_pow_right (n:=2) (by omega) (show 64≤n by omega)
    have hqk:quadOf (2 ^ n) ⟨x,y,st⟩=0:=by unfold quadOf;rw [if_neg (by simp only;omega),if_neg (by simp only;omega)]
    have hin:intoQ (2 ^ n) ⟨x,y,st⟩=⟨x,y,st⟩:=by unfold intoQ;rw [if_neg (by simp only;omega),if_neg (by simp only;omega)]
    clear hbx hpw
    have HPQ:=Lib.hid (part_next hp hqk hin)
    clear hqk hin hp
    go_wp2
    refine aBW (fun w'=>Has W w' (Hp.blk x10 (.cells #[.int .u64 (x:Nat),.int .u64 (y:Nat),.int .i64 st] 127 (0,0))::rowS v0 (partQ (2 ^ n) 0 (l.take i))::rowS v1 (partQ (2 ^ n) 1 (l.take i))::rowS v2 (partQ (2 ^ n) 2 (l.take i))::rowS v3 (partQ (2 ^ n) 3 (l.take i))::Hp.blk x8 (.cells #[v0,v1,v2,v3] 171 (0,0))::sTR b s ns::Ps)) ?hasw ?_
    case hasw =>
     have hA:=hAL H.out #[.int .u64 (x:Nat),.int .u64 (y:Nat),.int .i64 st] 127
     rw [HX10.out] at hA
     exact hA
    clear e0 e1 e2 hgl hx10
    intro w4 h4
    have hk:=h4.ord 7 [1,2,3,4,5,6,0]
    simp only [List.filterMap_cons,List.filterMap_nil,List.getElem?_cons_zero,List.getElem?_cons_succ,List.drop_succ_cons,List.drop_zero,List.cons_append,List.nil_append,List.take_succ_cons,List.take_zero,List.eraseIdx_cons_succ,List.eraseIdx_zero,List.eraseIdx_cons_zero,List.tail_cons,Option.toList_some] at hk
    have HO:=Lib.hid (Has.row (show Has W w4 (Hp.row 127 3 v0 (partQ (2 ^ n) 0 (l.take i)).length (sps (partQ (2 ^ n) 0 (l.take i)))::_) from hk))
    have Hk:=Lib.hid hk
    have hxb:=h4.blk
    have c0:=hEC hxb 0
    have c1:=hEC hxb 1
    have c2:=hEC hxb 2
    have cl:=lBk hxb
    have h8b:=h4.f5.blk
    have p0:=hEC h8b 0
    have pz:=hEF h8b 0
    have pl:=lBk h8b
    clear h4 hk hxb h8b
    go_wp2
    (refine wRT (by kernel_rfl) (by kernel_rfl) ?_)
    go_wp2_with (at_builtin;refine append_sp (n:=(partQ (2 ^ n) 0 (l.take i)).length) (base:=0) (xs:=sps (partQ (2 ^ n) 0 (l.take i))) (y:=⟨x,y,st⟩) rfl rfl rfl ?e14 rfl ?e24 ?e34 ?e44 ?_)
    case e14=>exact oOB HO.out fun g hg=>hAE _ _ _ (oLT HO.out hg)
    case e24=>first|(first|(rw [hAC,if_pos rfl];done)|exact (Array.getElem?_eq_some_iff.1 ((hAC _ _ _).trans (if_pos rfl))).2|(simp only [hDR,hDN];rw [hAC,if_pos rfl];done))|(refine (Array.getElem?_eq_some_iff.1 ?_).2;(repeat first|rw [if_pos (by omega)]|rw [if_neg (by omega)]|rw [hDR]|rw [hDN]|rw [hAz]|rw [hSz]|rw [hAC]|rw [hSC]|rw [oMS]|rw [uPC]|rw [lSZ]|rw [lSS]|rfl))
    case e34=>have h1:=(OkB.part (l:=l.take i) ⟨fun c hc=>HB.out.1 c (List.mem_of_mem_take hc),by have:=HB.out.2;simp;omega⟩ (2 ^ n) 0).2;omega
    case e44=>omega
    intro g2 cap w9 hown1 hW1 hF1 hloc1 hg1
    rw [sps_snoc _ ⟨x,y,st⟩] at hown1
    have h9:=hAP (n':=(partQ (2 ^ n) 0 (l.take i)++([⟨x,y,st⟩]:List Spot)).length) (Hk.out.step (by (repeat first|exact Fr.refl _ _|assumption|apply Fr.n|apply Fr.d|apply Fr.a|refine Fr.s ?_ (.inr (by simp;try omega)) _))) (by rw [List.length_append];exact hown1) rfl hF1 (by rcases hloc1 with h|h;exact .inl h;exact .inr (by rw [h];simp))
    have h8b:=h9.f4.blk
    clear c0 c1 c2 cl p0 pz pl
    have p0:=hEC h8b 0
    have pz:=hEF h8b 0
    have pl:=lBk h8b
    have H9:=Lib.hid h9
    clear h9 h8b hown1 hW1 hF1 hloc1 hg1 HO
    go_wp2
    refine Strict.intro rfl ?_
    go_wp2
    go_roundw
    case rel =>
     refine⟨i+1,by go_num,by omega,(.slice (some ⟨g2,0,none⟩) ((partQ (2 ^ n) 0 (l.take i)).length+1) cap),v1,v2,v3,?_⟩
     rw [HPQ.out 0,HPQ.out 1,HPQ.out 2,HPQ.out 3]
     simp only [if_pos (show (0:Nat)=0 from rfl),if_neg (show ¬ (0:Nat)=1 by decide),if_neg (show ¬ (0:Nat)=2 by decide),if_neg (show ¬ (0:Nat)=3 by decide),List.append_nil]
     have h:=(hST H9.out.f4 0 (.slice (some ⟨g2,0,none⟩) ((partQ (2 ^ n) 0 (l.take i)).length+1) cap)).ord 7 [1,2,3,4,0,5]
     simp only [List.filterMap_cons,List.filterMap_nil,List.getElem?_cons_zero,List.getElem?_cons_succ,List.drop_succ_cons,List.drop_zero,List.cons_append,List.nil_append,List.take_succ_cons,List.take_zero,List.eraseIdx_cons_succ,List.eraseIdx_zero,List.eraseIdx_cons_zero,List.tail_cons,Option.toList_some] at h
     exact h
    case measure=>simp [intOf];omega
  ·obtain rfl:i=m:=by omega
   have h:=H.out
   rw [show l.take i=l by rw [← HM.out];exact List.take_length] at h
   obtain⟨ib,hib⟩:∃ ib,wr.heap.size=ib:=⟨_,rfl⟩
   have h4:=(hAL h #[.int .i64 0,.int .i64 0,.int .i64 0,.int .i64 0] 81).ord 7 [6,1,2,3,4,5,0]
   simp only [List.filterMap_cons,List.filterMap_nil,List.getElem?_cons_zero,List.getElem?_cons_succ,List.drop_succ_cons,List.drop_zero,List.cons_append,List.nil_append,List.take_succ_cons,List.take_zero,List.eraseIdx_cons_succ,List.eraseIdx_zero,List.eraseIdx_cons_zero,List.tail_cons,Option.toList_some] at h4
   rw [hib] at h4
   have H4:=Lib.hid h4
   clear h h4 H
   go_wp2
   clear hib
   go_loopw [74] (fun x wr=>∃ z:Int,x=.int .i64 z∧At5 (fun k=>∃ ids ms,kr (fun ms k=>buildQ s n ms (partQ (2 ^ n) k l)) k ns=(0,ids,ms)∧Has W wr (sTR b s ms::rowS v0 (partQ (2 ^ n) 0 l)::rowS v1 (partQ (2 ^ n) 1 l)::rowS v2 (partQ (2 ^ n) 2 l)::rowS v3 (partQ (2 ^ n) 3 l)::Hp.blk x8 (.cells #[v0,v1,v2,v3] 171 (0,0))::Hp.blk ib (.cells (iv (mixL ⟨0,0,0,0⟩ ids)).toArray 81 (0,0))::Ps)) z) (fun x _=>4 - (intOf x).toNat)
   case atStart=>exact⟨0,rfl,.inl ⟨rfl,[],ns,rfl,H4.out⟩⟩
   case round =>
    obtain⟨z,rfl,hz⟩:=hrel
    clear H4
    rcases hz with ⟨rfl,hz⟩|⟨rfl,hz⟩|⟨rfl,hz⟩|⟨rfl,hz⟩|⟨rfl,hz⟩
    ·
     obtain⟨ids,ms,hkr,h⟩:=hz
     have hl:=kr_len hkr
     obtain rfl:=List.length_eq_zero_iff.1 hl
     have Hkr:=Lib.hid hkr
     have h8b:=h.f5.blk
     have p0:=hEC h8b 0
     have pl:=lBk h8b
     obtain⟨id5,e5,ms5,hj⟩:∃ id5 e5 ms5,buildQ s n ms (partQ (2 ^ n) 0 l)=((id5,e5),ms5):=⟨_,_,_,rfl⟩
     have hcall:=HIH.out _ _ _ _ v0 h (SpSrc.row (p:=partQ (2 ^ n) 0 l) (by simp)) (HB.out.part (2 ^ n) 0)
     rw [hj] at hcall
     have HCA:=Lib.hid hcall
     clear h hkr hl h8b hcall
     go_wp2_with fail
     refine HCA.out.mono ?_
     rintro e w5 ⟨rfl,h1⟩
     clear p0 pl HCA
     have hkb:=h1.f6.blk
     have k0:_=some (Value.int .i64 0):=hEC hkb 0
     have kz:=hEF hkb 0
     have kl:=lBk hkb
     clear hkb
     by_cases he5:e5=0
     ·subst he5
      have hb5:((0:Int) != 0)=false:=rfl
      have Hkr5:=Lib.hid (kr_ok Hkr.out (show (fun ms k=>buildQ s n ms (partQ (2 ^ n) k l)) ms 0=((id5,0),ms5) from hj))
      have hs5:=(hST h1.f6 0 (.int .i64 id5)).ord 7 [1,2,3,4,5,6,0]
      simp only [List.filterMap_cons,List.filterMap_nil,List.getElem?_cons_zero,List.getElem?_cons_succ,List.drop_succ_cons,List.drop_zero,List.cons_append,List.nil_append,List.take_succ_cons,List.take_zero,List.eraseIdx_cons_succ,List.eraseIdx_zero,List.eraseIdx_cons_zero,List.tail_cons,Option.toList_some] at hs5
      have HS5:=Lib.hid hs5
      clear h1 hj hs5
      go_wp2
      go_roundw
      case rel=>exact⟨1,rfl,(.inr (.inl ⟨rfl,_,_,Hkr5.out,HS5.out⟩))⟩
      case measure=>simp [intOf]
     ·have hb5:(e5 != 0)=true:=by simpa using he5
      have HF5:=Lib.hid (fin4_bad (s:=s) (by omega) Hkr.out (show (fun ms k=>buildQ s n ms (partQ (2 ^ n) k l)) ms 0=((id5,e5),ms5) from hj) he5)
      have H5:=Lib.hid h1
      clear h1 hj he5
      go_wp2
      go_ret2
      rw [HF5.out]
      exact⟨rfl,H5.out.ord 7 [0]⟩
    ·
     obtain⟨ids,ms,hkr,h⟩:=hz
     have hl:=kr_len hkr
     obtain⟨i0,rfl⟩:=List.length_eq_one_iff.1 hl
     have Hkr:=Lib.hid hkr
     have h8b:=h.f5.blk
     have p0:=hEC h8b 1
     have pl:=lBk h8b
     obtain⟨id5,e5,ms5,hj⟩:∃ id5 e5 ms5,buildQ s n ms (partQ (2 ^ n) 1 l)=((id5,e5),ms5):=⟨_,_,_,rfl⟩
     have hcall:=HIH.out _ _ _ _ v1 h (SpSrc.row (p:=partQ (2 ^ n) 1 l) (by simp)) (HB.out.part (2 ^ n) 1)
     rw [hj] at hcall
     have HCA:=Lib.hid hcall
     clear h hkr hl h8b hcall
     go_wp2_with fail
     refine HCA.out.mono ?_
     rintro e w5 ⟨rfl,h1⟩
     clear p0 pl HCA
     have hkb:=h1.f6.blk
     have k0:_=some (Value.int .i64 0):=hEC hkb 1
     have kz:=hEF hkb 1
     have kl:=lBk hkb
     clear hkb
     by_cases he5:e5=0
     ·subst he5
      have hb5:((0:Int) != 0)=false:=rfl
      have Hkr5:=Lib.hid (kr_ok Hkr.out (show (fun ms k=>buildQ s n ms (partQ (2 ^ n) k l)) ms 1=((id5,0),ms5) from hj))
      have hs5:=(hST h1.f6 1 (.int .i64 id5)).ord 7 [1,2,3,4,5,6,0]
      simp only [List.filterMap_cons,List.filterMap_nil,List.getElem?_cons_zero,List.getElem?_cons_succ,List.drop_succ_cons,List.drop_zero,List.cons_append,List.nil_append,List.take_succ_cons,List.take_zero,List.eraseIdx_cons_succ,List.eraseIdx_zero,List.eraseIdx_cons_zero,List.tail_cons,Option.toList_some] at hs5
      have HS5:=Lib.hid hs5
      clear h1 hj hs5
      go_wp2
      go_roundw
      case rel=>exact⟨2,rfl,(.inr (.inr (.inl ⟨rfl,_,_,Hkr5.out,HS5.out⟩)))⟩
      case measure=>simp [intOf]
     ·have hb5:(e5 != 0)=true:=by simpa using he5
      have HF5:=Lib.hid (fin4_bad (s:=s) (by omega) Hkr.out (show (fun ms k=>buildQ s n ms (partQ (2 ^ n) k l)) ms 1=((id5,e5),ms5) from hj) he5)
      have H5:=Lib.hid h1
      clear h1 hj he5
      go_wp2
      go_ret2
      rw [HF5.out]
      exact⟨rfl,H5.out.ord 7 [0]⟩
    ·
     obtain⟨ids,ms,hkr,h⟩:=hz
     have hl:=kr_len hkr
     obtain⟨i0,i1,rfl⟩:=len2 hl
     have Hkr:=Lib.hid hkr
     have h8b:=h.f5.blk
     have p0:=hEC h8b 2
     have pl:=lBk h8b
     obtain⟨id5,e5,ms5,hj⟩:∃ id5 e5 ms5,buildQ s n ms (partQ (2 ^ n) 2 l)=((id5,e5),ms5):=⟨_,_,_,rfl⟩
     have hcall:=HIH.out _ _ _ _ v2 h (SpSrc.row (p:=partQ (2 ^ n) 2 l) (by simp)) (HB.out.part (2 ^ n) 2)
     rw [hj] at hcall
     have HCA:=Lib.hid hcall
     clear h hkr hl h8b hcall
     go_wp2_with fail
     refine HCA.out.mono ?_
     rintro e w5 ⟨rfl,h1⟩
     clear p0 pl HCA
     have hkb:=h1.f6.blk
     have k0:_=some (Value.int .i64 0):=hEC hkb 2
     have kz:=hEF hkb 2
     have kl:=lBk hkb
     clear hkb
     by_cases he5:e5=0
     ·subst he5
      have hb5:((0:Int) != 0)=false:=rfl
      have Hkr5:=Lib.hid (kr_ok Hkr.out (show (fun ms k=>buildQ s n ms (partQ (2 ^ n) k l)) ms 2=((id5,0),ms5) from hj))
      have hs5:=(hST h1.f6 2 (.int .i64 id5)).ord 7 [1,2,3,4,5,6,0]
      simp only [List.filterMap_cons,List.filterMap_nil,List.getElem?_cons_zero,List.getElem?_cons_succ,List.drop_succ_cons,List.drop_zero,List.cons_append,List.nil_append,List.take_succ_cons,List.take_zero,List.eraseIdx_cons_succ,List.eraseIdx_zero,List.eraseIdx_cons_zero,List.tail_cons,Option.toList_some] at hs5
      have HS5:=Lib.hid hs5
      clear h1 hj hs5
      go_wp2
      go_roundw
      case rel=>exact⟨3,rfl,(.inr (.inr (.inr (.inl ⟨rfl,_,_,Hkr5.out,HS5.out⟩))))⟩
      case measure=>simp [intOf]
     ·have hb5:(e5 != 0)=true:=by simpa using he5
      have HF5:=Lib.hid (fin4_bad (s:=s) (by omega) Hkr.out (show (fun ms k=>buildQ s n ms (partQ (2 ^ n) k l)) ms 2=((id5,e5),ms5) from hj) he5)
      have H5:=Lib.hid h1
      clear h1 hj he5
      go_wp2
      go_ret2
      rw [HF5.out]
      exact⟨rfl,H5.out.ord 7 [0]⟩
    ·
     obtain⟨ids,ms,hkr,h⟩:=hz
     have hl:=kr_len hkr
     obtain⟨i0,i1,i2,rfl⟩:=len3 hl
     have Hkr:=Lib.hid hkr
     have h8b:=h.f5.blk
     have p0:=hEC h8b 3
     have pl:=lBk h8b
     obtain⟨id5,e5,ms5,hj⟩:∃ id5 e5 ms5,buildQ s n ms (partQ (2 ^ n) 3 l)=((id5,e5),ms5):=⟨_,_,_,rfl⟩
     have hcall:=HIH.out _ _ _ _ v3 h (SpSrc.row (p:=partQ (2 ^ n) 3 l) (by simp)) (HB.out.part (2 ^ n) 3)
     rw [hj] at hcall
     have HCA:=Lib.hid hcall
     clear h hkr hl h8b hcall
     go_wp2_with fail
     refine HCA.out.mono ?_
     rintro e w5 ⟨rfl,h1⟩
     clear p0 pl HCA
     have hkb:=h1.f6.blk
     have k0:_=some (Value.int .i64 0):=hEC hkb 3
     have kz:=hEF hkb 3
     have kl:=lBk hkb
     clear hkb
     by_cases he5:e5=0
     ·subst he5
      have hb5:((0:Int) != 0)=false:=rfl
      have Hkr5:=Lib.hid (kr_ok Hkr.out (show (fun ms k=>buildQ s n ms (partQ (2 ^ n) k l)) ms 3=((id5,0),ms5) from hj))
      have hs5:=(hST h1.f6 3 (.int .i64 id5)).ord 7 [1,2,3,4,5,6,0]
      simp only [List.filterMap_cons,List.filterMap_nil,List.getElem?_cons_zero,List.getElem?_cons_succ,List.drop_succ_cons,List.drop_zero,List.cons_append,List.nil_append,List.take_succ_cons,List.take_zero,List.eraseIdx_cons_succ,List.eraseIdx_zero,List.eraseIdx_cons_zero,List.tail_cons,Option.toList_some] at hs5
      have HS5:=Lib.hid hs5
      clear h1 hj hs5
      go_wp2
      go_roundw
      case rel=>exact⟨4,rfl,(.inr (.inr (.inr (.inr ⟨rfl,_,_,Hkr5.out,HS5.out⟩))))⟩
      case measure=>simp [intOf]
     ·have hb5:(e5 != 0)=true:=by simpa using he5
      have HF5:=Lib.hid (fin4_bad (s:=s) (by omega) Hkr.out (show (fun ms k=>buildQ s n ms (partQ (2 ^ n) k l)) ms 3=((id5,e5),ms5) from hj) he5)
      have H5:=Lib.hid h1
      clear h1 hj he5
      go_wp2
      go_ret2
      rw [HF5.out]
      exact⟨rfl,H5.out.ord 7 [0]⟩
    ·obtain⟨ids,ms,hkr,h⟩:=hz
     obtain⟨i0,i1,i2,i3,rfl⟩:=len4 (kr_len hkr)
     have hkb:=h.f6.blk
     have k0:_=some (Value.int .i64 i0):=hEC hkb 0
     have k1:_=some (Value.int .i64 i1):=hEC hkb 1
     have k2:_=some (Value.int .i64 i2):=hEC hkb 2
     have k3:_=some (Value.int .i64 i3):=hEC hkb 3
     have kl:=lBk hkb
     have HF:=Lib.hid (fin4_ok (s:=s) hkr)
     have H5:=Lib.hid h
     clear h hkr hkb
     go_wp2_with fail
     refine (Join_has H5.out _ _ _ _).mono ?_
     rintro e w5 ⟨rfl,h1⟩
     have H6:=Lib.hid h1
     clear h1
     go_wp2
     go_ret2
     rw [HF.out]
     exact⟨rfl,H6.out.ord 7 [0]⟩
theorem build_q {W:World} {b:Nat} {s:Int}:∀ n:Nat,n≤256→BuildAt W b s n
 | 0,_=>fun w Ps ns l v h hv hb=>by
  cases l with
  | nil=>exact build_nil h hv
  | cons c l=>exact build_leaf h hv
 | n+1,hn=>fun w Ps ns l v h hv hb=>by
  cases l with
  | nil=>exact build_nil h hv
  | cons c l=>exact build_node hn (build_q n (by omega)) h hv hb
end Go.Proofs.YtdanghnadbkhfaaGreat
end
