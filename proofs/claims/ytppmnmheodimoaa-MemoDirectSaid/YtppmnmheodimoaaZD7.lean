/- Own texts of this claim, part 8: no condition. -/
import Derived.Test.YtppmnmheodimoaaZD4
import Derived.Test.YtppmnmheodimoaaZD6
import Derived.Test.YtppmnmheodimoaaZD2
import Derived.Test.YtppmnmheodimoaaZD5
import Derived.Test.YtppmnmheodimoaaZD3
set_option linter.unusedVariables false
set_option linter.unusedSimpArgs false
section
namespace Go.Proofs.Ytppmnmheodimoaa
open Go Go.RowKit Rg Mp Hp Qs Ev
theorem RLevelIs {w:World} {b:Nat} {s:Int} {ns:List K4} {F:List Nat} (hS:RefAt w b s ns F) {n:Nat} {id:Int} {t:Tr} (hi:Is s ns n id t) :
  Calls Try.prog 42 #[.pointer (some ⟨b,0,none⟩),.int .i64 id] w fun e w'=>e=.returned (.int .i64 n)∧Fr [] w w':=by
 have:=RLevel_calls hS id
 rwa [hi.lvl hS.1] at this
theorem RKidsIs {w:World} {b:Nat} {s:Int} {ns:List K4} {F:List Nat} (hS:RefAt w b s ns F) {n:Nat} {id:Int} {t:Tr} (hi:Is s ns (n+1) id t) :
  Calls Try.prog 51 #[.pointer (some ⟨b,0,none⟩),.int .i64 id] w fun e w'=>e=.returned (.tuple #[.agg #[.int .i64 (nodeOf s ns id).a,.int .i64 (nodeOf s ns id).b,.int .i64 (nodeOf s ns id).c,.int .i64 (nodeOf s ns id).d],.bool true])∧Fr [] w w':=by
 obtain⟨h1,h2,_⟩:=hi.node hS.1
 have e:kidsOf s ns id=(nodeOf s ns id,true):=by
  unfold kidsOf
  rw [if_neg (by omega),h2]
 have:=RKids_calls hS id
 rwa [e] at this
def At3 (P:Nat→Prop) (z:Int):Prop:=z=0∧P 0∨z=1∧P 1∨z=2∧P 2
def CellsAt (s:Int) (ns:List K4) (b:Nat) (n:Nat):Prop:=∀ (w:World) (F:List Nat) (id:Int) (t:Tr),RefAt w b s ns F→Is s ns n id t →
 Calls Try.prog 24 #[.pointer (some ⟨b,0,none⟩),.int .i64 id] w fun e w'=>∃ a c,e=.returned (.slice a (2 ^ n) c)∧Gath w' w.heap.size (ge w.heap.size) (.slice a (2 ^ n) c) (cellsL n t)∧Fr [] w w'
theorem cells_zero {s:Int} {ns:List K4} {b:Nat}:CellsAt s ns b 0:=by
 intro w F id t hS hi
 obtain⟨_,_,rfl⟩:=hi.zero hS.1
 have HL:=Lib.hid (RLevelIs hS hi)
 clear hS hi
 go_enter Try.func24,Try.ntmps24
 go_wp2_with fail
 refine HL.out.mono ?_
 rintro e w1 ⟨rfl,hf⟩
 have Hf:=Lib.hid hf
 clear hf
 go_wp2
 go_ret
 refine⟨_,_,rfl,?_,by have:=Hf.out;(repeat first|exact Fr.refl _ _|assumption|apply Fr.n|apply Fr.d|apply Fr.a|refine Fr.s ?_ (.inr (by simp;try omega)) _)⟩
 have hs:=Hf.out.size
 refine⟨[.slice (some ⟨w1.heap.size,0,none⟩) 1 1],owns_mk (g:=w1.heap.size+1) (cur:=#[.slice (some ⟨w1.heap.size,0,none⟩) 1 1]) (by (repeat first|rw [if_pos (by omega)]|rw [if_neg (by omega)]|rw [hDR]|rw [hDN]|rw [hAz]|rw [hSz]|rw [hAC]|rw [hSC]|rw [oMS]|rw [uPC]|rw [lSZ]|rw [lSS]|rfl)) (by omega) (by omega) (by decide) rfl rfl,fun i r hi=>?_⟩
 cases i with
 | succ i=>simp [cellsL_zero] at hi
 | zero =>
  rw [cellsL_zero] at hi
  obtain rfl:=Option.some.inj hi
  refine⟨_,rfl,reads_blk (t:=3) (fr:=(0,0)) (cs:=[.int .i64 id]) (by (repeat first|rw [if_pos (by omega)]|rw [if_neg (by omega)]|rw [hDR]|rw [hDN]|rw [hAz]|rw [hSz]|rw [hAC]|rw [hSC]|rw [oMS]|rw [uPC]|rw [lSZ]|rw [lSS]|rfl)) rfl,Nat.le_refl 1,fun g hg=>?_⟩
  have hg:w1.heap.size=g:=by simpa [Value.ownBlock] using hg
  subst hg
  refine⟨by simp [hAz];omega,hs,fun e=>?_⟩
  simp [Value.ownBlock,hAz] at e
set_option maxHeartbeats 8000000 in
set_option maxRecDepth 100000 in
theorem cells_succ {s:Int} {ns:List K4} {b n:Nat} (hn:n≤10) (ih:CellsAt s ns b n):CellsAt s ns b (n+1):=by
 intro w F id t hS hi
 obtain⟨_,_,hk⟩:=hi.node hS.1
 obtain⟨ta,tb,tc,td,rfl⟩:∃ ta tb tc td,t=.node ta tb tc td:=by
  have h:=hi.2.2.1
  cases t with
  | leaf v=>exact absurd h (by simp [Full])
  | node a b c d=>exact⟨a,b,c,d,rfl⟩
 have HL:=Lib.hid (RLevelIs hS hi)
 have HK:=Lib.hid (fun w1 (hf:Fr [] w w1)=>RKidsIs (hS.fr hf (by simp)) hi)
 have hC:=fun q (hq:q<4) w1 (hf:Fr [] w w1)=>ih w1 F _ _ (hS.fr hf (by simp)) (hk q hq)
 obtain⟨ka,kb,kc,kd,hkk⟩:∃ ka kb kc kd,nodeOf s ns id=⟨ka,kb,kc,kd⟩:=⟨_,_,_,_,rfl⟩
 rw [hkk] at HK hC
 have hrow:∀ (P:Nat→Nat→Prop),P (2 ^ n) (2 ^ (n+1))→∃ m m2,2 ^ n=m∧2 ^ (n+1)=m2∧P m m2:=fun P h=>⟨_,_,rfl,rfl,h⟩
 have hm1:2 ^ n≤1024:=Nat.pow_le_pow_right (by omega) hn
 have hm0:1≤2 ^ n:=Nat.one_le_two_pow
 have HN:=Lib.hid (fun y (h:y<2 ^ n)=>row_north (a:=ta) (b:=tb) (c:=tc) (d:=td) h)
 have HSo:=Lib.hid (fun y (h:y<2 ^ n)=>row_south (a:=ta) (b:=tb) (c:=tc) (d:=td) h)
 have hget:=fun (t:Tr) y (h:y<2 ^ n)=>cellsL_get (n:=n) (t:=t) h
 have H2:=Lib.hid (show 2 ^ (n+1)=2*2 ^ n by omega)
 have HGET:=Lib.hid hget
 have hc0:∀ w1,Fr [] w w1→_:=hC 0 (by omega)
 have hc1:∀ w1,Fr [] w w1→_:=hC 1 (by omega)
 have hc2:∀ w1,Fr [] w w1→_:=hC 2 (by omega)
 have hc3:∀ w1,Fr [] w w1→_:=hC 3 (by omega)
 simp only [K4.get,Tr.q] at hc0 hc1 hc2 hc3
 have HC0:=Lib.hid hc0
 have HC1:=Lib.hid hc1
 have HC2:=Lib.hid hc2
 have HC3:=Lib.hid hc3
 have HRES:=Lib.hid (show cellsL (n+1) (.node ta tb tc td)=rowsL (2 ^ (n+1)) (2 ^ (n+1)) (cell (n+1) (.node ta tb tc td)) 0 0 from rfl)
 clear hS hi hk hkk hget hrow hC hc0 hc1 hc2 hc3 ih
 generalize hm:2 ^ n=m at *
 generalize hm2:2 ^ (n+1)=m2 at *
 clear hm hm2
 go_enter Try.func24,Try.ntmps24
 go_wp2_with fail
 refine HL.out.mono ?_
 rintro e w1 ⟨rfl,hf⟩
 have Hf:=Lib.hid hf
 clear hf
 have hz:(((n+1:Nat):Int) == 0)=false:=by simp;omega
 go_wp2_with fail
 refine (HK.out _ (by have:=Hf.out;(repeat first|exact Fr.refl _ _|assumption|apply Fr.n|apply Fr.d|apply Fr.a|refine Fr.s ?_ (.inr (by simp;try omega)) _))).mono ?_
 rintro e w2 ⟨rfl,hf⟩
 have Hf:=Lib.hid (Hf.out.trans0 (Fr.trans0 (by (repeat first|exact Fr.refl _ _|assumption|apply Fr.n|apply Fr.d|apply Fr.a|refine Fr.s ?_ (.inr (by simp;try omega)) _)) hf))
 clear hf hz
 go_wp2
 obtain⟨w3,hw3⟩:∃ w3,w2.alloc (Obj.cells #[Value.int IntKind.i64 ka,Value.int IntKind.i64 kb,Value.int IntKind.i64 kc,Value.int IntKind.i64 kd] 75 (0,0))=w3:=⟨_,rfl⟩
 have hk3:w3.heap[w2.heap.size]?=some (.cells #[Value.int IntKind.i64 ka,Value.int IntKind.i64 kb,Value.int IntKind.i64 kc,Value.int IntKind.i64 kd] 75 (0,0)):=by rw [← hw3];(repeat first|rw [if_pos (by omega)]|rw [if_neg (by omega)]|rw [hDR]|rw [hDN]|rw [hAz]|rw [hSz]|rw [hAC]|rw [hSC]|rw [oMS]|rw [uPC]|rw [lSZ]|rw [lSS]|rfl)
 have Hf:=Lib.hid (show Fr [] w w3 by rw [← hw3];have:=Hf.out;(repeat first|exact Fr.refl _ _|assumption|apply Fr.n|apply Fr.d|apply Fr.a|refine Fr.s ?_ (.inr (by simp;try omega)) _))
 rw [hw3]
 obtain⟨kb9,hkb9⟩:∃ k,w2.heap.size=k:=⟨_,rfl⟩
 rw [hkb9] at hk3 ⊢
 have Hk:=Lib.hid hk3
 clear hw3 hkb9 hk3
 go_loopw [8,9] (fun x8 x9 wr=>∃ z:Int,x9=.int .i64 z∧At3 (fun q=>Hid (Gath wr w3.heap.size (ge w3.heap.size) x8 (rowsL (q*m) m2 (cell (n+1) (.node ta tb tc td)) 0 0))) z∧Hid (Fr [] w3 wr)) (fun _ x _=>2 - (intOf x).toNat)
 case atStart=>exact⟨0,rfl,.inl ⟨rfl,Lib.hid (by rw [Nat.zero_mul];exact Gath.nil _ _ _)⟩,Lib.hid (Fr.refl _ _)⟩
 case round =>
  obtain⟨z,rfl,hz,Hf3⟩:=hrel
  have hfk:=Hf3.out
  (try clear k0)
  (try clear k1)
  (try clear k2)
  (try clear k3)
  (try clear kl)
  have hk_:=(hfk.block _ (lBk Hk.out) (by simp)).trans Hk.out
  clear Hk
  have k0:=hEC hk_ 0
  have k1:=hEC hk_ 1
  have k2:=hEC hk_ 2
  have k3:=hEC hk_ 3
  have kl:=lBk hk_
  have Hk:=Lib.hid hk_
  clear hk_
  clear hfk
  rcases hz with ⟨rfl,HG⟩|⟨rfl,HG⟩|⟨rfl,HG⟩
  ·
   obtain⟨j0,hj0⟩:∃ k,0*m=k:=⟨_,rfl⟩
   have hk1:j0≤m:=by rw [← hj0];omega
   have HG:=Lib.hid (hj0▸HG.out)
   have HK0:=Lib.hid hj0
   clear hj0
   obtain⟨z9,hz9⟩:∃ z,wr.heap.size=z:=⟨_,rfl⟩
   have HG0:=Lib.hid (show ∀ g,u8.ownBlock=some g→g<z9 from fun g hg=>hz9▸HG.out.blk hg)
   have HZ9:=Lib.hid hz9
   clear hz9
   go_wp2
   refine wRS [([0,1,2,3,4,6,7,8,9,10,11,5],[11]),([12,13,14],[])] (by kernel_rfl) (by kernel_rfl) ?_
   (simp only [wpSegs,pick,Array.getD_eq_getD_getElem?,List.getElem?_toArray,List.getElem?_cons_succ,List.getElem?_cons_zero,Option.getD_some])
   go_wp2_with fail
   refine (HC0.out _ (Fr.trans0 Hf.out (by have:=Hf3.out;(repeat first|exact Fr.refl _ _|assumption|apply Fr.n|apply Fr.d|apply Fr.a|refine Fr.s ?_ (.inr (by simp;try omega)) _)))).mono ?_
   rintro e w4 ⟨xa,xc,rfl,hx,hf⟩
   have hfk:Fr [] w3 w4:=Fr.trans0 (by have:=Hf3.out;(repeat first|exact Fr.refl _ _|assumption|apply Fr.n|apply Fr.d|apply Fr.a|refine Fr.s ?_ (.inr (by simp;try omega)) _)) hf
   (try clear k0)
   (try clear k1)
   (try clear k2)
   (try clear k3)
   (try clear kl)
   have hk_:=(hf.block _ (lBk Hk.out) (by simp)).trans Hk.out
   clear Hk
   have k0:=hEC hk_ 0
   have k1:=hEC hk_ 1
   have k2:=hEC hk_ 2
   have k3:=hEC hk_ 3
   have kl:=lBk hk_
   have Hk:=Lib.hid hk_
   clear hk_
   have Hf3:=Lib.hid hfk
   have HG:=Lib.hid (HG.out.fr (Fr.trans0 (by (repeat first|exact Fr.refl _ _|assumption|apply Fr.n|apply Fr.d|apply Fr.a|refine Fr.s ?_ (.inr (by simp;try omega)) _)) hf))
   have HX:=Lib.hid (hx.low (base':=z9) (P':=ge z9) (by have:=HZ9.out;(first|omega|(simp only [hDR,hDN,hAz];omega)|(simp;omega))) (fun g hg=>Nat.le_trans (by have:=HZ9.out;(first|omega|(simp only [hDR,hDN,hAz];omega)|(simp;omega))) hg))
   have H49:=Lib.hid (show z9≤w4.heap.size by have:=hf.size;have:=HZ9.out;simp at *;omega)
   clear hfk hx hf HZ9
   go_wp2
   refine Mid.intro ⟨⟨again_cell (T:=3) rfl rfl rfl Try.underlying3 rfl k1 rfl,trivial⟩,?_⟩
   go_wp2_with fail
   refine (HC1.out _ (Fr.trans0 Hf.out (by have:=Hf3.out;(repeat first|exact Fr.refl _ _|assumption|apply Fr.n|apply Fr.d|apply Fr.a|refine Fr.s ?_ (.inr (by simp;try omega)) _)))).mono ?_
   rintro e w5 ⟨ya,yc,rfl,hy,hf⟩
   have hfk:Fr [] w3 w5:=Fr.trans0 (by have:=Hf3.out;(repeat first|exact Fr.refl _ _|assumption|apply Fr.n|apply Fr.d|apply Fr.a|refine Fr.s ?_ (.inr (by simp;try omega)) _)) hf
   (try clear k0)
   (try clear k1)
   (try clear k2)
   (try clear k3)
   (try clear kl)
   have hk_:=(hf.block _ (lBk Hk.out) (by simp)).trans Hk.out
   clear Hk
   have k0:=hEC hk_ 0
   have k1:=hEC hk_ 1
   have k2:=hEC hk_ 2
   have k3:=hEC hk_ 3
   have kl:=lBk hk_
   have Hk:=Lib.hid hk_
   clear hk_
   have Hf3:=Lib.hid hfk
   have HG:=Lib.hid (HG.out.fr (Fr.trans0 (by (repeat first|exact Fr.refl _ _|assumption|apply Fr.n|apply Fr.d|apply Fr.a|refine Fr.s ?_ (.inr (by simp;try omega)) _)) hf))
   have HX:=Lib.hid (HX.out.fr (Fr.trans0 (by (repeat first|exact Fr.refl _ _|assumption|apply Fr.n|apply Fr.d|apply Fr.a|refine Fr.s ?_ (.inr (by simp;try omega)) _)) hf))
   have HY:=Lib.hid (hy.low (base':=z9) (P':=ge z9) (by have:=H49.out;(first|omega|(simp only [hDR,hDN,hAz];omega)|(simp;omega))) (fun g hg=>Nat.le_trans (by have:=H49.out;(first|omega|(simp only [hDR,hDN,hAz];omega)|(simp;omega))) hg))
   clear hfk hy hf H49
   go_wp2
   refine Mid.intro ⟨trivial,Strict.intro rfl ?_⟩
   obtain⟨G8,hG8⟩:∃ G,G=u8.ownBlock.toList:=⟨_,rfl⟩
   have HB5:=Lib.hid (show ∀ x∈G8,x<z9∧¬ ge z9 x by
    subst hG8
    intro x hx
    have h:=HG0.out x (show u8.ownBlock=some x by simpa using hx)
    exact⟨h,fun hg=>absurd h (Nat.not_lt.2 hg)⟩)
   have HGG:=Lib.hid (show ∀ x∈G8,x∈([]:List Nat)∨w3.heap.size≤x by
    subst hG8
    intro x hx
    obtain⟨vs,ho,_⟩:=HG.out
    exact .inr (owns_ge ho (show u8.ownBlock=some x by simpa using hx)))
   have HU8:=Lib.hid (show ∀ g,u8.ownBlock=some g→g∈G8∨w5.heap.size≤g from fun g hg=>.inl (by rw [hG8,hg];simp))
   clear hG8 HG0
   go_wp2
   go_loopw [8,12] (fun x8 x12 wr=>∃ y:Nat,x12=.int .i64 y∧y≤m∧Hid (Gath wr w3.heap.size (ge w3.heap.size) x8 (rowsL (j0+y) m2 (cell (n+1) (.node ta tb tc td)) 0 0))∧Hid (Fr G8 w5 wr)∧Hid (∀ g,x8.ownBlock=some g→g∈G8∨w5.heap.size≤g)) (fun _ x _=>m - (intOf x).toNat)
   case atStart=>exact⟨0,rfl,by omega,by rw [Nat.add_zero];exact HG,Lib.hid (Fr.refl _ _),HU8⟩
   case round =>
    clear HG HU8
    obtain⟨y,rfl,hy,HG,Hf5,HU8⟩:=hrel
    by_cases hlt:y<m
    ·have hix:=row_one (HX.out.frG Hf5.out HB5.out).rows (HGET.out ta y hlt) (by rw [rowL_length];omega)
     have hiy:=row_one (HY.out.frG Hf5.out HB5.out).rows (HGET.out tb y hlt) (by rw [rowL_length];omega)
     rw [rowL_length] at hix hiy
     obtain⟨gx,ox,g2x,o2x,rcx,rfl,lx,cx,hxi,lx2⟩:=hix
     obtain⟨gy,oy,g2y,o2y,rcy,rfl,ly,cy,hyi,ly2⟩:=hiy
     have HXI:=Lib.hid hxi
     have HYI:=Lib.hid hyi
     clear hxi hyi
     have hwr:wr.heap.size=wr.heap.size:=rfl
     go_wp2_with (at_builtin;refine append_reads (base:=wr.heap.size) (e:=3) (z:=.int .i64 0) (size:=1) (bytes:=8) (n:=0) (xs:=[]) (news:=iv (rowL m (cell n ta) 0 y)) rfl rfl Try.underlying71 (by kernel_rfl) rfl (by decide) rfl (World.ownsRow_nil _ _ _ _) rfl ?e10 (fun h=>by cases h) (iv_one _) ?e20 ?e30 ?e40 ?_)
     case e10=>have:=HXI.out.fr (by (repeat first|exact Fr.refl _ _|assumption|apply Fr.n|apply Fr.d|apply Fr.a|refine Fr.s ?_ (.inr (by simp;try omega)) _):Fr [] wr _);unfold IntsAt at this;rwa [rowL_length] at this
     case e20=>exact Nat.le_trans (by omega:_≤1024) (by decide)
     case e30=>omega
     intro rv6 w6 hown6 hF6 hb6
     try simp only [Nat.zero_add,List.nil_append] at hown6
     have hf6:Fr [] wr w6:=Fr.trans0 (by (repeat first|exact Fr.refl _ _|assumption|apply Fr.n|apply Fr.d|apply Fr.a|refine Fr.s ?_ (.inr (by simp;try omega)) _)) hF6
     have HO6:=Lib.hid hown6
     have HF6:=Lib.hid hf6
     have l6:=hf6.size
     clear hown6 hF6 hb6 cx hwr
     have cy6:=(hf6.cell (p:=⟨gy,oy+y,none⟩) ly (by simp)).trans cy
     have ly6:gy<w6.heap.size:=by omega
     clear hf6 cy ly
     go_wp2_with (at_builtin;refine append_reads (base:=wr.heap.size) (e:=3) (z:=.int .i64 0) (size:=1) (bytes:=8) (n:=m) (xs:=iv (rowL m (cell n ta) 0 y)) (news:=iv (rowL m (cell n tb) 0 y)) rfl rfl Try.underlying71 (by kernel_rfl) rfl (by decide) rfl ?f10 rfl ?f20 (fun h=>by cases h) (iv_one _) ?f30 ?f40 ?f50 ?_)
     case f10=>exact HO6.out
     case f20=>have:=HYI.out.fr HF6.out;unfold IntsAt at this;rwa [rowL_length] at this
     case f30=>exact Nat.le_trans (by omega:_≤2048) (by decide)
     case f40=>omega
     case f50=>omega
     intro rv7 w7 hown7 hF7 hb7
     have hf7:Fr [] wr w7:=HF6.out.trans hF7 fun x hx=>.inr (owns_ge HO6.out (by simpa using hx))
     rw [iv_append,HN.out y hlt,show m+m=m2 by have:=H2.out;omega] at hown7
     obtain⟨ra7,rc7,rfl,_,_⟩:=oFM hown7
     have HO7:=Lib.hid hown7
     have HF7:=Lib.hid hf7
     have HG7:=Lib.hid (HG.out.fr hf7)
     have HGB:=HG
     have HB7:=Lib.hid (fun g (hg:Value.ownBlock (.slice ra7 _ rc7)=some g)=>show g<w7.heap.size∧w3.heap.size≤g∧u8.ownBlock≠some g from ⟨oLT hown7 hg,(by have h1:=owns_ge hown7 hg;have h3:=Hf3.out.size;have h5:=Hf5.out.size;omega),fun e=>by have:=HG.out.blk e;have:=owns_ge hown7 hg;omega⟩)
     have l7:=hf7.size
     clear hown7 hF7 hf7 hb7 HO6 HF6 cy6 ly6 HXI HYI
     go_wp2_with (at_builtin;refine append_row (base:=w3.heap.size) (P:=ge w3.heap.size) (u:=.slice ra7 m2 rc7) (L:=rowsL (j0+y) m2 (cell (n+1) (.node ta tb tc td)) 0 0) (r:=rowL m2 (cell (n+1) (.node ta tb tc td)) 0 ((y:Nat):Int)) rfl rfl rfl rfl ?g10 ?g20 ?g30 ?gf0 ?g40 ?g50 ?g60 ?_)
     case g10=>exact HG7.out.fr (by (repeat first|exact Fr.refl _ _|assumption|apply Fr.n|apply Fr.d|apply Fr.a|refine Fr.s ?_ (.inr (by simp;try omega)) _))
     case g20=>(repeat first|rw [if_pos (by omega)]|rw [if_neg (by omega)]|rw [hDR]|rw [hDN]|rw [hAz]|rw [hSz]|rw [hAC]|rw [hSC]|rw [oMS]|rw [uPC]|rw [lSZ]|rw [lSS]|rfl)
     case g30=>refine IntsAt.fr (ints_of_owns (base:=wr.heap.size) ?_) (by (repeat first|exact Fr.refl _ _|assumption|apply Fr.n|apply Fr.d|apply Fr.a|refine Fr.s ?_ (.inr (by simp;try omega)) _):Fr [] w7 _);rw [rowL_length];exact HO7.out
     case gf0=>exact owns_fits HO7.out
     case g40=>intro g hg;have:=HB7.out g hg;exact⟨by rw [hAz];omega,this.2⟩
     case g50=>rw [rowsL_length];omega
     case g60=>have h3:=Hf3.out.size;have h5:=Hf5.out.size;rw [hAz];omega
     intro v8 w8 hg8 hF8 hloc8
     have hfr:Fr G8 w5 w8:=Fr.trans (Hf5.out.trans (Fr.trans0 HF7.out (by (repeat first|exact Fr.refl _ _|assumption|apply Fr.n|apply Fr.d|apply Fr.a|refine Fr.s ?_ (.inr (by simp;try omega)) _))) (by simp)) hF8 fun x hx=>HU8.out x (by simpa using hx)
     have HU9:=Lib.hid (show ∀ g,v8.ownBlock=some g→g∈G8∨w5.heap.size≤g from fun g hg=>by
      rcases hloc8 with h|h
      ·exact HU8.out g (by rw [← h];exact hg)
      ·rw [h] at hg
       have hg:_=g:=Option.some.inj hg
       have h5:=Hf5.out.size
       exact .inr (by omega))
     have HF8:=Lib.hid hfr
     have HG8:=Lib.hid (show Gath w8 w3.heap.size (ge w3.heap.size) v8 (rowsL (j0+(y+1)) m2 (cell (n+1) (.node ta tb tc td)) 0 0) by
      rw [show j0+(y+1)=j0+y+1 by omega,← rowsL_snoc,show (0:Int)+((j0+y:Nat):Int)=((y:Nat):Int) by have:=HK0.out;first|omega|(push_cast;omega)]
      exact hg8)
     clear hg8 hF8 hfr hloc8
     go_wp2
     go_roundw
     case rel=>exact⟨y+1,by go_num,by omega,HG8,HF8,HU9⟩
     case measure=>simp [intOf];omega
    ·obtain rfl:m=y:=by omega
     go_wp2
     go_roundw
     case rel=>exact⟨0+1,by go_num,by
      have hj0:=HK0.out
      exact (.inr (.inl ⟨rfl,Lib.hid (by have h:=HG.out;rwa [show j0+m=1*m by omega] at h)⟩)),Lib.hid (Hf3.out.trans Hf5.out HGG.out)⟩
     case measure=>simp [intOf]
  ·
   obtain⟨j0,hj0⟩:∃ k,1*m=k:=⟨_,rfl⟩
   have hk1:j0≤m:=by rw [← hj0];omega
   have HG:=Lib.hid (hj0▸HG.out)
   have HK0:=Lib.hid hj0
   clear hj0
   obtain⟨z9,hz9⟩:∃ z,wr.heap.size=z:=⟨_,rfl⟩
   have HG0:=Lib.hid (show ∀ g,u8.ownBlock=some g→g<z9 from fun g hg=>hz9▸HG.out.blk hg)
   have HZ9:=Lib.hid hz9
   clear hz9
   go_wp2
   refine wRS [([0,1,2,3,4,6,7,8,9,10,11,5],[11]),([12,13,14],[])] (by kernel_rfl) (by kernel_rfl) ?_
   (simp only [wpSegs,pick,Array.getD_eq_getD_getElem?,List.getElem?_toArray,List.getElem?_cons_succ,List.getElem?_cons_zero,Option.getD_some])
   go_wp2_with fail
   refine (HC2.out _ (Fr.trans0 Hf.out (by have:=Hf3.out;(repeat first|exact Fr.refl _ _|assumption|apply Fr.n|apply Fr.d|apply Fr.a|refine Fr.s ?_ (.inr (by simp;try omega)) _)))).mono ?_
   rintro e w4 ⟨xa,xc,rfl,hx,hf⟩
   have hfk:Fr [] w3 w4:=Fr.trans0 (by have:=Hf3.out;(repeat first|exact Fr.refl _ _|assumption|apply Fr.n|apply Fr.d|apply Fr.a|refine Fr.s ?_ (.inr (by simp;try omega)) _)) hf
   (try clear k0)
   (try clear k1)
   (try clear k2)
   (try clear k3)
   (try clear kl)
   have hk_:=(hf.block _ (lBk Hk.out) (by simp)).trans Hk.out
   clear Hk
   have k0:=hEC hk_ 0
   have k1:=hEC hk_ 1
   have k2:=hEC hk_ 2
   have k3:=hEC hk_ 3
   have kl:=lBk hk_
   have Hk:=Lib.hid hk_
   clear hk_
   have Hf3:=Lib.hid hfk
   have HG:=Lib.hid (HG.out.fr (Fr.trans0 (by (repeat first|exact Fr.refl _ _|assumption|apply Fr.n|apply Fr.d|apply Fr.a|refine Fr.s ?_ (.inr (by simp;try omega)) _)) hf))
   have HX:=Lib.hid (hx.low (base':=z9) (P':=ge z9) (by have:=HZ9.out;(first|omega|(simp only [hDR,hDN,hAz];omega)|(simp;omega))) (fun g hg=>Nat.le_trans (by have:=HZ9.out;(first|omega|(simp only [hDR,hDN,hAz];omega)|(simp;omega))) hg))
   have H49:=Lib.hid (show z9≤w4.heap.size by have:=hf.size;have:=HZ9.out;simp at *;omega)
   clear hfk hx hf HZ9
   go_wp2
   refine Mid.intro ⟨⟨again_cell (T:=3) rfl rfl rfl Try.underlying3 rfl k3 rfl,trivial⟩,?_⟩
   go_wp2_with fail
   refine (HC3.out _ (Fr.trans0 Hf.out (by have:=Hf3.out;(repeat first|exact Fr.refl _ _|assumption|apply Fr.n|apply Fr.d|apply Fr.a|refine Fr.s ?_ (.inr (by simp;try omega)) _)))).mono ?_
   rintro e w5 ⟨ya,yc,rfl,hy,hf⟩
   have hfk:Fr [] w3 w5:=Fr.trans0 (by have:=Hf3.out;(repeat first|exact Fr.refl _ _|assumption|apply Fr.n|apply Fr.d|apply Fr.a|refine Fr.s ?_ (.inr (by simp;try omega)) _)) hf
   (try clear k0)
   (try clear k1)
   (try clear k2)
   (try clear k3)
   (try clear kl)
   have hk_:=(hf.block _ (lBk Hk.out) (by simp)).trans Hk.out
   clear Hk
   have k0:=hEC hk_ 0
   have k1:=hEC hk_ 1
   have k2:=hEC hk_ 2
   have k3:=hEC hk_ 3
   have kl:=lBk hk_
   have Hk:=Lib.hid hk_
   clear hk_
   have Hf3:=Lib.hid hfk
   have HG:=Lib.hid (HG.out.fr (Fr.trans0 (by (repeat first|exact Fr.refl _ _|assumption|apply Fr.n|apply Fr.d|apply Fr.a|refine Fr.s ?_ (.inr (by simp;try omega)) _)) hf))
   have HX:=Lib.hid (HX.out.fr (Fr.trans0 (by (repeat first|exact Fr.refl _ _|assumption|apply Fr.n|apply Fr.d|apply Fr.a|refine Fr.s ?_ (.inr (by simp;try omega)) _)) hf))
   have HY:=Lib.hid (hy.low (base':=z9) (P':=ge z9) (by have:=H49.out;(first|omega|(simp only [hDR,hDN,hAz];omega)|(simp;omega))) (fun g hg=>Nat.le_trans (by have:=H49.out;(first|omega|(simp only [hDR,hDN,hAz];omega)|(simp;omega))) hg))
   clear hfk hy hf H49
   go_wp2
   refine Mid.intro ⟨trivial,Strict.intro rfl ?_⟩
   obtain⟨G8,hG8⟩:∃ G,G=u8.ownBlock.toList:=⟨_,rfl⟩
   have HB5:=Lib.hid (show ∀ x∈G8,x<z9∧¬ ge z9 x by
    subst hG8
    intro x hx
    have h:=HG0.out x (show u8.ownBlock=some x by simpa using hx)
    exact⟨h,fun hg=>absurd h (Nat.not_lt.2 hg)⟩)
   have HGG:=Lib.hid (show ∀ x∈G8,x∈([]:List Nat)∨w3.heap.size≤x by
    subst hG8
    intro x hx
    obtain⟨vs,ho,_⟩:=HG.out
    exact .inr (owns_ge ho (show u8.ownBlock=some x by simpa using hx)))
   have HU8:=Lib.hid (show ∀ g,u8.ownBlock=some g→g∈G8∨w5.heap.size≤g from fun g hg=>.inl (by rw [hG8,hg];simp))
   clear hG8 HG0
   go_wp2
   go_loopw [8,12] (fun x8 x12 wr=>∃ y:Nat,x12=.int .i64 y∧y≤m∧Hid (Gath wr w3.heap.size (ge w3.heap.size) x8 (rowsL (j0+y) m2 (cell (n+1) (.node ta tb tc td)) 0 0))∧Hid (Fr G8 w5 wr)∧Hid (∀ g,x8.ownBlock=some g→g∈G8∨w5.heap.size≤g)) (fun _ x _=>m - (intOf x).toNat)
   case atStart=>exact⟨0,rfl,by omega,by rw [Nat.add_zero];exact HG,Lib.hid (Fr.refl _ _),HU8⟩
   case round =>
    clear HG HU8
    obtain⟨y,rfl,hy,HG,Hf5,HU8⟩:=hrel
    by_cases hlt:y<m
    ·have hix:=row_one (HX.out.frG Hf5.out HB5.out).rows (HGET.out tc y hlt) (by rw [rowL_length];omega)
     have hiy:=row_one (HY.out.frG Hf5.out HB5.out).rows (HGET.out td y hlt) (by rw [rowL_length];omega)
     rw [rowL_length] at hix hiy
     obtain⟨gx,ox,g2x,o2x,rcx,rfl,lx,cx,hxi,lx2⟩:=hix
     obtain⟨gy,oy,g2y,o2y,rcy,rfl,ly,cy,hyi,ly2⟩:=hiy
     have HXI:=Lib.hid hxi
     have HYI:=Lib.hid hyi
     clear hxi hyi
     have hwr:wr.heap.size=wr.heap.size:=rfl
     go_wp2_with (at_builtin;refine append_reads (base:=wr.heap.size) (e:=3) (z:=.int .i64 0) (size:=1) (bytes:=8) (n:=0) (xs:=[]) (news:=iv (rowL m (cell n tc) 0 y)) rfl rfl Try.underlying71 (by kernel_rfl) rfl (by decide) rfl (World.ownsRow_nil _ _ _ _) rfl ?e11 (fun h=>by cases h) (iv_one _) ?e21 ?e31 ?e41 ?_)
     case e11=>have:=HXI.out.fr (by (repeat first|exact Fr.refl _ _|assumption|apply Fr.n|apply Fr.d|apply Fr.a|refine Fr.s ?_ (.inr (by simp;try omega)) _):Fr [] wr _);unfold IntsAt at this;rwa [rowL_length] at this
     case e21=>exact Nat.le_trans (by omega:_≤1024) (by decide)
     case e31=>omega
     intro rv6 w6 hown6 hF6 hb6
     try simp only [Nat.zero_add,List.nil_append] at hown6
     have hf6:Fr [] wr w6:=Fr.trans0 (by (repeat first|exact Fr.refl _ _|assumption|apply Fr.n|apply Fr.d|apply Fr.a|refine Fr.s ?_ (.inr (by simp;try omega)) _)) hF6
     have HO6:=Lib.hid hown6
     have HF6:=Lib.hid hf6
     have l6:=hf6.size
     clear hown6 hF6 hb6 cx hwr
     have cy6:=(hf6.cell (p:=⟨gy,oy+y,none⟩) ly (by simp)).trans cy
     have ly6:gy<w6.heap.size:=by omega
     clear hf6 cy ly
     go_wp2_with (at_builtin;refine append_reads (base:=wr.heap.size) (e:=3) (z:=.int .i64 0) (size:=1) (bytes:=8) (n:=m) (xs:=iv (rowL m (cell n tc) 0 y)) (news:=iv (rowL m (cell n td) 0 y)) rfl rfl Try.underlying71 (by kernel_rfl) rfl (by decide) rfl ?f11 rfl ?f21 (fun h=>by cases h) (iv_one _) ?f31 ?f41 ?f51 ?_)
     case f11=>exact HO6.out
     case f21=>have:=HYI.out.fr HF6.out;unfold IntsAt at this;rwa [rowL_length] at this
     case f31=>exact Nat.le_trans (by omega:_≤2048) (by decide)
     case f41=>omega
     case f51=>omega
     intro rv7 w7 hown7 hF7 hb7
     have hf7:Fr [] wr w7:=HF6.out.trans hF7 fun x hx=>.inr (owns_ge HO6.out (by simpa using hx))
     rw [iv_append,HSo.out y hlt,show m+m=m2 by have:=H2.out;omega] at hown7
     obtain⟨ra7,rc7,rfl,_,_⟩:=oFM hown7
     have HO7:=Lib.hid hown7
     have HF7:=Lib.hid hf7
     have HG7:=Lib.hid (HG.out.fr hf7)
     have HGB:=HG
     have HB7:=Lib.hid (fun g (hg:Value.ownBlock (.slice ra7 _ rc7)=some g)=>show g<w7.heap.size∧w3.heap.size≤g∧u8.ownBlock≠some g from ⟨oLT hown7 hg,(by have h1:=owns_ge hown7 hg;have h3:=Hf3.out.size;have h5:=Hf5.out.size;omega),fun e=>by have:=HG.out.blk e;have:=owns_ge hown7 hg;omega⟩)
     have l7:=hf7.size
     clear hown7 hF7 hf7 hb7 HO6 HF6 cy6 ly6 HXI HYI
     go_wp2_with (at_builtin;refine append_row (base:=w3.heap.size) (P:=ge w3.heap.size) (u:=.slice ra7 m2 rc7) (L:=rowsL (j0+y) m2 (cell (n+1) (.node ta tb tc td)) 0 0) (r:=rowL m2 (cell (n+1) (.node ta tb tc td)) 0 ((m+y:Nat):Int)) rfl rfl rfl rfl ?g11 ?g21 ?g31 ?gf1 ?g41 ?g51 ?g61 ?_)
     case g11=>exact HG7.out.fr (by (repeat first|exact Fr.refl _ _|assumption|apply Fr.n|apply Fr.d|apply Fr.a|refine Fr.s ?_ (.inr (by simp;try omega)) _))
     case g21=>(repeat first|rw [if_pos (by omega)]|rw [if_neg (by omega)]|rw [hDR]|rw [hDN]|rw [hAz]|rw [hSz]|rw [hAC]|rw [hSC]|rw [oMS]|rw [uPC]|rw [lSZ]|rw [lSS]|rfl)
     case g31=>refine IntsAt.fr (ints_of_owns (base:=wr.heap.size) ?_) (by (repeat first|exact Fr.refl _ _|assumption|apply Fr.n|apply Fr.d|apply Fr.a|refine Fr.s ?_ (.inr (by simp;try omega)) _):Fr [] w7 _);rw [rowL_length];exact HO7.out
     case gf1=>exact owns_fits HO7.out
     case g41=>intro g hg;have:=HB7.out g hg;exact⟨by rw [hAz];omega,this.2⟩
     case g51=>rw [rowsL_length];omega
     case g61=>have h3:=Hf3.out.size;have h5:=Hf5.out.size;rw [hAz];omega
     intro v8 w8 hg8 hF8 hloc8
     have hfr:Fr G8 w5 w8:=Fr.trans (Hf5.out.trans (Fr.trans0 HF7.out (by (repeat first|exact Fr.refl _ _|assumption|apply Fr.n|apply Fr.d|apply Fr.a|refine Fr.s ?_ (.inr (by simp;try omega)) _))) (by simp)) hF8 fun x hx=>HU8.out x (by simpa using hx)
     have HU9:=Lib.hid (show ∀ g,v8.ownBlock=some g→g∈G8∨w5.heap.size≤g from fun g hg=>by
      rcases hloc8 with h|h
      ·exact HU8.out g (by rw [← h];exact hg)
      ·rw [h] at hg
       have hg:_=g:=Option.some.inj hg
       have h5:=Hf5.out.size
       exact .inr (by omega))
     have HF8:=Lib.hid hfr
     have HG8:=Lib.hid (show Gath w8 w3.heap.size (ge w3.heap.size) v8 (rowsL (j0+(y+1)) m2 (cell (n+1) (.node ta tb tc td)) 0 0) by
      rw [show j0+(y+1)=j0+y+1 by omega,← rowsL_snoc,show (0:Int)+((j0+y:Nat):Int)=((m+y:Nat):Int) by have:=HK0.out;first|omega|(push_cast;omega)]
      exact hg8)
     clear hg8 hF8 hfr hloc8
     go_wp2
     go_roundw
     case rel=>exact⟨y+1,by go_num,by omega,HG8,HF8,HU9⟩
     case measure=>simp [intOf];omega
    ·obtain rfl:m=y:=by omega
     go_wp2
     go_roundw
     case rel=>exact⟨1+1,by go_num,by
      have hj0:=HK0.out
      exact (.inr (.inr ⟨rfl,Lib.hid (by have h:=HG.out;rwa [show j0+m=2*m by omega] at h)⟩)),Lib.hid (Hf3.out.trans Hf5.out HGG.out)⟩
     case measure=>simp [intOf]
  ·have hG:=HG.out
   rw [← H2.out] at hG
   obtain⟨ao,co,hao⟩:=hG.form
   rw [rowsL_length] at hao
   rw [hao] at hG
   subst hao
   have hs3:=Hf.out.size
   have HR:=Lib.hid (hG.low (base':=w.heap.size) (P':=ge w.heap.size) hs3 (fun g hg=>Nat.le_trans hs3 hg))
   clear HG hG
   go_wp2
   go_ret
   exact⟨ao,co,rfl,by rw [HRES.out];exact HR.out,Hf.out.trans0 (by have:=Hf3.out;(repeat first|exact Fr.refl _ _|assumption|apply Fr.n|apply Fr.d|apply Fr.a|refine Fr.s ?_ (.inr (by simp;try omega)) _))⟩
theorem cells_all {s:Int} {ns:List K4} {b:Nat}:∀ n,n≤10→CellsAt s ns b n
 | 0,_=>cells_zero
 | n+1,h=>cells_succ (by omega) (cells_all n (by omega))
end Go.Proofs.Ytppmnmheodimoaa
end
section
namespace Go.Proofs.Ytppmnmheodimoaa
open Go Go.RowKit Rg Mp Hp Qs
def four (id:Int):K4:=⟨id,id,id,id⟩
def climb (s:Int) (ns:List K4):Nat→Int→Nat→Int×Nat
 | 0,id,n=>(id,n)
 | m+1,id,n=>match ns.idxOf? (four id) with
  | some i=>climb s ns m (s+i) (n+1)
  | none=>(id,n)
def grow (s:Int):Nat→Int→List K4→Int×List K4
 | 0,id,ns=>(id,ns)
 | m+1,id,ns=>grow s m (join s ns (four id)).1.1 (join s ns (four id)).2
def emptyQ (s:Int) (ns:List K4) (level:Int):(Int×Int)×List K4 :=
 if level<0∨256<level then ((0,18),ns)
 else if 100000<ns.length+(level.toNat - (climb s ns level.toNat 0 0).2) then ((0,6),ns)
 else (((grow s (level.toNat - (climb s ns level.toNat 0 0).2) (climb s ns level.toNat 0 0).1 ns).1,0),(grow s (level.toNat - (climb s ns level.toNat 0 0).2) (climb s ns level.toNat 0 0).1 ns).2)
theorem climb_le {s:Int} {ns:List K4}:∀ (m:Nat) (id:Int) (n:Nat),(climb s ns m id n).2≤n+m
 | 0,id,n=>by simp [climb]
 | m+1,id,n=>by
  unfold climb
  split
  ·have:=climb_le (s:=s) (ns:=ns) m (s+‹Nat›) (n+1);omega
  ·simp
def TwoPost (w:World) (b:Nat) (s:Int) (r:(Int×Int)×List K4) (F:List Nat) (e:Ending) (w':World):Prop :=
 e=.returned (.tuple #[.int .i64 r.1.1,.int .i64 r.1.2])∧∃ F',StoreAt w' b s r.2 F'∧Fr F w w'∧(∀ x∈F',x∈F∨w.heap.size≤x)
theorem TwoPost.same {w w':World} {b:Nat} {s:Int} {ns:List K4} {F:List Nat} {r e:Int} (hS:StoreAt w b s ns F) (hf:Fr [] w w'):TwoPost w b s ((r,e),ns) F (.returned (.tuple #[.int .i64 r,.int .i64 e])) w' :=
 ⟨rfl,F,hS.fr hf (by simp),hf.mono (by simp),fun x hx=>.inl hx⟩
set_option maxHeartbeats 4000000 in
theorem Empty_calls {w:World} {b:Nat} {s:Int} {ns:List K4} {F:List Nat} (hS:StoreAt w b s ns F) (level:Int) :
  Calls Try.prog 41 #[.pointer (some ⟨b,0,none⟩),.int .i64 level] w (TwoPost w b s (emptyQ s ns level) F):=by
 by_cases hneg:level<0
 ·have:emptyQ s ns level=((0,18),ns):=by unfold emptyQ;rw [if_pos (.inl hneg)]
  rw [this]
  have hd:decide (level<0)=true:=by simpa using hneg
  go_enter Try.func41,Try.ntmps41
  go_wp2
  go_ret2
  exact TwoPost.same hS (Fr.refl _ _)
 ·by_cases hbig:256<level
  ·have:emptyQ s ns level=((0,18),ns):=by unfold emptyQ;rw [if_pos (.inr hbig)]
   rw [this]
   have hd:decide (level<0)=false:=by simpa using hneg
   go_enter Try.func41,Try.ntmps41
   go_wp2
   go_ret2
   exact TwoPost.same hS (Fr.refl _ _)
  ·obtain⟨L,rfl⟩:∃ L:Nat,level=L:=⟨level.toNat,by omega⟩
   have hL:L≤256:=by omega
   have hSk:=hS
   obtain⟨hgood,nv,lv,mb,hI,rfl⟩:=hS
   obtain⟨na,nc,rfl,hx1⟩:=oFM hI.nodes
   have hlen:ns.length≤100000:=hgood.2.2.1
   have hs1:2≤s:=hgood.1
   have hs2:s≤8:=hgood.2.1
   have b0:=hEC hI.blk 0
   have b1:=hEC hI.blk 1
   have b3:=hEC hI.blk 3
   have hE:emptyQ s ns L=if 100000<ns.length+(L - (climb s ns L 0 0).2) then ((0,6),ns) else (((grow s (L - (climb s ns L 0 0).2) (climb s ns L 0 0).1 ns).1,0),(grow s (L - (climb s ns L 0 0).2) (climb s ns L 0 0).1 ns).2):=by
    unfold emptyQ;rw [if_neg (by omega)];rfl
   have HE:=Lib.hid hE
   have HI:=Lib.hid hI
   have Hlen:=Lib.hid hlen
   clear hx1 hE hI hlen
   have hlen2:ns.length≤1048576:=by have:=Hlen.out;omega
   go_enter Try.func41,Try.ntmps41
   go_wp2
   go_loop [6,7] (fun x y=>∃ (id:Int) (n:Nat),x=.int .i64 id∧y=.int .i64 n∧n≤L∧climb s ns (L - n) id n=climb s ns L 0 0) (fun _ y=>L - (intOf y).toNat)
   case atStart=>exact⟨0,0,rfl,rfl,by omega,by simp⟩
   case round =>
    obtain⟨id,n,rfl,rfl,hn,hc⟩:=hrel
    have Hc:=Lib.hid hc
    clear hc
    by_cases hlt:n<L
    ·cases hfind:ns.idxOf? (four id) with
     | some i =>
      go_wp2_with (at_lookup;refine wpList_lookup_hit (f:=kv) (g:=Value.int .i64) (k:=four id) (z:=.int .i64 0) rfl rfl rfl rfl (HI.out.known) Try.underlying105 keys4 (zero_int _) (find_hit hfind) ?_)
      go_round
      case rel=>exact⟨s+i,n+1,rfl,by go_num,by omega,by rw [← Hc.out,show L - n=(L - (n+1))+1 by omega,climb,hfind]⟩
      case measure=>simp [intOf];omega
     | none =>
      have hp:climb s ns L 0 0=(id,n):=by rw [← Hc.out,show L - n=(L - (n+1))+1 by omega,climb,hfind]
      have HP:=Lib.hid hp
      clear hp
      by_cases hfull:100000<ns.length+(L - n)
      ·have hd2:(100000:Int) - (↑L - ↑n)<ns.length:=by omega
       have Hfull:=Lib.hid hfull
       clear hfull
       go_wp2_with (at_lookup;refine wpList_lookup_miss (f:=kv) (g:=Value.int .i64) (k:=four id) (z:=.int .i64 0) rfl rfl rfl rfl (HI.out.known) Try.underlying105 keys4 (zero_int _) (find_miss hfind) ?_)
       go_ret2
       have hQ:=HE.out
       rw [HP.out] at hQ
       rw [if_pos Hfull.out] at hQ
       rw [hQ]
       exact TwoPost.same hSk (by (repeat first|exact Fr.refl _ _|assumption|apply Fr.n|apply Fr.d|apply Fr.a|refine Fr.s ?_ (.inr (by simp;try omega)) _))
      ·have hd2:(ns.length:Int)≤100000 - (↑L - ↑n):=by omega
       have Hfull:=Lib.hid hfull
       clear hfull
       have hQ:=HE.out
       rw [HP.out] at hQ
       rw [if_neg Hfull.out] at hQ
       have HQ:=Lib.hid hQ
       clear hQ
       go_wp2_with (at_lookup;refine wpList_lookup_miss (f:=kv) (g:=Value.int .i64) (k:=four id) (z:=.int .i64 0) rfl rfl rfl rfl (HI.out.known) Try.underlying105 keys4 (zero_int _) (find_miss hfind) ?_)
       go_loopw [6,7] (fun x y wr=>∃ (id':Int) (n':Nat) (ns':List K4) (F':List Nat),x=.int .i64 id'∧y=.int .i64 n'∧n'≤L∧grow s (L - n') id' ns'=grow s (L - n) id ns∧StoreAt wr b s ns' F' ∧
        Fr (foot b (.slice na ns.length nc) lv mb) w wr∧(∀ x∈F',x∈foot b (.slice na ns.length nc) lv mb∨w.heap.size≤x)) (fun _ y _=>L - (intOf y).toNat)
       case atStart=>exact⟨id,n,ns,_,rfl,rfl,hn,rfl,hSk,Fr.refl _ _,fun x hx=>.inl hx⟩
       case round =>
        obtain⟨id',n',ns',F',rfl,rfl,hn',hg,hS',hf',hF'⟩:=hrel
        have Hg:=Lib.hid hg
        have Hf:=Lib.hid hf'
        have HF:=Lib.hid hF'
        clear hg hf' hF'
        by_cases hlt':n'<L
        ·have hJ:Calls Try.prog 40 #[.pointer (some ⟨b,0,none⟩),.int .i64 id',.int .i64 id',.int .i64 id',.int .i64 id'] wr (JoinPost wr b s ns' F' (four id')):=Join_calls hS' (four id')
         have hgs:grow s (L - n') id' ns'=grow s (L - (n'+1)) (join s ns' (four id')).1.1 (join s ns' (four id')).2:=by
          rw [show L - n'=(L - (n'+1))+1 by omega];rfl
         have Hgs:=Lib.hid hgs
         clear hgs
         go_wp2_with fail
         refine hJ.mono ?_
         rintro e w1 ⟨rfl,F2,hS2,hf2,hF2⟩
         clear hJ
         have Hf2:=Lib.hid hf2
         have HF2:=Lib.hid hF2
         clear hf2 hF2
         go_wp2
         go_roundw
         case rel =>
          refine⟨_,n'+1,(join s ns' (four id')).2,F2,rfl,by go_num,by omega,Hgs.out.symm.trans Hg.out,hS2,Hf.out.trans Hf2.out HF.out,fun x hx=>?_⟩
          rcases HF2.out x hx with h|h
          ·exact HF.out x h
          ·right;have:=Hf.out.size;omega
         case measure=>simp [intOf];omega
        ·obtain rfl:n'=L:=by omega
         go_wp2
         go_ret2
         have hg0:=Hg.out
         rw [show grow s (n' - n') id' ns'=(id',ns') from by rw [Nat.sub_self];rfl] at hg0
         rw [HQ.out,← hg0]
         exact⟨rfl,F',hS',Hf.out,HF.out⟩
    ·obtain rfl:n=L:=by omega
     have hp:climb s ns n 0 0=(id,n):=by rw [← Hc.out,Nat.sub_self,climb]
     have HP:=Lib.hid hp
     clear hp
     by_cases hfull:100000<ns.length+(n - n)
     ·have hd2:(100000:Int) - (↑n - ↑n)<ns.length:=by omega
      have Hfull:=Lib.hid hfull
      clear hfull
      go_wp2
      go_ret2
      have hQ:=HE.out
      rw [HP.out] at hQ
      rw [if_pos Hfull.out] at hQ
      rw [hQ]
      exact TwoPost.same hSk (by (repeat first|exact Fr.refl _ _|assumption|apply Fr.n|apply Fr.d|apply Fr.a|refine Fr.s ?_ (.inr (by simp;try omega)) _))
     ·have hd2:(ns.length:Int)≤100000 - (↑n - ↑n):=by omega
      have Hfull:=Lib.hid hfull
      clear hfull
      have hQ:=HE.out
      rw [HP.out] at hQ
      rw [if_neg Hfull.out] at hQ
      have HQ:=Lib.hid hQ
      clear hQ
      go_wp2
      go_loopw [6,7] (fun x y wr=>∃ (id':Int) (n':Nat) (ns':List K4) (F':List Nat),x=.int .i64 id'∧y=.int .i64 n'∧n'≤n∧grow s (n - n') id' ns'=grow s (n - n) id ns∧StoreAt wr b s ns' F' ∧
       Fr (foot b (.slice na ns.length nc) lv mb) w wr∧(∀ x∈F',x∈foot b (.slice na ns.length nc) lv mb∨w.heap.size≤x)) (fun _ y _=>n - (intOf y).toNat)
      case atStart=>exact⟨id,n,ns,_,rfl,rfl,hn,rfl,hSk,Fr.refl _ _,fun x hx=>.inl hx⟩
      case round =>
       obtain⟨id',n',ns',F',rfl,rfl,hn',hg,hS',hf',hF'⟩:=hrel
       have Hg:=Lib.hid hg
       have Hf:=Lib.hid hf'
       have HF:=Lib.hid hF'
       clear hg hf' hF'
       by_cases hlt':n'<n
       ·have hJ:Calls Try.prog 40 #[.pointer (some ⟨b,0,none⟩),.int .i64 id',.int .i64 id',.int .i64 id',.int .i64 id'] wr (JoinPost wr b s ns' F' (four id')):=Join_calls hS' (four id')
        have hgs:grow s (n - n') id' ns'=grow s (n - (n'+1)) (join s ns' (four id')).1.1 (join s ns' (four id')).2:=by
         rw [show n - n'=(n - (n'+1))+1 by omega];rfl
        have Hgs:=Lib.hid hgs
        clear hgs
        go_wp2_with fail
        refine hJ.mono ?_
        rintro e w1 ⟨rfl,F2,hS2,hf2,hF2⟩
        clear hJ
        have Hf2:=Lib.hid hf2
        have HF2:=Lib.hid hF2
        clear hf2 hF2
        go_wp2
        go_roundw
        case rel =>
         refine⟨_,n'+1,(join s ns' (four id')).2,F2,rfl,by go_num,by omega,Hgs.out.symm.trans Hg.out,hS2,Hf.out.trans Hf2.out HF.out,fun x hx=>?_⟩
         rcases HF2.out x hx with h|h
         ·exact HF.out x h
         ·right;have:=Hf.out.size;omega
        case measure=>simp [intOf];omega
       ·obtain rfl:n'=n:=by omega
        go_wp2
        go_ret2
        have hg0:=Hg.out
        rw [show grow s (n' - n') id' ns'=(id',ns') from by rw [Nat.sub_self];rfl] at hg0
        rw [HQ.out,← hg0]
        exact⟨rfl,F',hS',Hf.out,HF.out⟩
end Go.Proofs.Ytppmnmheodimoaa
end
section
namespace Go.Proofs.Mp
open Go
section
variable {P:Program} {T E:TypeId} {q:IntKind} {f1 f2:Field}
def pairV (q:IntKind) (k:Int×Int):Value:=.agg #[.int q k.1,.int q k.2]
theorem run_program (w:World):(Go.program:Sem Program).run P w=.ok P w:=rfl
theorem run_equalIn_pair (hT : P.underlying T = some (.struct #[f1, f2])) (t1 : f1.type = E) (t2 : f2.type = E) (o1 : f1.offset = 0) (o2 : f2.offset = 1) (n1 : f1.name ≠ "_") (n2 : f2.name ≠ "_") (hE : P.underlying E = some (.int q)) (hst : P.stoodInHeld T = false)
  (d:Nat) (x y:Int×Int) (w:World):(Op.equalIn (d+2) T (pairV q x) (pairV q y)).run P w=.ok (decide (x=y)) w:=by
 obtain⟨a,b⟩:=x
 obtain⟨c,e⟩:=y
 show Sem.run P (Op.equalIn ((d+1)+1) _ _ _) w=_
 unfold Op.equalIn pairV
 rw [Sem.run_bind,run_underlying' hT]
 simp only [Result.andThen_ok]
 simp [run_program,hst,n1,n2,t1,t2,o1,o2,Result.andThen_ok,run_part_int hE,run_equal_int hE]
 by_cases h1:a=c<;>by_cases h2:b=e<;>simp [h1,h2]
theorem run_checkKey_pair (hT : P.underlying T = some (.struct #[f1, f2])) (t1 : f1.type = E) (t2 : f2.type = E) (o1 : f1.offset = 0) (o2 : f2.offset = 1) (n1 : f1.name ≠ "_") (n2 : f2.name ≠ "_") (hE : P.underlying E = some (.int q))
  (d:Nat) (e:Bool) (x:Int×Int) (w:World):(Instr.checkKey e (d+2) T (pairV q x)).run P w=.ok () w:=by
 obtain⟨a,b⟩:=x
 have hc:∀ (x:Int) w,(Instr.checkKey e (d+1) E (.int q x)).run P w=.ok () w:=by
  intro x w
  unfold Instr.checkKey
  rw [Sem.run_bind,run_underlying' hE]
  simp
 show Sem.run P (Instr.checkKey e ((d+1)+1) _ _) w=_
 unfold Instr.checkKey pairV
 rw [Sem.run_bind,run_underlying' hT]
 simp only [Result.andThen_ok]
 simp [n1,n2,t1,t2,o1,o2,Result.andThen_ok,run_part_int hE,hc]
theorem KeysBy.pair (hT : P.underlying T = some (.struct #[f1, f2])) (t1 : f1.type = E) (t2 : f2.type = E) (o1 : f1.offset = 0) (o2 : f2.offset = 1) (n1 : f1.name ≠ "_") (n2 : f2.name ≠ "_") (hE : P.underlying E = some (.int q)) (hst : P.stoodInHeld T = false) : KeysBy P T (pairV q) := by
 refine KeysBy.deep hT (fun k v=>rfl) (fun a b w=>run_equalIn_pair hT t1 t2 o1 o2 n1 n2 hE hst 9998 a b w) (fun e k w=>run_checkKey_pair hT t1 t2 o1 o2 n1 n2 hE 9998 e k w) fun k=>?_
 show Instr.sameBits 10000 (.agg #[_,_]) (.agg #[_,_])=true
 unfold Instr.sameBits
 simp [sameBits_int]
end
end Go.Proofs.Mp
end
section
namespace Go.Proofs.Hp
open Go Go.RowKit
structure Res where
 holds:World→List Nat→Prop
 keep:∀ {w w':World} {F:List Nat},holds w F→(∀ x∈F,w'.heap[x]?=w.heap[x]?)→holds w' F
 lt:∀ {w:World} {F:List Nat},holds w F→∀ x∈F,x<w.heap.size
def Seps (w:World):List Res→List Nat→Prop
 | [],F=>F=[]
 | P::Ps,F=>∃ F1 F2,P.holds w F1∧Seps w Ps F2∧(∀ x∈F1,x∉F2)∧F=F1++F2
def Has (W w:World) (Ps:List Res):Prop:=∃ F,Seps w Ps F∧Fr [] W w∧∀ x∈F,W.heap.size≤x
theorem Seps.keep {w w':World}:∀ {Ps:List Res} {F:List Nat},Seps w Ps F→(∀ x∈F,w'.heap[x]?=w.heap[x]?)→Seps w' Ps F
 | [],_,h,_=>h
 | P::Ps,F,⟨F1,F2,h1,h2,h3,h4⟩,hk=>⟨F1,F2,P.keep h1 fun x hx=>hk x (by rw [h4];simp [hx]),Seps.keep h2 fun x hx=>hk x (by rw [h4];simp [hx]),h3,h4⟩
theorem Seps.lt {w:World}:∀ {Ps:List Res} {F:List Nat},Seps w Ps F→∀ x∈F,x<w.heap.size
 | [],_,h,x,hx=>by rw [show _=[] from h] at hx;cases hx
 | P::Ps,F,⟨F1,F2,h1,h2,h3,h4⟩,x,hx=>by
  rw [h4,List.mem_append] at hx
  rcases hx with hx|hx
  ·exact P.lt h1 x hx
  ·exact Seps.lt h2 x hx
section
variable {W w w':World} {P P' Q:Res} {Ps:List Res}
theorem Has.fr (h:Has W w Ps):Fr [] W w:=by obtain⟨_,_,h,_⟩:=h;exact h
theorem Has.nil (h:Fr [] W w):Has W w []:=⟨[],rfl,h,by simp⟩
theorem Has.step (h:Has W w Ps) (hf:Fr [] w w'):Has W w' Ps:=by
 obtain⟨F,h1,h2,h3⟩:=h
 exact⟨F,h1.keep fun x hx=>hf.block x (h1.lt x hx) (by simp),h2.trans0 hf,h3⟩
theorem Has.drew (h:Has W w Ps) (hd:Drew w w'):Has W w' Ps:=h.step (hd.fr _)
theorem Has.head (h:Has W w (P::Ps)):∃ F,P.holds w F:=by obtain⟨F,⟨F1,F2,h1,_⟩,_⟩:=h;exact⟨F1,h1⟩
theorem Has.new {F:List Nat} (h:Has W w Ps) (hf:Fr [] w w') (hP:P.holds w' F) (hF:∀ x∈F,w.heap.size≤x):Has W w' (P::Ps):=by
 obtain⟨G,h1,h2,h3⟩:=h
 refine⟨F++G,⟨F,G,hP,h1.keep fun x hx=>hf.block x (h1.lt x hx) (by simp),fun x hx hx'=>?_,rfl⟩,h2.trans0 hf,fun x hx=>?_⟩
 ·have:=hF x hx;have:=h1.lt x hx';omega
 ·rw [List.mem_append] at hx
  rcases hx with hx|hx
  ·have:=hF x hx;have:=h2.size;omega
  ·exact h3 x hx
theorem Has.swap (h:Has W w (P::Q::Ps)):Has W w (Q::P::Ps):=by
 obtain⟨F,⟨F1,F2,h1,⟨G1,G2,g1,g2,g3,rfl⟩,h3,rfl⟩,hf,hge⟩:=h
 refine⟨G1++(F1++G2),⟨G1,F1++G2,g1,⟨F1,G2,h1,g2,fun x hx hx'=>h3 x hx (by simp [hx']),rfl⟩,fun x hx hx'=>?_,rfl⟩,hf,fun x hx=>hge x ?_⟩
 ·rw [List.mem_append] at hx'
  rcases hx' with h|h
  ·exact h3 x h (by simp [hx])
  ·exact g3 x hx h
 ·simp only [List.mem_append] at hx ⊢
  rcases hx with h|h|h<;>simp [h]
theorem Has.drop (h:Has W w (P::Ps)):Has W w Ps:=by
 obtain⟨F,⟨F1,F2,h1,h2,h3,rfl⟩,hf,hge⟩:=h
 exact⟨F2,h2,hf,fun x hx=>hge x (by simp [hx])⟩
theorem Has.upd (h:Has W w (P::Ps)) {R:Ending→Prop} {Pr:Program} {f:FuncId} {args:Array Value}
  (hc:∀ F,P.holds w F→Calls Pr f args w fun e w'=>R e∧∃ F',P'.holds w' F'∧Fr F w w'∧∀ x∈F',x∈F∨w.heap.size≤x):Calls Pr f args w fun e w'=>R e∧Has W w' (P'::Ps):=by
 obtain⟨F,⟨F1,F2,h1,h2,h3,rfl⟩,hf,hge⟩:=h
 refine (hc F1 h1).mono ?_
 rintro e w' ⟨hR,F',hP,hf',hs⟩
 refine⟨hR,F'++F2,⟨F',F2,hP,h2.keep fun x hx=>hf'.block x (h2.lt x hx) fun hx'=>h3 x hx' hx,fun x hx hx'=>?_,rfl⟩,hf.trans hf' fun x hx=>.inr (hge x (by simp [hx])),fun x hx=>?_⟩
 ·rcases hs x hx with h|h
  ·exact h3 x h hx'
  ·have:=h2.lt x hx';omega
 ·rw [List.mem_append] at hx
  rcases hx with hx|hx
  ·rcases hs x hx with h|h
   ·exact hge x (by simp [h])
   ·have:=hf.size;omega
  ·exact hge x (by simp [hx])
theorem Has.turn (h:Has W w (P::Ps)) (hc:∀ F,P.holds w F→∃ F',P'.holds w' F'∧Fr F w w'∧∀ x∈F',x∈F∨w.heap.size≤x):Has W w' (P'::Ps):=by
 obtain⟨F,⟨F1,F2,h1,h2,h3,rfl⟩,hf,hge⟩:=h
 obtain⟨F',hP,hf',hs⟩:=hc F1 h1
 refine⟨F'++F2,⟨F',F2,hP,h2.keep fun x hx=>hf'.block x (h2.lt x hx) fun hx'=>h3 x hx' hx,fun x hx hx'=>?_,rfl⟩,hf.trans hf' fun x hx=>.inr (hge x (by simp [hx])),fun x hx=>?_⟩
 ·rcases hs x hx with h|h
  ·exact h3 x h hx'
  ·have:=h2.lt x hx';omega
 ·rw [List.mem_append] at hx
  rcases hx with hx|hx
  ·rcases hs x hx with h|h
   ·exact hge x (by simp [h])
   ·have:=hf.size;omega
  ·exact hge x (by simp [hx])
theorem Has.look (h:Has W w (P::Ps)) {R:Ending→World→Prop} {Pr:Program} {f:FuncId} {args:Array Value}
  (hc:∀ F,P.holds w F→Calls Pr f args w fun e w'=>R e w'∧Fr [] w w'):Calls Pr f args w fun e w'=>R e w'∧Has W w' (P::Ps):=by
 obtain⟨F,hP⟩:=h.head
 exact (hc F hP).mono fun e w' ⟨h1,h2⟩=>⟨h1,h.step h2⟩
end
theorem Seps.perm {w:World} {Ps Qs:List Res} (p:Ps.Perm Qs):∀ {F:List Nat},Seps w Ps F→∃ G,Seps w Qs G∧∀ x,x∈G↔x∈F:=by
 induction p with
 | nil=>exact fun h=>⟨_,h,fun x=>Iff.rfl⟩
 | cons P _ ih =>
  rintro F ⟨F1,F2,h1,h2,h3,rfl⟩
  obtain⟨G,g1,g2⟩:=ih h2
  exact⟨F1++G,⟨F1,G,h1,g1,fun x hx hx'=>h3 x hx ((g2 x).1 hx'),rfl⟩,fun x=>by simp [g2]⟩
 | swap P Q l =>
  rintro F ⟨F1,F2,h1,⟨G1,G2,g1,g2,g3,rfl⟩,h3,rfl⟩
  refine⟨G1++(F1++G2),⟨G1,F1++G2,g1,⟨F1,G2,h1,g2,fun x hx hx'=>h3 x hx (by simp [hx']),rfl⟩,fun x hx hx'=>?_,rfl⟩,fun x=>?_⟩
  ·rw [List.mem_append] at hx'
   rcases hx' with h|h
   ·exact h3 x h (by simp [hx])
   ·exact g3 x hx h
  ·simp only [List.mem_append]
   constructor<;>intro h<;>rcases h with h|h|h<;>simp [h]
 | trans _ _ ih1 ih2 =>
  intro F h
  obtain⟨G,g1,g2⟩:=ih1 h
  obtain⟨G',g1',g2'⟩:=ih2 g1
  exact⟨G',g1',fun x=>(g2' x).trans (g2 x)⟩
theorem Has.perm {W w:World} {Ps Qs:List Res} (h:Has W w Ps) (p:Ps.Perm Qs):Has W w Qs:=by
 obtain⟨F,h1,h2,h3⟩:=h
 obtain⟨G,g1,g2⟩:=h1.perm p
 exact⟨G,g1,h2,fun x hx=>h3 x ((g2 x).1 hx)⟩
theorem Has.third {W w:World} {A B C:Res} {Ps:List Res} (h:Has W w (A::B::C::Ps)):Has W w (C::A::B::Ps):=h.perm (((List.Perm.swap C B Ps).cons A).trans (List.Perm.swap C A (B::Ps)))
theorem Has.fourth {W w:World} {A B C D:Res} {Ps:List Res} (h:Has W w (A::B::C::D::Ps)):Has W w (D::A::B::C::Ps) :=
 h.perm (((((List.Perm.swap D C Ps).cons B).trans (List.Perm.swap D B (C::Ps))).cons A).trans (List.Perm.swap D A (B::C::Ps)))
def blk (b:Nat) (o:Obj):Res where
 holds w F:=w.heap[b]?=some o∧F=[b]
 keep:=fun ⟨h1,h2⟩ hk=>⟨by rw [hk b (by simp [h2])];exact h1,h2⟩
 lt:=fun ⟨h1,h2⟩ x hx=>by rw [h2] at hx;simp at hx;subst hx;exact lBk h1
theorem Has.blk {W w:World} {Ps:List Res} {b:Nat} {o:Obj} (h:Has W w (Hp.blk b o::Ps)):w.heap[b]?=some o:=by obtain⟨F,h1,_⟩:=h.head;exact h1
def row (T size:Nat) (v:Value) (n:Nat) (xs:List Value):Res where
 holds w F:=w.ownsRow 0 T size v n xs∧F=v.ownBlock.toList
 keep:=fun ⟨h1,h2⟩ hk=>⟨oOB h1 fun g hg=>hk g (by simp [h2,hg]),h2⟩
 lt:=fun ⟨h1,h2⟩ x hx=>by rw [h2] at hx;exact oLT h1 (by simpa using hx)
theorem Has.row {W w:World} {Ps:List Res} {T size n:Nat} {v:Value} {xs:List Value} (h:Has W w (Hp.row T size v n xs::Ps)):w.ownsRow 0 T size v n xs:=by obtain⟨F,h1,_⟩:=h.head;exact h1
theorem Has.newRow {W w w':World} {Ps:List Res} {T size n:Nat} {v:Value} {xs:List Value} (h:Has W w Ps) (hf:Fr [] w w') (ho:w'.ownsRow w.heap.size T size v n xs):Has W w' (Hp.row T size v n xs::Ps) :=
 h.new hf (F:=v.ownBlock.toList) ⟨owns_base ho (Nat.zero_le _),rfl⟩ fun x hx=>owns_ge ho (by simpa using hx)
theorem Has.newBlk {W w:World} {Ps:List Res} (h:Has W w Ps) (o:Obj):Has W (w.alloc o) (Hp.blk w.heap.size o::Ps) :=
 h.new ((Fr.refl [] w).alloc o) (F:=[w.heap.size]) ⟨by rw [hAC,if_pos rfl],rfl⟩ (by simp)
end Go.Proofs.Hp
end
