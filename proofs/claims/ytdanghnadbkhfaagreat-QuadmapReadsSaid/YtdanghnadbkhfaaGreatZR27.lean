/- Own texts of this claim, part 28: no condition. -/
import Derived.IntWalk
import Derived.Deep.RegionHeld3
import Derived.Deep.DeepCutAuto
import Derived.Test.YtdanghnadbkhfaaGreatZR26
import Derived.Test.YtdanghnadbkhfaaGreatZR12
import Derived.Test.YtdanghnadbkhfaaGreatZR17
import Derived.Test.YtdanghnadbkhfaaGreatZR13
import Derived.Test.YtdanghnadbkhfaaGreatZR4
import Derived.Test.YtdanghnadbkhfaaGreatZR19
set_option linter.unusedVariables false
set_option linter.unusedSimpArgs false
section
namespace Go.Proofs.YtdanghnadbkhfaaGreat
open Go Go.RowKit Rg Mp Hp Qs Ev Bn Pt
theorem node_sum {s:Int} {ns:List K4} (hg:GoodQ s ns) {i:Nat} {k:K4} (hk:ns[i]?=some k) :
  ∃ n,n+1≤256∧(∀ q,q<4→Full n (Tr.q (tr s ns (s+(i:Nat))) q))∧popT (tr s ns (s+(i:Nat)))=sumq (tr s ns (s+(i:Nat))) 4∧∀ q,q<4→(0≤k.get q∧k.get q<s+(i:Nat))∧tr s ns (k.get q)=Tr.q (tr s ns (s+(i:Nat))) q:=by
 have hi:=(List.getElem?_eq_some_iff.1 hk).1
 have hs:=hg.1
 obtain⟨n0,h0,h1,h2⟩:=level_nat hg (id:=s+(i:Nat)) ((kn_lvl hg _).2 ⟨by omega,by omega⟩)
 have hnode:=tr_node hg hk
 rcases n0 with _|n
 ·exfalso
  have h3:=h2.2.2.1
  rw [hnode] at h3
  exact h3
 ·obtain⟨i',k',he,hk',ha,hb,hc,hd,ht⟩:=h2.kids hg
  obtain rfl:i'=i:=by omega
  obtain rfl:k'=k:=Option.some.inj (hk'.symm.trans hk)
  obtain⟨ka,kb,kc,kd⟩:=good_kids hg hk
  refine⟨n,by omega,fun q hq=>?_,?_,fun q hq=>?_⟩
  ·have:q=0∨q=1∨q=2∨q=3:=by omega
   rcases this with rfl|rfl|rfl|rfl
   ·exact ha.2.2.1
   ·exact hb.2.2.1
   ·exact hc.2.2.1
   ·exact hd.2.2.1
  ·rw [hnode]
   simp only [popT,sumq,Tr.q]
   omega
  ·have:q=0∨q=1∨q=2∨q=3:=by omega
   rcases this with rfl|rfl|rfl|rfl
   ·exact⟨ka,ha.2.1⟩
   ·exact⟨kb,hb.2.1⟩
   ·exact⟨kc,hc.2.1⟩
   ·exact⟨kd,hd.2.1⟩
def bvE (e:BV):List Value:=[.bool false,.slice e.2.1 (zd (e.1:Int)).length e.2.2]
def bvs (l:List BV):List Value:=l.flatMap bvE
theorem bvs_get:∀ {l:List BV} {i:Nat} {c:BV},l[i]?=some c→∀ {j:Nat} {u:Value},(bvE c)[j]?=some u→(bvs l)[i*2+j]?=some u
 | [],i,c,h,_,_,_=>by simp at h
 | d::l,0,c,h,j,u,hu=>by
  simp only [List.getElem?_cons_zero,Option.some.injEq] at h
  subst h
  have e:bvs (d::l)=bvE d++bvs l:=rfl
  rw [e,Nat.zero_mul,Nat.zero_add,List.getElem?_append_left (List.getElem?_eq_some_iff.1 hu).1]
  exact hu
 | d::l,i+1,c,h,j,u,hu=>by
  have:=bvs_get (l:=l) (i:=i) (by simpa using h) hu
  have e:bvs (d::l)=bvE d++bvs l:=rfl
  rw [e,List.getElem?_append_right (by simp [bvE];omega),show (i+1)*2+j - (bvE d).length=i*2+j by simp [bvE];omega]
  exact this
theorem bvs_snoc (l:List BV) (c:BV):bvs l++[.bool false,.slice c.2.1 (zd (c.1:Int)).length c.2.2]=bvs (l++[c]):=by simp [bvs,bvE]
theorem bvs_cell {w:World} {a:Option Addr} {n c:Nat} {l:List BV} (h:Reads w (.slice a n c) l.length 2 (bvs l)) {i:Nat} {p:BV} (hi:l[i]?=some p) :
  ∃ g off,a=some ⟨g,off,none⟩∧g<w.heap.size∧w.cell? ⟨g,off+i*2,none⟩=some (.bool false)∧w.cell? ⟨g,off+i*2+1,none⟩=some (.slice p.2.1 (zd (p.1:Int)).length p.2.2):=by
 obtain⟨_,a',c',he,h2⟩:=h
 cases he
 obtain⟨g,off,rfl,hg,hc⟩:=h2 (by have:=(List.getElem?_eq_some_iff.1 hi).1;omega)
 have q:∀ {j u},(bvE p)[j]?=some u→w.cell? ⟨g,off+i*2+j,none⟩=some u:=fun hu=>by
  have:=hc _ _ (bvs_get hi hu)
  rwa [← Nat.add_assoc] at this
 exact⟨g,off,rfl,hg,q (j:=0) rfl,q (j:=1) rfl⟩
theorem info_bv:(Tryz.prog.info? 27).map (fun i=>(i.zero,i.size,i.bytes))=some (some (.agg #[.bool false,.slice none 0 0]),2,32):=by kernel_rfl
theorem append_bv {ops:Array Oper} {rest:List Oper} {o:Oper} {a:Act} {W:World} {Q:Exit→Act→World→Prop} (hgd:o.guard=none) {s x:Operand} (ho:o.op=.call { callee:=.builtin .append,args:=#[s,x],argTypes:=#[92,92] })
  {base:Nat} {v:Value} {n:Nat} {xs:List Value} (hs:a.eval s=v) (hown:W.ownsRow base 27 2 v n xs) {nb c:Nat} {y:BV} (hx:a.eval x=.slice (some ⟨nb,0,none⟩) 1 c)
  (hnb:W.heap[nb]?=some (.cells #[.bool false,.slice y.2.1 (zd (y.1:Int)).length y.2.2] 27 (0,0))) (hn:n≤1000000000000) (hbase:base≤W.heap.size)
  (h:∀ g cap w',w'.ownsRow base 27 2 (.slice (some ⟨g,0,none⟩) (n+1) cap) (n+1) (xs++[.bool false,.slice y.2.1 (zd (y.1:Int)).length y.2.2])→(∀ b,b<W.heap.size→v.ownBlock≠some b→w'.heap[b]?=W.heap[b]?)→Fr v.ownBlock.toList W w'→(v.ownBlock=some g∨g=W.heap.size)→g<w'.heap.size →
   wpList Tryz.prog ops Q rest (a.put o.dst (.slice (some ⟨g,0,none⟩) (n+1) cap)) w'):wpList Tryz.prog ops Q (o::rest) a W :=
 append_new hgd ho Tryz.underlying92 info_bv rfl (by decide) hs hown hx (news:=[.bool false,.slice y.2.1 (zd (y.1:Int)).length y.2.2]) hnb rfl (by intro u hu;simp at hu;rcases hu with rfl|rfl<;>rfl) (by unfold maxLen;omega) (by omega) hbase h
def BOk (s:Int) (ns:List K4) (B:List BV):Prop:=∀ (j:Nat) (e:BV),B[j]?=some e→e.1=popT (tr s ns (j:Nat))
theorem BOk.snoc {s:Int} {ns:List K4} {B:List BV} (h:BOk s ns B) {e:BV} (he:e.1=popT (tr s ns (B.length:Nat))):BOk s ns (B++[e]):=fun j x hx=>by
 by_cases hj:j<B.length
 ·rw [List.getElem?_append_left hj] at hx;exact h j x hx
 ·rw [List.getElem?_append_right (by omega)] at hx
  have:j - B.length=0:=by
   rcases Nat.eq_zero_or_pos (j - B.length) with h0|h0
   ·exact h0
   ·rw [List.getElem?_eq_none (by simp;omega)] at hx;cases hx
  rw [this] at hx
  simp only [List.getElem?_cons_zero,Option.some.injEq] at hx
  subst hx
  rw [show j=B.length by omega];exact he
def rowB (v:Value) (B:List BV):Res:=Hp.row 27 2 v B.length (bvs B)
theorem pool_sub {W w:World} {L L':List BV} {Ps:List Res} (h:Has W w (poolR L::Ps)) (hs:∀ e∈L',e∈L):Has W w (poolR L'::Ps) :=
 h.turn fun F hF=>by
  obtain⟨h1,h2⟩:=hF
  exact⟨F,⟨fun e he=>h1 e (hs e he),h2⟩,Fr.refl _ _,fun x hx=>.inl hx⟩
theorem node_cell {w:World} {na:Option Addr} {m nc:Nat} {ns:List K4} (h:Reads w (.slice na m nc) m 4 (flat ns)) (hm:ns.length=m) {j:Nat} {k:K4} (hk:ns[j]?=some k) :
  ∃ g off,na=some ⟨g,off,none⟩∧g<w.heap.size∧∀ q,q<4→w.cell? ⟨g,off+j*4+q,none⟩=some (.int .i64 (k.get q)):=by
 obtain⟨_,a',c',he,h2⟩:=h
 cases he
 obtain⟨g,off,rfl,hg,hc⟩:=h2 (by have:=(List.getElem?_eq_some_iff.1 hk).1;omega)
 obtain⟨f0,f1,f2,f3⟩:=flat_get hk
 refine⟨g,off,rfl,hg,fun q hq=>?_⟩
 have:q=0∨q=1∨q=2∨q=3:=by omega
 rcases this with rfl|rfl|rfl|rfl
 ·have:=hc _ _ f0;rwa [show off+4*j=off+j*4+0 by omega] at this
 ·have:=hc _ _ f1;rwa [show off+(4*j+1)=off+j*4+1 by omega] at this
 ·have:=hc _ _ f2;rwa [show off+(4*j+2)=off+j*4+2 by omega] at this
 ·have:=hc _ _ f3;rwa [show off+(4*j+3)=off+j*4+3 by omega] at this
set_option maxHeartbeats 16000000 in
set_option maxRecDepth 100000 in
theorem Rcounts_h {w:World} {s:Int} {ns:List K4} {na:Option Addr} {nc:Nat} (hv:Reads w (.slice na ns.length nc) ns.length 4 (flat ns)) (hg:GoodQ s ns) :
  Calls Tryz.prog 49 #[.agg #[.int .i64 s,.slice na ns.length nc]] w fun e w'=>∃ (a:Option Addr) (c:Nat) (B:List BV),e=.returned (.slice a B.length c)∧(B.length:Int)=s+ns.length∧BOk s ns B∧Has w w' [rowB (.slice a B.length c) B,poolR B]:=by
 have HV:=Lib.hid hv
 have HG:=Lib.hid hg
 obtain⟨m,hm⟩:∃ m,ns.length=m:=⟨_,rfl⟩
 rw [hm] at HV ⊢
 have HM:=Lib.hid hm
 have hm1:m≤100000:=by have:=hg.2.2.1;omega
 have hs2:=hg.1
 have hs8:=hg.2.1
 have h1:=((pool_nil (hAL (Has.nil (Fr.refl [] w)) #[.int .i64 s,.slice na m nc] 24)).newRow (T:=27) (size:=2) (Fr.refl [] _) (owns_nil0 _ _ _ _))
 obtain⟨qb,hqb⟩:∃ x,w.heap.size=x:=⟨_,rfl⟩
 rw [hqb] at h1
 have H1:=Lib.hid h1
 clear hv hg hm h1
 go_enter Tryz.func49,Tryz.ntmps49
 go_wp2
 clear hqb
 go_loopw [3,4] (fun z3 z4 wr=>∃ (i:Nat) (v:Value) (B:List BV),(v=z3∧z4=.int .i64 (i:Nat))∧((i:Int)≤s∧B.length=i∧BOk s ns B)∧Has w wr [rowB v B,poolR B,Hp.blk qb (.cells #[.int .i64 s,.slice na m nc] 24 (0,0))]) (fun _ z _=>s.toNat - (intOf z).toNat)
 case atStart=>exact⟨0,_,[],⟨rfl,rfl⟩,⟨by omega,rfl,fun j e h=>by simp at h⟩,H1.out⟩
 case round =>
  clear H1
  obtain⟨i,v3,B,⟨rfl,rfl⟩,⟨his,hbl,hbo⟩,h⟩:=hrel
  have H:=Lib.hid h
  have HBL:=Lib.hid (show B.length≤200000 by omega)
  have HBE:=Lib.hid hbl
  have HBO:=Lib.hid hbo
  clear h hbl hbo
  have hb:=(H.out.ord 3 [2]).blk
  have x0:=hEC hb 0
  have x1:=hEC hb 1
  have xl:=lBk hb
  clear hb
  by_cases hlt:(i:Int)<s
  ·obtain⟨P,hP⟩:∃ P,popT (tr s ns (i:Nat))=P:=⟨_,rfl⟩
   have hmn:min ((i:Nat):Int) 1=((P:Nat):Int):=by
    rw [← hP,tr_leaf hlt]
    unfold popT
    split<;>omega
   have hP1:P≤1:=by have:=Int.min_le_right ((i:Nat):Int) 1;omega
   have HP:=Lib.hid hP
   clear hP
   go_wp2_with fail
   refine (RFrom_z (x:=((P:Nat):Int)) (by omega) (by omega)).mono ?_
   rintro e w5 ⟨v5,rfl,hb5,hf5⟩
   obtain⟨a5,c5,rfl,h5⟩:=has_big (H.out.step (by (repeat first|exact Fr.refl _ _|assumption|apply Fr.n|apply Fr.d|apply Fr.a|refine Fr.s ?_ (.inr (by simp;try omega)) _))) hf5 hb5 (zok_int (by omega) (by omega))
   rw [show decide (((P:Nat):Int)<0)=false by simp] at h5 ⊢
   have h5:=h5.ord 4 [1,0,2,3]
   simp only [List.filterMap_cons,List.filterMap_nil,List.getElem?_cons_zero,List.getElem?_cons_succ,List.drop_succ_cons,List.drop_zero,List.cons_append,List.nil_append,List.take_succ_cons,List.take_zero,List.eraseIdx_cons_succ,List.eraseIdx_zero,List.eraseIdx_cons_zero,List.tail_cons,Option.toList_some] at h5
   have H5:=Lib.hid h5
   clear h5 hb5 hf5 x0 x1 xl
   have hrow:=H5.out.row
   have HO:=Lib.hid (show World.ownsRow _ 0 27 2 _ B.length (bvs B) from hrow)
   clear hrow
   go_wp2_with (at_builtin;refine append_bv (n:=B.length) (base:=0) (xs:=bvs B) (y:=(P,a5,c5)) rfl rfl rfl ?e11 rfl ?e21 ?e31 ?e41 ?_)
   case e11=>exact oOB HO.out fun g hg=>hAE _ _ _ (oLT HO.out hg)
   case e21=>first|(first|(rw [hAC,if_pos rfl];done)|exact (Array.getElem?_eq_some_iff.1 ((hAC _ _ _).trans (if_pos rfl))).2|(simp only [hDR,hDN];rw [hAC,if_pos rfl];done))|(refine (Array.getElem?_eq_some_iff.1 ?_).2;(repeat first|rw [if_pos (by omega)]|rw [if_neg (by omega)]|rw [hDR]|rw [hDN]|rw [hAz]|rw [hSz]|rw [hAC]|rw [hSC]|rw [oMS]|rw [uPC]|rw [lSZ]|rw [lSS]|rfl))
   case e31=>have:=HBL.out;omega
   case e41=>omega
   intro g21 cap1 w10 hown1 hW1 hF1 hloc1 hg1
   rw [bvs_snoc _ (P,a5,c5)] at hown1
   have h9:=hAP (n':=(B++([(P,a5,c5)]:List BV)).length) (H5.out.step (by (repeat first|exact Fr.refl _ _|assumption|apply Fr.n|apply Fr.d|apply Fr.a|refine Fr.s ?_ (.inr (by simp;try omega)) _))) (by rw [List.length_append];exact hown1) rfl hF1 (by rcases hloc1 with h|h;exact .inl h;exact .inr (by rw [h];simp))
   clear hown1 hW1 hF1 hloc1 hg1 HO
   have h9:=h9.ord 4 [1,2,0,3]
   simp only [List.filterMap_cons,List.filterMap_nil,List.getElem?_cons_zero,List.getElem?_cons_succ,List.drop_succ_cons,List.drop_zero,List.cons_append,List.nil_append,List.take_succ_cons,List.take_zero,List.eraseIdx_cons_succ,List.eraseIdx_zero,List.eraseIdx_cons_zero,List.tail_cons,Option.toList_some] at h9
   have h9:=(pool_sub (pool_add h9) (L':=B++[(P,a5,c5)]) (fun e he=>by simp at he ⊢;exact he.symm)).swap
   have H9:=Lib.hid h9
   clear h9
   go_wp2
   go_roundw
   case rel=>exact⟨i+1,_,B++[(P,a5,c5)],⟨rfl,by go_num⟩,⟨by omega,by rw [List.length_append,HBE.out];rfl,HBO.out.snoc (by rw [HBE.out];exact HP.out.symm)⟩,H9.out.step (by (repeat first|exact Fr.refl _ _|assumption|apply Fr.n|apply Fr.d|apply Fr.a|refine Fr.s ?_ (.inr (by simp;try omega)) _))⟩
   case measure=>simp [intOf];omega
  ·have his2:((i:Nat):Int)=s:=by omega
   have HIS:=Lib.hid his2
   have H2:=Lib.hid (show Has w wr [rowB v3 B,poolR B,Hp.blk qb (.cells #[.int .i64 s,.slice na m nc] 24 (0,0))] from H.out)
   have HB2:=Lib.hid (show (B.length:Int)=s+((0:Nat):Int) from by have:=HBE.out;omega)
   have hnl:decide (((i:Nat):Int)<s)=false:=by rw [decide_eq_false_iff_not];omega
   clear H his2 HBL HBE
   go_wp2
   clear x0 x1 xl hnl
   go_loopw [3,5] (fun z3 z5 wr=>∃ (j:Nat) (v:Value) (B:List BV),(v=z3∧z5=.int .i64 (j:Nat))∧(j≤m∧(B.length:Int)=s+(j:Nat)∧BOk s ns B)∧Has w wr [rowB v B,poolR B,Hp.blk qb (.cells #[.int .i64 s,.slice na m nc] 24 (0,0))]) (fun _ z _=>m - (intOf z).toNat)
   case atStart=>exact⟨0,_,B,⟨rfl,rfl⟩,⟨by omega,HB2.out,HBO.out⟩,H2.out⟩
   case round =>
    clear H2 HB2 HBO HIS B
    obtain⟨j,v3,B,⟨rfl,rfl⟩,⟨hjm,hbl,hbo⟩,h⟩:=hrel
    have H:=Lib.hid h
    have HBL:=Lib.hid (show B.length≤200000 by omega)
    have HBE:=Lib.hid hbl
    have HBO:=Lib.hid hbo
    clear h hbl hbo
    have hb:=(H.out.ord 3 [2]).blk
    have x0:=hEC hb 0
    have x1:=hEC hb 1
    have xl:=lBk hb
    clear hb
    by_cases hlt:j<m
    ·obtain⟨k,hk⟩:∃ k,ns[j]?=some k:=⟨_,List.getElem?_eq_getElem (by rw [HM.out];exact hlt)⟩
     obtain⟨n,hn,hfu,hsum,hkid⟩:=node_sum HG.out hk
     obtain⟨T,hT⟩:∃ T,tr s ns (s+(j:Nat))=T:=⟨_,rfl⟩
     rw [hT] at hfu hsum hkid
     have HS:=Lib.hid (fun q (hq:q≤4)=>sumq_zok hn hfu hq)
     have HFU:=Lib.hid hfu
     have HSUM:=Lib.hid hsum
     have HKID:=Lib.hid hkid
     have HK:=Lib.hid hk
     have HT:=Lib.hid hT
     have HN:=Lib.hid hn
     clear hfu hsum hkid hk hT hn
     go_wp2_with fail
     refine (RFrom_z (x:=0) (by omega) (by omega)).mono ?_
     rintro e w5 ⟨v5,rfl,hb5,hf5⟩
     obtain⟨a5,c5,rfl,h5⟩:=has_big (H.out.step (by (repeat first|exact Fr.refl _ _|assumption|apply Fr.n|apply Fr.d|apply Fr.a|refine Fr.s ?_ (.inr (by simp;try omega)) _))) hf5 hb5 (zok_int (by omega) (by omega))
     have h6:=hAL h5 #[.bool false,.slice a5 (zd ((sumq T 0:Nat):Int)).length c5] 27
     obtain⟨x6,hx6⟩:∃ x,w5.heap.size=x:=⟨_,rfl⟩
     rw [hx6] at h6
     have H6:=Lib.hid (show Has w _ [Hp.blk x6 (.cells #[.bool false,.slice a5 (zd ((sumq T 0:Nat):Int)).length c5] 27 (0,0)),bigR false (zd ((sumq T 0:Nat):Int)) a5 c5,rowB v3 B,poolR B,Hp.blk qb (.cells #[.int .i64 s,.slice na m nc] 24 (0,0))] from h6)
     rw [show decide ((0:Int)<0)=false from rfl]
     clear h5 h6 hb5 hf5 H
     go_wp2
     clear hx6
     go_loopw [7] (fun x wr=>∃ z:Int,x=.int .i64 z∧At5 (fun q=>∃ a c,Has w wr [Hp.blk x6 (.cells #[.bool false,.slice a (zd ((sumq T q:Nat):Int)).length c] 27 (0,0)),bigR false (zd ((sumq T q:Nat):Int)) a c,rowB v3 B,poolR B,Hp.blk qb (.cells #[.int .i64 s,.slice na m nc] 24 (0,0))]) z) (fun x _=>4 - (intOf x).toNat)
     case atStart=>exact⟨0,rfl,.inl ⟨rfl,a5,c5,H6.out⟩⟩
     case round =>
      obtain⟨z,rfl,hz⟩:=hrel
      clear H6
      rcases hz with ⟨rfl,hz⟩|⟨rfl,hz⟩|⟨rfl,hz⟩|⟨rfl,hz⟩|⟨rfl,hz⟩
      ·
       obtain⟨a6,c6,h⟩:=hz
       have H:=Lib.hid h
       have hb:=h.blk
       have y0:=hEC hb 0
       have y1:=hEC hb 1
       have yz0:=hEF hb 0
       have yz1:=hEF hb 1
       have yl:=lBk hb
       have hb:=(h.ord 5 [4]).blk
       have x0:=hEC hb 0
       have x1:=hEC hb 1
       have xl:=lBk hb
       obtain⟨g,off,hna,hg,hkc⟩:=node_cell (HV.out.fr h.fr) HM.out HK.out
       have kc:wr.cell? ⟨g,off+j*4,none⟩=_:=hkc 0 (by omega)
       obtain⟨⟨hk0,hk1⟩,hktr⟩:=HKID.out 0 (by omega)
       obtain⟨t,ht⟩:=Int.eq_ofNat_of_zero_le hk0
       rw [ht] at kc hk1 hktr
       obtain⟨⟨V,aV,cV⟩,hBt⟩:∃ e,B[t]?=some e:=⟨_,List.getElem?_eq_getElem (by have:=HBE.out;omega)⟩
       have hVp:V=popT (Tr.q T 0):=by have:=HBO.out t _ hBt;rw [hktr] at this;exact this
       have hrow:World.ownsRow wr 0 27 2 v3 B.length (bvs B):=((h.ord 3 [2]).row)
       obtain⟨av,cv,hav,_,_⟩:=oFM hrow
       rw [hav] at hrow
       obtain⟨g3,of3,hav2,hg3,b0,b1⟩:=bvs_cell (Reads.of_owns hrow) hBt
       simp only at b0 b1
       have htl:(t:Int)<(B.length:Nat):=by have:=HBE.out;omega
       have HVB:=Lib.hid (show ∀ w1,Fr [] wr w1→BigZ w1 (fun _=>True) (bvV (V,aV,cV)) (V:Int) from fun w1 hf=>in_z' (pool_in (h.step hf) (by simp) (List.mem_of_getElem? hBt)))
       have HSB:=Lib.hid (show ∀ w1,Fr [] wr w1→BigZ w1 (fun _=>True) (bvV (sumq T 0,a6,c6)) ((sumq T 0:Nat):Int) from fun w1 hf=>in_z' (big_mem9 (h.step hf) (by simp)))
       simp only [bvV] at HVB HSB
       have HVP:=Lib.hid hVp
       have HVZ:=Lib.hid (show Zok (V:Int) from by rw [hVp];exact pop_zok (by have:=HN.out;omega) (HFU.out 0 (by omega)))
       subst hna
       subst hav
       subst hav2
       clear h hb hkc hk0 hk1 hktr ht hBt hVp hrow
       go_wp2
       (refine wRT (by kernel_rfl) (by kernel_rfl) ?_)
       go_wp2_with fail
       refine (RAdd_z (HSB.out _ (by (repeat first|exact Fr.refl _ _|assumption|apply Fr.n|apply Fr.d|apply Fr.a|refine Fr.s ?_ (.inr (by simp;try omega)) _))) (HVB.out _ (by (repeat first|exact Fr.refl _ _|assumption|apply Fr.n|apply Fr.d|apply Fr.a|refine Fr.s ?_ (.inr (by simp;try omega)) _))) (HS.out 0 (by omega)) HVZ.out (by rw [← Int.natCast_add,HVP.out];exact HS.out (0+1) (by omega))).mono ?_
       rw [← Int.natCast_add,HVP.out,show sumq T 0+popT (Tr.q T 0)=sumq T 1 from rfl]
       rintro e w6 ⟨v7,rfl,hb7,hf7⟩
       obtain⟨a7,c7,rfl,h7⟩:=has_big (H.out.step (by (repeat first|exact Fr.refl _ _|assumption|apply Fr.n|apply Fr.d|apply Fr.a|refine Fr.s ?_ (.inr (by simp;try omega)) _))) hf7 hb7 (HS.out 1 (by omega))
       rw [show decide (((sumq T 1:Nat):Int)<0)=false by simp] at h7 ⊢
       have h8:=h7.ord 6 [1,0,3,4,5]
       simp only [List.filterMap_cons,List.filterMap_nil,List.getElem?_cons_zero,List.getElem?_cons_succ,List.drop_succ_cons,List.drop_zero,List.cons_append,List.nil_append,List.take_succ_cons,List.take_zero,List.eraseIdx_cons_succ,List.eraseIdx_zero,List.eraseIdx_cons_zero,List.tail_cons,Option.toList_some] at h8
       have hb:=h8.blk
       clear y0 y1 yz0 yz1 yl x0 x1 xl hg kc hg3 b0 b1
       have y0:=hEC hb 0
       have y1:=hEC hb 1
       have yz0:=hEF hb 0
       have yz1:=hEF hb 1
       have yl:=lBk hb
       have H8:=Lib.hid (hST (hST h8 0 (.bool false)) 1 (.slice a7 (zd ((sumq T 1:Nat):Int)).length c7))
       clear h7 h8 hb7 hf7 hb H HVB HSB HVP HVZ
       go_wp2
       refine Strict.intro rfl ?_
       go_wp2
       go_roundw
       case rel=>exact⟨1,rfl,(.inr (.inl ⟨rfl,a7,c7,H8.out⟩))⟩
       case measure=>simp [intOf]
      ·
       obtain⟨a6,c6,h⟩:=hz
       have H:=Lib.hid h
       have hb:=h.blk
       have y0:=hEC hb 0
       have y1:=hEC hb 1
       have yz0:=hEF hb 0
       have yz1:=hEF hb 1
       have yl:=lBk hb
       have hb:=(h.ord 5 [4]).blk
       have x0:=hEC hb 0
       have x1:=hEC hb 1
       have xl:=lBk hb
       obtain⟨g,off,hna,hg,hkc⟩:=node_cell (HV.out.fr h.fr) HM.out HK.out
       have kc:wr.cell? ⟨g,off+j*4+1,none⟩=_:=hkc 1 (by omega)
       obtain⟨⟨hk0,hk1⟩,hktr⟩:=HKID.out 1 (by omega)
       obtain⟨t,ht⟩:=Int.eq_ofNat_of_zero_le hk0
       rw [ht] at kc hk1 hktr
       obtain⟨⟨V,aV,cV⟩,hBt⟩:∃ e,B[t]?=some e:=⟨_,List.getElem?_eq_getElem (by have:=HBE.out;omega)⟩
       have hVp:V=popT (Tr.q T 1):=by have:=HBO.out t _ hBt;rw [hktr] at this;exact this
       have hrow:World.ownsRow wr 0 27 2 v3 B.length (bvs B):=((h.ord 3 [2]).row)
       obtain⟨av,cv,hav,_,_⟩:=oFM hrow
       rw [hav] at hrow
       obtain⟨g3,of3,hav2,hg3,b0,b1⟩:=bvs_cell (Reads.of_owns hrow) hBt
       simp only at b0 b1
       have htl:(t:Int)<(B.length:Nat):=by have:=HBE.out;omega
       have HVB:=Lib.hid (show ∀ w1,Fr [] wr w1→BigZ w1 (fun _=>True) (bvV (V,aV,cV)) (V:Int) from fun w1 hf=>in_z' (pool_in (h.step hf) (by simp) (List.mem_of_getElem? hBt)))
       have HSB:=Lib.hid (show ∀ w1,Fr [] wr w1→BigZ w1 (fun _=>True) (bvV (sumq T 1,a6,c6)) ((sumq T 1:Nat):Int) from fun w1 hf=>in_z' (big_mem9 (h.step hf) (by simp)))
       simp only [bvV] at HVB HSB
       have HVP:=Lib.hid hVp
       have HVZ:=Lib.hid (show Zok (V:Int) from by rw [hVp];exact pop_zok (by have:=HN.out;omega) (HFU.out 1 (by omega)))
       subst hna
       subst hav
       subst hav2
       clear h hb hkc hk0 hk1 hktr ht hBt hVp hrow
       go_wp2
       (refine wRT (by kernel_rfl) (by kernel_rfl) ?_)
       go_wp2_with fail
       refine (RAdd_z (HSB.out _ (by (repeat first|exact Fr.refl _ _|assumption|apply Fr.n|apply Fr.d|apply Fr.a|refine Fr.s ?_ (.inr (by simp;try omega)) _))) (HVB.out _ (by (repeat first|exact Fr.refl _ _|assumption|apply Fr.n|apply Fr.d|apply Fr.a|refine Fr.s ?_ (.inr (by simp;try omega)) _))) (HS.out 1 (by omega)) HVZ.out (by rw [← Int.natCast_add,HVP.out];exact HS.out (1+1) (by omega))).mono ?_
       rw [← Int.natCast_add,HVP.out,show sumq T 1+popT (Tr.q T 1)=sumq T 2 from rfl]
       rintro e w6 ⟨v7,rfl,hb7,hf7⟩
       obtain⟨a7,c7,rfl,h7⟩:=has_big (H.out.step (by (repeat first|exact Fr.refl _ _|assumption|apply Fr.n|apply Fr.d|apply Fr.a|refine Fr.s ?_ (.inr (by simp;try omega)) _))) hf7 hb7 (HS.out 2 (by omega))
       rw [show decide (((sumq T 2:Nat):Int)<0)=false by simp] at h7 ⊢
       have h8:=h7.ord 6 [1,0,3,4,5]
       simp only [List.filterMap_cons,List.filterMap_nil,List.getElem?_cons_zero,List.getElem?_cons_succ,List.drop_succ_cons,List.drop_zero,List.cons_append,List.nil_append,List.take_succ_cons,List.take_zero,List.eraseIdx_cons_succ,List.eraseIdx_zero,List.eraseIdx_cons_zero,List.tail_cons,Option.toList_some] at h8
       have hb:=h8.blk
       clear y0 y1 yz0 yz1 yl x0 x1 xl hg kc hg3 b0 b1
       have y0:=hEC hb 0
       have y1:=hEC hb 1
       have yz0:=hEF hb 0
       have yz1:=hEF hb 1
       have yl:=lBk hb
       have H8:=Lib.hid (hST (hST h8 0 (.bool false)) 1 (.slice a7 (zd ((sumq T 2:Nat):Int)).length c7))
       clear h7 h8 hb7 hf7 hb H HVB HSB HVP HVZ
       go_wp2
       refine Strict.intro rfl ?_
       go_wp2
       go_roundw
       case rel=>exact⟨2,rfl,(.inr (.inr (.inl ⟨rfl,a7,c7,H8.out⟩)))⟩
       case measure=>simp [intOf]
      ·
       obtain⟨a6,c6,h⟩:=hz
       have H:=Lib.hid h
       have hb:=h.blk
       have y0:=hEC hb 0
       have y1:=hEC hb 1
       have yz0:=hEF hb 0
       have yz1:=hEF hb 1
       have yl:=lBk hb
       have hb:=(h.ord 5 [4]).blk
       have x0:=hEC hb 0
       have x1:=hEC hb 1
       have xl:=lBk hb
       obtain⟨g,off,hna,hg,hkc⟩:=node_cell (HV.out.fr h.fr) HM.out HK.out
       have kc:wr.cell? ⟨g,off+j*4+2,none⟩=_:=hkc 2 (by omega)
       obtain⟨⟨hk0,hk1⟩,hktr⟩:=HKID.out 2 (by omega)
       obtain⟨t,ht⟩:=Int.eq_ofNat_of_zero_le hk0
       rw [ht] at kc hk1 hktr
       obtain⟨⟨V,aV,cV⟩,hBt⟩:∃ e,B[t]?=some e:=⟨_,List.getElem?_eq_getElem (by have:=HBE.out;omega)⟩
       have hVp:V=popT (Tr.q T 2):=by have:=HBO.out t _ hBt;rw [hktr] at this;exact this
       have hrow:World.ownsRow wr 0 27 2 v3 B.length (bvs B):=((h.ord 3 [2]).row)
       obtain⟨av,cv,hav,_,_⟩:=oFM hrow
       rw [hav] at hrow
       obtain⟨g3,of3,hav2,hg3,b0,b1⟩:=bvs_cell (Reads.of_owns hrow) hBt
       simp only at b0 b1
       have htl:(t:Int)<(B.length:Nat):=by have:=HBE.out;omega
       have HVB:=Lib.hid (show ∀ w1,Fr [] wr w1→BigZ w1 (fun _=>True) (bvV (V,aV,cV)) (V:Int) from fun w1 hf=>in_z' (pool_in (h.step hf) (by simp) (List.mem_of_getElem? hBt)))
       have HSB:=Lib.hid (show ∀ w1,Fr [] wr w1→BigZ w1 (fun _=>True) (bvV (sumq T 2,a6,c6)) ((sumq T 2:Nat):Int) from fun w1 hf=>in_z' (big_mem9 (h.step hf) (by simp)))
       simp only [bvV] at HVB HSB
       have HVP:=Lib.hid hVp
       have HVZ:=Lib.hid (show Zok (V:Int) from by rw [hVp];exact pop_zok (by have:=HN.out;omega) (HFU.out 2 (by omega)))
       subst hna
       subst hav
       subst hav2
       clear h hb hkc hk0 hk1 hktr ht hBt hVp hrow
       go_wp2
       (refine wRT (by kernel_rfl) (by kernel_rfl) ?_)
       go_wp2_with fail
       refine (RAdd_z (HSB.out _ (by (repeat first|exact Fr.refl _ _|assumption|apply Fr.n|apply Fr.d|apply Fr.a|refine Fr.s ?_ (.inr (by simp;try omega)) _))) (HVB.out _ (by (repeat first|exact Fr.refl _ _|assumption|apply Fr.n|apply Fr.d|apply Fr.a|refine Fr.s ?_ (.inr (by simp;try omega)) _))) (HS.out 2 (by omega)) HVZ.out (by rw [← Int.natCast_add,HVP.out];exact HS.out (2+1) (by omega))).mono ?_
       rw [← Int.natCast_add,HVP.out,show sumq T 2+popT (Tr.q T 2)=sumq T 3 from rfl]
       rintro e w6 ⟨v7,rfl,hb7,hf7⟩
       obtain⟨a7,c7,rfl,h7⟩:=has_big (H.out.step (by (repeat first|exact Fr.refl _ _|assumption|apply Fr.n|apply Fr.d|apply Fr.a|refine Fr.s ?_ (.inr (by simp;try omega)) _))) hf7 hb7 (HS.out 3 (by omega))
       rw [show decide (((sumq T 3:Nat):Int)<0)=false by simp] at h7 ⊢
       have h8:=h7.ord 6 [1,0,3,4,5]
       simp only [List.filterMap_cons,List.filterMap_nil,List.getElem?_cons_zero,List.getElem?_cons_succ,List.drop_succ_cons,List.drop_zero,List.cons_append,List.nil_append,List.take_succ_cons,List.take_zero,List.eraseIdx_cons_succ,List.eraseIdx_zero,List.eraseIdx_cons_zero,List.tail_cons,Option.toList_some] at h8
       have hb:=h8.blk
       clear y0 y1 yz0 yz1 yl x0 x1 xl hg kc hg3 b0 b1
       have y0:=hEC hb 0
       have y1:=hEC hb 1
       have yz0:=hEF hb 0
       have yz1:=hEF hb 1
       have yl:=lBk hb
       have H8:=Lib.hid (hST (hST h8 0 (.bool false)) 1 (.slice a7 (zd ((sumq T 3:Nat):Int)).length c7))
       clear h7 h8 hb7 hf7 hb H HVB HSB HVP HVZ
       go_wp2
       refine Strict.intro rfl ?_
       go_wp2
       go_roundw
       case rel=>exact⟨3,rfl,(.inr (.inr (.inr (.inl ⟨rfl,a7,c7,H8.out⟩))))⟩
       case measure=>simp [intOf]
      ·
       obtain⟨a6,c6,h⟩:=hz
       have H:=Lib.hid h
       have hb:=h.blk
       have y0:=hEC hb 0
       have y1:=hEC hb 1
       have yz0:=hEF hb 0
       have yz1:=hEF hb 1
       have yl:=lBk hb
       have hb:=(h.ord 5 [4]).blk
       have x0:=hEC hb 0
       have x1:=hEC hb 1
       have xl:=lBk hb
       obtain⟨g,off,hna,hg,hkc⟩:=node_cell (HV.out.fr h.fr) HM.out HK.out
       have kc:wr.cell? ⟨g,off+j*4+3,none⟩=_:=hkc 3 (by omega)
       obtain⟨⟨hk0,hk1⟩,hktr⟩:=HKID.out 3 (by omega)
       obtain⟨t,ht⟩:=Int.eq_ofNat_of_zero_le hk0
       rw [ht] at kc hk1 hktr
       obtain⟨⟨V,aV,cV⟩,hBt⟩:∃ e,B[t]?=some e:=⟨_,List.getElem?_eq_getElem (by have:=HBE.out;omega)⟩
       have hVp:V=popT (Tr.q T 3):=by have:=HBO.out t _ hBt;rw [hktr] at this;exact this
       have hrow:World.ownsRow wr 0 27 2 v3 B.length (bvs B):=((h.ord 3 [2]).row)
       obtain⟨av,cv,hav,_,_⟩:=oFM hrow
       rw [hav] at hrow
       obtain⟨g3,of3,hav2,hg3,b0,b1⟩:=bvs_cell (Reads.of_owns hrow) hBt
       simp only at b0 b1
       have htl:(t:Int)<(B.length:Nat):=by have:=HBE.out;omega
       have HVB:=Lib.hid (show ∀ w1,Fr [] wr w1→BigZ w1 (fun _=>True) (bvV (V,aV,cV)) (V:Int) from fun w1 hf=>in_z' (pool_in (h.step hf) (by simp) (List.mem_of_getElem? hBt)))
       have HSB:=Lib.hid (show ∀ w1,Fr [] wr w1→BigZ w1 (fun _=>True) (bvV (sumq T 3,a6,c6)) ((sumq T 3:Nat):Int) from fun w1 hf=>in_z' (big_mem9 (h.step hf) (by simp)))
       simp only [bvV] at HVB HSB
       have HVP:=Lib.hid hVp
       have HVZ:=Lib.hid (show Zok (V:Int) from by rw [hVp];exact pop_zok (by have:=HN.out;omega) (HFU.out 3 (by omega)))
       subst hna
       subst hav
       subst hav2
       clear h hb hkc hk0 hk1 hktr ht hBt hVp hrow
       go_wp2
       (refine wRT (by kernel_rfl) (by kernel_rfl) ?_)
       go_wp2_with fail
       refine (RAdd_z (HSB.out _ (by (repeat first|exact Fr.refl _ _|assumption|apply Fr.n|apply Fr.d|apply Fr.a|refine Fr.s ?_ (.inr (by simp;try omega)) _))) (HVB.out _ (by (repeat first|exact Fr.refl _ _|assumption|apply Fr.n|apply Fr.d|apply Fr.a|refine Fr.s ?_ (.inr (by simp;try omega)) _))) (HS.out 3 (by omega)) HVZ.out (by rw [← Int.natCast_add,HVP.out];exact HS.out (3+1) (by omega))).mono ?_
       rw [← Int.natCast_add,HVP.out,show sumq T 3+popT (Tr.q T 3)=sumq T 4 from rfl]
       rintro e w6 ⟨v7,rfl,hb7,hf7⟩
       obtain⟨a7,c7,rfl,h7⟩:=has_big (H.out.step (by (repeat first|exact Fr.refl _ _|assumption|apply Fr.n|apply Fr.d|apply Fr.a|refine Fr.s ?_ (.inr (by simp;try omega)) _))) hf7 hb7 (HS.out 4 (by omega))
       rw [show decide (((sumq T 4:Nat):Int)<0)=false by simp] at h7 ⊢
       have h8:=h7.ord 6 [1,0,3,4,5]
       simp only [List.filterMap_cons,List.filterMap_nil,List.getElem?_cons_zero,List.getElem?_cons_succ,List.drop_succ_cons,List.drop_zero,List.cons_append,List.nil_append,List.take_succ_cons,List.take_zero,List.eraseIdx_cons_succ,List.eraseIdx_zero,List.eraseIdx_cons_zero,List.tail_cons,Option.toList_some] at h8
       have hb:=h8.blk
       clear y0 y1 yz0 yz1 yl x0 x1 xl hg kc hg3 b0 b1
       have y0:=hEC hb 0
       have y1:=hEC hb 1
       have yz0:=hEF hb 0
       have yz1:=hEF hb 1
       have yl:=lBk hb
       have H8:=Lib.hid (hST (hST h8 0 (.bool false)) 1 (.slice a7 (zd ((sumq T 4:Nat):Int)).length c7))
       clear h7 h8 hb7 hf7 hb H HVB HSB HVP HVZ
       go_wp2
       refine Strict.intro rfl ?_
       go_wp2
       go_roundw
       case rel=>exact⟨4,rfl,(.inr (.inr (.inr (.inr ⟨rfl,a7,c7,H8.out⟩))))⟩
       case measure=>simp [intOf]
      ·obtain⟨a6,c6,h⟩:=hz
       have hb:=h.blk
       have y0:=hEC hb 0
       have y1:=hEC hb 1
       have yl:=lBk hb
       have HSM:=Lib.hid (show sumq T 4=popT (tr s ns ((B.length:Nat):Int)) by rw [HBE.out,HT.out,HSUM.out])
       obtain⟨S,hS⟩:∃ S,sumq T 4=S:=⟨_,rfl⟩
       rw [hS] at h y0 y1 HSM
       have h:=h.ord 5 [2,1,3,4]
       simp only [List.filterMap_cons,List.filterMap_nil,List.getElem?_cons_zero,List.getElem?_cons_succ,List.drop_succ_cons,List.drop_zero,List.cons_append,List.nil_append,List.take_succ_cons,List.take_zero,List.eraseIdx_cons_succ,List.eraseIdx_zero,List.eraseIdx_cons_zero,List.tail_cons,Option.toList_some] at h
       have H:=Lib.hid h
       clear h hb hS
       have hrow:=H.out.row
       have HO:=Lib.hid (show World.ownsRow _ 0 27 2 _ B.length (bvs B) from hrow)
       clear hrow
       go_wp2_with (at_builtin;refine append_bv (n:=B.length) (base:=0) (xs:=bvs B) (y:=(S,a6,c6)) rfl rfl rfl ?e12 rfl ?e22 ?e32 ?e42 ?_)
       case e12=>exact oOB HO.out fun g hg=>hAE _ _ _ (oLT HO.out hg)
       case e22=>first|(first|(rw [hAC,if_pos rfl];done)|exact (Array.getElem?_eq_some_iff.1 ((hAC _ _ _).trans (if_pos rfl))).2|(simp only [hDR,hDN];rw [hAC,if_pos rfl];done))|(refine (Array.getElem?_eq_some_iff.1 ?_).2;(repeat first|rw [if_pos (by omega)]|rw [if_neg (by omega)]|rw [hDR]|rw [hDN]|rw [hAz]|rw [hSz]|rw [hAC]|rw [hSC]|rw [oMS]|rw [uPC]|rw [lSZ]|rw [lSS]|rfl))
       case e32=>have:=HBL.out;omega
       case e42=>omega
       intro g22 cap2 w10 hown1 hW1 hF1 hloc1 hg1
       rw [bvs_snoc _ (S,a6,c6)] at hown1
       have h9:=hAP (n':=(B++([(S,a6,c6)]:List BV)).length) (H.out.step (by (repeat first|exact Fr.refl _ _|assumption|apply Fr.n|apply Fr.d|apply Fr.a|refine Fr.s ?_ (.inr (by simp;try omega)) _))) (by rw [List.length_append];exact hown1) rfl hF1 (by rcases hloc1 with h|h;exact .inl h;exact .inr (by rw [h];simp))
       clear hown1 hW1 hF1 hloc1 hg1 HO
       have h9:=h9.ord 4 [1,2,0,3]
       simp only [List.filterMap_cons,List.filterMap_nil,List.getElem?_cons_zero,List.getElem?_cons_succ,List.drop_succ_cons,List.drop_zero,List.cons_append,List.nil_append,List.take_succ_cons,List.take_zero,List.eraseIdx_cons_succ,List.eraseIdx_zero,List.eraseIdx_cons_zero,List.tail_cons,Option.toList_some] at h9
       have h9:=(pool_sub (pool_add h9) (L':=B++[(S,a6,c6)]) (fun e he=>by simp at he ⊢;exact he.symm)).swap
       have H9:=Lib.hid h9
       clear h9 y0 y1 yl
       go_wp2
       go_roundw
       case rel=>exact⟨j+1,_,B++[(S,a6,c6)],⟨rfl,by go_num⟩,⟨by omega,by rw [List.length_append];have:=HBE.out;simp;omega,HBO.out.snoc HSM.out⟩,H9.out.step (by (repeat first|exact Fr.refl _ _|assumption|apply Fr.n|apply Fr.d|apply Fr.a|refine Fr.s ?_ (.inr (by simp;try omega)) _))⟩
       case measure=>simp [intOf];omega
    ·obtain rfl:j=m:=by omega
     obtain⟨av,cv,hav,_,_⟩:=oFM (show World.ownsRow wr 0 27 2 v3 B.length (bvs B) from H.out.row)
     subst hav
     go_wp2
     go_ret
     exact⟨av,cv,B,rfl,by have:=HBE.out;omega,HBO.out,(H.out.ord 3 [0,1]).step (by (repeat first|exact Fr.refl _ _|assumption|apply Fr.n|apply Fr.d|apply Fr.a|refine Fr.s ?_ (.inr (by simp;try omega)) _))⟩
end Go.Proofs.YtdanghnadbkhfaaGreat
end
section
namespace Go.Proofs.Pt
end Go.Proofs.Pt
namespace Go.Proofs.YtdanghnadbkhfaaGreat
open Go Go.RowKit Rg Mp Hp Pt
end Go.Proofs.YtdanghnadbkhfaaGreat
end
section
namespace Go.Proofs.YtdanghnadbkhfaaGreat
open Go Go.RowKit Rg Mp Hp Qs Ev Bn Pt
end Go.Proofs.YtdanghnadbkhfaaGreat
end
section
namespace Go.Proofs.YtdanghnadbkhfaaGreat
open Go Go.RowKit Rg Mp Hp Qs Ev Bn Pt
structure FrSt (W wr:World) (b:Nat) (s:Int) (ns:List K4) (Ps:List Res) (p:List PC) (x y:Int) (L i:Nat) (v:Value) (E:List SV) (PL:List BV):Prop where
 le:i≤p.length
 mp:E.map SV.spot=(p.take i).map (spot x y)
 all:(p.take i).all (inC x y L)=true
 el:∀ e∈E,e.X∈PL∧e.Y∈PL
 has:Has W wr (Hp.row 117 5 v E.length (svs E)::poolR PL::refR b s ns::Ps)
theorem FrSt.len {W wr:World} {b:Nat} {s:Int} {ns:List K4} {Ps:List Res} {p:List PC} {x y:Int} {L i:Nat} {v:Value} {E:List SV} {PL:List BV} (h:FrSt W wr b s ns Ps p x y L i v E PL):E.length≤p.length:=by
 have:=congrArg List.length h.mp
 rw [map_spot_len,List.length_map,List.length_take] at this
 omega
theorem FrSt.add {W wr w2:World} {b:Nat} {s:Int} {ns:List K4} {Ps:List Res} {p:List PC} {x y:Int} {L i:Nat} {v v2:Value} {E:List SV} {PL:List BV} (h:FrSt W wr b s ns Ps p x y L i v E PL) {c:PC} {e:SV} (hc:p[i]?=some c) (hi:inC x y L c=true) (he:e.spot=spot x y c)
  (hw:Has W w2 (Hp.row 117 5 v2 (E++[e]).length (svs (E++[e]))::poolR (e.Y::e.X::PL)::refR b s ns::Ps)):FrSt W w2 b s ns Ps p x y L (i+1) v2 (E++[e]) (e.Y::e.X::PL) :=
 ⟨(
  List.getElem?_eq_some_iff.1 hc).1,by rw [List.map_append,h.mp,List.take_add_one,hc,List.map_append];show _++[e.spot]=_++[spot x y c];rw [he],all_take h.all hc hi,fun z hz=>by
  rw [List.mem_append] at hz
  rcases hz with hz|hz
  ·have:=h.el z hz;exact⟨by simp [this.1],by simp [this.2]⟩
  ·rw [List.mem_singleton] at hz;subst hz;simp,hw⟩
end Go.Proofs.YtdanghnadbkhfaaGreat
end
section
namespace Go.Proofs.YtdanghnadbkhfaaGreat
open Go Go.RowKit Rg Mp Hp Qs Ev Bn Pt
abbrev IV:=Int×Option Addr×Nat
def ivF (p:IV):List Nat:=if (zd p.1).length=0 then [] else (Value.slice p.2.1 (zd p.1).length p.2.2).ownBlock.toList
def poolI (L:List IV):Res where
 holds w F:=(∀ e∈L,BigIn w (decide (e.1<0)) (zd e.1) e.2.1 e.2.2∧∀ x∈ivF e,x∈F)∧∀ x∈F,x<w.heap.size
 keep:=fun {w w' F} ⟨h1,h2⟩ hk=>⟨fun e he=>⟨big_keep (h1 e he).1 fun x hx=>hk x ((h1 e he).2 x hx),(h1 e he).2⟩,fun x hx=>by
  obtain⟨o,ho⟩:∃ o,w.heap[x]?=some o:=⟨_,Array.getElem?_eq_getElem (h2 x hx)⟩
  exact lBk ((hk x hx).trans ho)⟩
 lt:=fun ⟨_,h2⟩=>h2
structure SI where
 X:IV
 Y:IV
 st:Int
def SI.pc (e:SI):PC:=⟨e.X.1,e.Y.1,e.st⟩
def siE (e:SI):List Value:=[.bool (decide (e.X.1<0)),.slice e.X.2.1 (zd e.X.1).length e.X.2.2,.bool (decide (e.Y.1<0)),.slice e.Y.2.1 (zd e.Y.1).length e.Y.2.2,.int .i64 e.st]
def sis (l:List SI):List Value:=l.flatMap siE
def rowI (v:Value) (E:List SI):Res:=Hp.row 117 5 v E.length (sis E)
end Go.Proofs.YtdanghnadbkhfaaGreat
end
section
namespace Go.Proofs.YtdanghnadbkhfaaGreat
open Go Go.RowKit Rg Mp Hp Qs Ev Bn Pt
end Go.Proofs.YtdanghnadbkhfaaGreat
end
section
namespace Go.Proofs.YtdanghnadbkhfaaGreat
open Go Go.RowKit Rg Mp Hp Qs Ev Bn Pt
structure CSt (W wr:World) (E:List SI) (PL:List IV) (C:List PC) (a':Option Addr) (c':Nat) (E':List SI) (PL':List IV) (Rs:List Res):Prop where
 mp:E'.map SI.pc=E.map SI.pc++C
 el:∀ e∈E',e.X∈PL'∧e.Y∈PL'
 sub:∀ z∈PL,z∈PL'
 has:Has W wr (rowI (.slice a' E'.length c') E'::poolI PL'::Rs)
theorem CSt.len {W wr:World} {E:List SI} {PL:List IV} {C:List PC} {a':Option Addr} {c':Nat} {E':List SI} {PL':List IV} {Rs:List Res} (h:CSt W wr E PL C a' c' E' PL' Rs):E'.length=E.length+C.length:=by
 have:=congrArg List.length h.mp
 simpa using this
end Go.Proofs.YtdanghnadbkhfaaGreat
end
section
namespace Go.Proofs.YtdanghnadbkhfaaGreat
open Go Go.RowKit Rg Mp Hp Pt
end Go.Proofs.YtdanghnadbkhfaaGreat
end
section
namespace Go.Proofs.YtdanghnadbkhfaaGreat
open Go Go.RowKit Rg Mp Hp Qs Ev Bn Pt
theorem Rknown_q {W w:World} {b:Nat} {s:Int} {ns:List K4} {Ps:List Res} (h:Has W w (refR b s ns::Ps)) (id:Int) :
  Calls Tryz.prog 48 #[.pointer (some ⟨b,0,none⟩),.int .i64 id] w fun e w'=>e=.returned (.int .i64 (knownQ s ns id))∧Fr [] w w':=by
 have HL:=Lib.hid (fun w1 (hf:Fr [] w w1)=>RLevel_has (h.step hf) id)
 unfold knownQ
 obtain⟨l,hl⟩:∃ l,lvl s (levs s ns) id=l:=⟨_,rfl⟩
 rw [hl] at HL ⊢
 clear h hl
 by_cases h0:l<0
 ·rw [if_pos h0]
  have hd:decide (l<0)=true:=by simpa using h0
  clear h0
  go_enter Tryz.func48,Tryz.ntmps48
  go_wp2_with fail
  refine (HL.out _ (by (repeat first|exact Fr.refl _ _|assumption|apply Fr.n|apply Fr.d|apply Fr.a|refine Fr.s ?_ (.inr (by simp;try omega)) _))).mono ?_
  rintro e w1 ⟨rfl,hf⟩
  have Hf:=Lib.hid (Fr.trans0 (by (repeat first|exact Fr.refl _ _|assumption|apply Fr.n|apply Fr.d|apply Fr.a|refine Fr.s ?_ (.inr (by simp;try omega)) _):Fr [] w _) hf)
  clear hf
  go_wp2
  go_ret
  exact⟨rfl,Hf.out.trans0 (by (repeat first|exact Fr.refl _ _|assumption|apply Fr.n|apply Fr.d|apply Fr.a|refine Fr.s ?_ (.inr (by simp;try omega)) _))⟩
 ·rw [if_neg h0]
  have hd:decide (l<0)=false:=by simpa using h0
  clear h0
  go_enter Tryz.func48,Tryz.ntmps48
  go_wp2_with fail
  refine (HL.out _ (by (repeat first|exact Fr.refl _ _|assumption|apply Fr.n|apply Fr.d|apply Fr.a|refine Fr.s ?_ (.inr (by simp;try omega)) _))).mono ?_
  rintro e w1 ⟨rfl,hf⟩
  have Hf:=Lib.hid (Fr.trans0 (by (repeat first|exact Fr.refl _ _|assumption|apply Fr.n|apply Fr.d|apply Fr.a|refine Fr.s ?_ (.inr (by simp;try omega)) _):Fr [] w _) hf)
  clear hf
  go_wp2
  go_ret
  exact⟨rfl,Hf.out.trans0 (by (repeat first|exact Fr.refl _ _|assumption|apply Fr.n|apply Fr.d|apply Fr.a|refine Fr.s ?_ (.inr (by simp;try omega)) _))⟩
end Go.Proofs.YtdanghnadbkhfaaGreat
end
section
namespace Go.Proofs.YtdanghnadbkhfaaGreat
open Go Go.RowKit Rg Mp Hp Qs Ev Bn Pt
set_option maxHeartbeats 16000000 in
set_option maxRecDepth 100000 in
theorem RPopulation_q {W w:World} {b:Nat} {s:Int} {ns:List K4} {Ps:List Res} (h:Has W w (refR b s ns::Ps)) (id:Int) :
  Calls Tryz.prog 12 #[.pointer (some ⟨b,0,none⟩),.int .i64 id] w fun e w' =>
   ∃ a c,e=.returned (.tuple #[bvV (popQ s ns id,a,c),.int .i64 (knownQ s ns id)])∧Has W w' (refR b s ns::bigR false (zd ((popQ s ns id:Nat):Int)) a c::Ps):=by
 have hg:=ref_good h
 have HKN:=Lib.hid (fun w1 Qs (h1:Has W w1 (refR b s ns::Qs))=>Rknown_q h1 id)
 have h0:=(hAL h #[.bool false,.slice none 0 0] 27).swap
 obtain⟨r4,hr4⟩:∃ r4,w.heap.size=r4:=⟨_,rfl⟩
 rw [hr4] at h0
 have H0:=Lib.hid h0
 unfold knownQ at HKN ⊢
 unfold popQ
 by_cases hl0:lvl s (levs s ns) id<0
 ·simp only [if_pos hl0] at HKN ⊢
  clear h hg hl0 h0
  go_enter Tryz.func12,Tryz.ntmps12
  go_wp2_with fail
  refine (HKN.out _ _ H0.out).mono ?_
  rintro e w1 ⟨rfl,hf⟩
  have H1:=Lib.hid (H0.out.step hf)
  clear hf H0
  have hr:=H1.out.swap.blk
  have r0:=hEC hr 0
  have r1:=hEC hr 1
  have rz0:=hEF hr 0
  have rz1:=hEF hr 1
  have rl:=lBk hr
  clear hr
  go_wp2
  refine bodyPost_ret (bRS rfl (b:=r4) (x:=.bool false) (y:=.slice none 0 0) rfl ?_ rfl) rfl ⟨none,0,?_,?_⟩
  ·exact (hST (hST H1.out.swap 0 (.bool false)) 1 (.slice none 0 0)).blk
  ·simp only [bvV,zd0];rfl
  ·exact (has_zero (hST (hST H1.out.swap 0 (.bool false)) 1 (.slice none 0 0)).drop).swap
 simp only [if_neg hl0] at HKN ⊢
 obtain⟨n,hn,hn256,hi⟩:=level_nat hg (id:=id) (by omega)
 obtain⟨k,rfl⟩:=Int.eq_ofNat_of_zero_le hi.1.1
 obtain⟨V,hV⟩:∃ V,popT (tr s ns ((k:Nat):Int))=V:=⟨_,rfl⟩
 rw [hV]
 have HVV:=Lib.hid hV
 have HKK:=Lib.hid hi.1.2
 clear h hg hl0 h0 hn hn256 hi hV
 go_enter Tryz.func12,Tryz.ntmps12
 go_wp2_with fail
 refine (HKN.out _ _ H0.out).mono ?_
 rintro e w1 ⟨rfl,hf⟩
 have H1:=Lib.hid (H0.out.step hf)
 clear hf H0
 go_wp2_with fail
 refine (RData_has (H1.out.step (by (repeat first|exact Fr.refl _ _|assumption|apply Fr.n|apply Fr.d|apply Fr.a|refine Fr.s ?_ (.inr (by simp;try omega)) _)))).mono ?_
 rintro e w2 ⟨dv,rfl,h2⟩
 obtain⟨da,dc,rfl,_,_⟩:=oFM h2.row
 have HC:=Lib.hid (Rcounts_h (s:=s) (Reads.of_owns h2.row) (ref_good h2.drop))
 have H2:=Lib.hid h2
 clear h2 H1
 go_wp2_with fail
 refine HC.out.mono ?_
 rintro e w3 ⟨ba,bc,B,rfl,hbl,hbo,h3⟩
 have h4:=has_join (H2.out.step (by (repeat first|exact Fr.refl _ _|assumption|apply Fr.n|apply Fr.d|apply Fr.a|refine Fr.s ?_ (.inr (by simp;try omega)) _))) h3
 simp only [List.cons_append,List.nil_append] at h4
 have h4:=h4.ord 5 [3,4,0,1]
 simp only [List.filterMap_cons,List.filterMap_nil,List.getElem?_cons_zero,List.getElem?_cons_succ,List.drop_succ_cons,List.drop_zero,List.cons_append,List.nil_append,List.take_succ_cons,List.take_zero,List.eraseIdx_cons_succ,List.eraseIdx_zero,List.eraseIdx_cons_zero,List.tail_cons,Option.toList_some] at h4
 obtain⟨⟨V',aV,cV⟩,hBk⟩:∃ e,B[k]?=some e:=⟨_,List.getElem?_eq_getElem (by have:=HKK.out;omega)⟩
 have hkl:((k:Nat):Int)<(B.length:Nat):=by have:=HKK.out;omega
 obtain rfl:V'=V:=by have:=hbo k _ hBk;rw [HVV.out] at this;exact this
 obtain⟨g,off,rfl,hg,b0,b1⟩:=bvs_cell (Reads.of_owns (h4.ord 4 [2]).row) hBk
 simp only at b0 b1
 have h5:=h4.ord 4 [3,0,1]
 simp only [List.filterMap_cons,List.filterMap_nil,List.getElem?_cons_zero,List.getElem?_cons_succ,List.drop_succ_cons,List.drop_zero,List.cons_append,List.nil_append,List.take_succ_cons,List.take_zero,List.eraseIdx_cons_succ,List.eraseIdx_zero,List.eraseIdx_cons_zero,List.tail_cons,Option.toList_some] at h5
 have h5:=(pool_take h5 (List.mem_of_getElem? hBk)).ord 3 [1,2,0]
 simp only [List.filterMap_cons,List.filterMap_nil,List.getElem?_cons_zero,List.getElem?_cons_succ,List.drop_succ_cons,List.drop_zero,List.cons_append,List.nil_append,List.take_succ_cons,List.take_zero,List.eraseIdx_cons_succ,List.eraseIdx_zero,List.eraseIdx_cons_zero,List.tail_cons,Option.toList_some] at h5
 have hr:=h5.swap.blk
 have r0:=hEC hr 0
 have r1:=hEC hr 1
 have rz0:=hEF hr 0
 have rz1:=hEF hr 1
 have rl:=lBk hr
 clear hr
 have H5:=Lib.hid h5
 clear h3 h4 h5 hbl hbo hBk H2 HC
 go_wp2
 refine bodyPost_ret (bRS rfl (b:=r4) (x:=.bool false) (y:=.slice aV (zd (V':Int)).length cV) rfl ?_ rfl) rfl ⟨aV,cV,rfl,?_⟩
 ·exact (hST (hST H5.out.swap 0 (.bool false)) 1 (.slice aV (zd (V':Int)).length cV)).blk
 ·exact (hST (hST H5.out.swap 0 (.bool false)) 1 (.slice aV (zd (V':Int)).length cV)).drop
end Go.Proofs.YtdanghnadbkhfaaGreat
end
