/- Own texts of this claim, part 30: no condition. -/
import Derived.Test.YtdanghnadbkhfaaGreatZR28
section
namespace Go.Proofs.YtdanghnadbkhfaaGreat
open Go Go.RowKit Rg Mp Hp Qs Ev Bn Pt
set_option linter.unusedVariables false
set_option linter.unusedSimpArgs false
def fvE (f:FV):List Value:=(fCL f).toList
def fvs (l:List FV):List Value:=l.flatMap fvE
theorem fvs_get:∀ {l:List FV} {i:Nat} {c:FV},l[i]?=some c→∀ {j:Nat} {u:Value},(fvE c)[j]?=some u→(fvs l)[i*9+j]?=some u
 | [],i,c,h,_,_,_=>by simp at h
 | d::l,0,c,h,j,u,hu=>by
  simp only [List.getElem?_cons_zero,Option.some.injEq] at h
  subst h
  have e:fvs (d::l)=fvE d++fvs l:=rfl
  rw [e,Nat.zero_mul,Nat.zero_add,List.getElem?_append_left (List.getElem?_eq_some_iff.1 hu).1]
  exact hu
 | d::l,i+1,c,h,j,u,hu=>by
  have:=fvs_get (l:=l) (i:=i) (by simpa using h) hu
  have e:fvs (d::l)=fvE d++fvs l:=rfl
  rw [e,List.getElem?_append_right (by simp [fvE,fCL];omega),show (i+1)*9+j - (fvE d).length=i*9+j by simp [fvE,fCL];omega]
  exact this
theorem fvs_snoc (l:List FV) (c:FV):fvs l++fvE c=fvs (l++[c]):=by simp [fvs]
theorem fvs_cell {w:World} {a:Option Addr} {n c:Nat} {l:List FV} (h:Reads w (.slice a n c) l.length 9 (fvs l)) {i:Nat} {p:FV} (hi:l[i]?=some p) :
  ∃ g off,a=some ⟨g,off,none⟩∧g<w.heap.size∧∀ j u,(fvE p)[j]?=some u→w.cell? ⟨g,off+i*9+j,none⟩=some u:=by
 obtain⟨_,a',c',he,h2⟩:=h
 cases he
 obtain⟨g,off,rfl,hg,hc⟩:=h2 (by have:=(List.getElem?_eq_some_iff.1 hi).1;omega)
 refine⟨g,off,rfl,hg,fun j u hu=>?_⟩
 have:=hc _ _ (fvs_get hi hu)
 rwa [← Nat.add_assoc] at this
theorem info_fv:(Tryz.prog.info? 102).map (fun i=>(i.zero,i.size,i.bytes))=some (some (.agg #[.bool false,.slice none 0 0,.bool false,.slice none 0 0,.bool false,.slice none 0 0,.bool false,.slice none 0 0,.bool false]),9,136):=by kernel_rfl
theorem append_fv {ops:Array Oper} {rest:List Oper} {o:Oper} {a:Act} {W:World} {Q:Exit→Act→World→Prop} (hgd:o.guard=none) {s x:Operand} (ho:o.op=.call { callee:=.builtin .append,args:=#[s,x],argTypes:=#[100,100] })
  {base:Nat} {v:Value} {n:Nat} {xs:List Value} (hs:a.eval s=v) (hown:W.ownsRow base 102 9 v n xs) {nb c:Nat} {y:FV} (hx:a.eval x=.slice (some ⟨nb,0,none⟩) 1 c)
  (hnb:W.heap[nb]?=some (.cells (fCL y) 102 (0,0))) (hn:n≤1000000000) (hbase:base≤W.heap.size)
  (h:∀ g cap w',w'.ownsRow base 102 9 (.slice (some ⟨g,0,none⟩) (n+1) cap) (n+1) (xs++fvE y)→(∀ b,b<W.heap.size→v.ownBlock≠some b→w'.heap[b]?=W.heap[b]?)→Fr v.ownBlock.toList W w'→(v.ownBlock=some g∨g=W.heap.size)→g<w'.heap.size →
   wpList Tryz.prog ops Q rest (a.put o.dst (.slice (some ⟨g,0,none⟩) (n+1) cap)) w'):wpList Tryz.prog ops Q (o::rest) a W :=
 append_new hgd ho Tryz.underlying100 info_fv rfl (by decide) hs hown hx (news:=fvE y) hnb rfl (by simp [fvE,fCL,Value.oneCell']) (by unfold maxLen;omega) (by omega) hbase h
def FOk (s:Int) (ns:List K4) (L:List BV) (B:List FV):Prop:=∀ (j:Nat) (e:FV),B[j]?=some e→FrOk (frT (tr s ns (j:Nat)).ht (tr s ns (j:Nat))) e∧InL L e
theorem FOk.mono {s:Int} {ns:List K4} {L M:List BV} {B:List FV} (h:FOk s ns L B) (hs:∀ x∈L,x∈M):FOk s ns M B:=fun j e he=>⟨(h j e he).1,(h j e he).2.mono hs⟩
theorem FOk.snoc {s:Int} {ns:List K4} {L:List BV} {B:List FV} (h:FOk s ns L B) {e:FV} (he:FrOk (frT (tr s ns (B.length:Nat)).ht (tr s ns (B.length:Nat))) e) (hl:InL L e):FOk s ns L (B++[e]):=fun j x hx=>by
 by_cases hj:j<B.length
 ·rw [List.getElem?_append_left hj] at hx;exact h j x hx
 ·rw [List.getElem?_append_right (by omega)] at hx
  have:j - B.length=0:=by
   rcases Nat.eq_zero_or_pos (j - B.length) with h0|h0
   ·exact h0
   ·rw [List.getElem?_eq_none (by simp;omega)] at hx;cases hx
  rw [this] at hx
  simp only [List.getElem?_cons_zero,Option.some.injEq] at hx
  subst hx
  rw [show j=B.length by omega];exact⟨he,hl⟩
def rowF (v:Value) (B:List FV):Res:=Hp.row 102 9 v B.length (fvs B)
theorem node_frame {s:Int} {ns:List K4} (hg:GoodQ s ns) {i:Nat} {k:K4} (hk:ns[i]?=some k) :
  ∃ n,n+1≤256∧lvl s (levs s ns) (s+(i:Nat))=((n+1:Nat):Int)∧(tr s ns (s+(i:Nat))).ht=n+1∧frT (n+1) (tr s ns (s+(i:Nat)))=outq n (tr s ns (s+(i:Nat))) 4∧∀ q,q<4→(0≤k.get q∧k.get q<s+(i:Nat))∧tr s ns (k.get q)=Tr.q (tr s ns (s+(i:Nat))) q∧(Tr.q (tr s ns (s+(i:Nat))) q).ht=n:=by
 have hi:=(List.getElem?_eq_some_iff.1 hk).1
 have hs:=hg.1
 obtain⟨n0,h0,h1,h2⟩:=level_nat hg (id:=s+(i:Nat)) ((kn_lvl hg _).2 ⟨by omega,by omega⟩)
 have hnode:=tr_node hg hk
 rcases n0 with _|n
 ·exfalso
  have h3:=h2.2.2.1
  rw [hnode] at h3
  exact h3
 ·obtain⟨i',k',he,hk',ha,hb,hc,hd,ht⟩:=h2.kids hg
  obtain rfl:i'=i:=by omega
  obtain rfl:k'=k:=Option.some.inj (hk'.symm.trans hk)
  obtain⟨ka,kb,kc,kd⟩:=good_kids hg hk
  refine⟨n,by omega,h0,full_ht (n+1) h2.2.2.1,outq_four h2.2.2.1,fun q hq=>?_⟩
  have:q=0∨q=1∨q=2∨q=3:=by omega
  rcases this with rfl|rfl|rfl|rfl
  ·exact⟨ka,ha.2.1,full_ht n ha.2.2.1⟩
  ·exact⟨kb,hb.2.1,full_ht n hb.2.2.1⟩
  ·exact⟨kc,hc.2.1,full_ht n hc.2.2.1⟩
  ·exact⟨kd,hd.2.1,full_ht n hd.2.2.1⟩
theorem frok_lt {h:Int} (h0:0<h) {o:Option Frm} {f:FV} (ho:∀ x,o=some x→inF h x) (hf:FrOk o f):(f.2.1.1:Int)<h∧(f.2.2.1.1:Int)<h∧(f.2.2.2.1.1:Int)<h∧(f.2.2.2.2.1:Int)<h:=by
 obtain⟨h1,h2,h3,h4,h5⟩:=hf
 rw [h2,h3,h4,h5]
 cases o with
 | none=>exact⟨h0,h0,h0,h0⟩
 | some x =>
  have:=ho x rfl
  unfold inF at this
  simp only [coF,Option.getD_some]
  omega
def BL (v:Value) (B:List FV) (L:List BV) (qb rb:Nat) (s:Int) (da:Option Addr) (m dc:Nat) (ns:List K4) (b:Nat) (Ps:List Res):List Res :=
 rowF v B::poolR L::Hp.blk qb (.cells #[.int .i64 s,.slice da m dc] 24 (0,0))::Hp.row 105 4 (.slice da m dc) m (flat ns)::Hp.blk rb (.cells (lcells (zFV false)) 42 (0,0))::refR b s ns::Ps
def BI (W:World) (fb hb:Nat) (n:Nat) (T:Tr) (v:Value) (B:List FV) (H:Nat) (ha:Option Addr) (hc:Nat) (qb rb:Nat) (s:Int) (da:Option Addr) (m dc:Nat) (ns:List K4) (b:Nat) (Ps:List Res) (wr:World) (q:Nat):Prop :=
 ∃ f L,Has W wr (Hp.blk fb (.cells (fCL f) 102 (0,0))::Hp.blk hb (.cells #[.bool false,.slice ha (zd (H:Int)).length hc] 27 (0,0))::BL v B L qb rb s da m dc ns b Ps)∧FrOk (outq n T q) f∧InL L f∧FOk s ns L B∧(H,ha,hc)∈L
def RBoundsPost (W:World) (b:Nat) (s:Int) (ns:List K4) (id:Int) (Ps:List Res) (e:Ending) (w':World):Prop :=
 ∃ f L,e=.returned (.tuple #[.agg (lcells f),.bool f.1,.int .i64 (knownQ s ns id)])∧Has W w' (refR b s ns::poolR L::Ps)∧FrOk (frQ s ns id) f∧InL L f
set_option maxHeartbeats 16000000 in
set_option maxRecDepth 100000 in
theorem RBounds_q {W w:World} {b:Nat} {s:Int} {ns:List K4} {Ps:List Res} (h:Has W w (refR b s ns::Ps)) (id:Int) :
  Calls Tryz.prog 14 #[.pointer (some ⟨b,0,none⟩),.int .i64 id] w (RBoundsPost W b s ns id Ps):=by
 have hg:=ref_good h
 have HKN:=Lib.hid (fun w1 Qs (h1:Has W w1 (refR b s ns::Qs))=>Rknown_q h1 id)
 have h0:=(hAL h (lcells (zFV false)) 42).swap
 obtain⟨rb,hrb⟩:∃ r4,w.heap.size=r4:=⟨_,rfl⟩
 rw [hrb,lcells_zero] at h0
 have H0:=Lib.hid h0
 unfold knownQ at HKN
 unfold RBoundsPost knownQ frQ
 by_cases hl0:lvl s (levs s ns) id<0
 ·simp only [if_pos hl0] at HKN ⊢
  clear h hg hl0 h0
  go_enter Tryz.func14,Tryz.ntmps14
  go_wp2_with fail
  refine (HKN.out _ _ H0.out).mono ?_
  rintro e w1 ⟨rfl,hf⟩
  have H1:=Lib.hid (H0.out.step hf)
  clear hf H0
  have hr:=H1.out.swap.blk
  have r0:=hEC hr 0
  have r1:=hEC hr 1
  have r2:=hEC hr 2
  have r3:=hEC hr 3
  have r4:=hEC hr 4
  have r5:=hEC hr 5
  have r6:=hEC hr 6
  have r7':=hEC hr 7
  have rz0:=hEF hr 0
  have rz1:=hEF hr 1
  have rz2:=hEF hr 2
  have rz3:=hEF hr 3
  have rz4:=hEF hr 4
  have rz5:=hEF hr 5
  have rz6:=hEF hr 6
  have rz7':=hEF hr 7
  have rl:=lBk hr
  clear hr
  go_wp2
  have h2:=hST (hST (hST (hST (hST (hST (hST (hST H1.out.swap 0 (.bool false)) 1 (.slice none 0 0)) 2 (.bool false)) 3 (.slice none 0 0)) 4 (.bool false)) 5 (.slice none 0 0)) 6 (.bool false)) 7 (.slice none 0 0)
  refine bodyPost_ret (four_result rfl (b:=rb) (f:=zFV false) rfl ?_ rfl rfl) rfl ⟨zFV false,[zBV],rfl,?_,by simp [FrOk,coF,zFV,zBV],by simp [InL,zFV]⟩
  ·rw [lcells_zero]
   exact h2.blk
  ·exact (z_in (pool_nil h2.drop)).swap
 simp only [if_neg hl0] at HKN ⊢
 obtain⟨n,hn,hn256,hi⟩:=level_nat hg (id:=id) (by omega)
 obtain⟨k,rfl⟩:=Int.eq_ofNat_of_zero_le hi.1.1
 have HKK:=Lib.hid hi.1.2
 have HG:=Lib.hid hg
 clear h hg hl0 h0 hn hn256 hi
 go_enter Tryz.func14,Tryz.ntmps14
 go_wp2_with fail
 refine (HKN.out _ _ H0.out).mono ?_
 rintro e w1 ⟨rfl,hf⟩
 have H1:=Lib.hid (H0.out.step hf)
 clear hf H0
 go_wp2_with fail
 refine (RData_has (H1.out.step (by (repeat first|exact Fr.refl _ _|assumption|apply Fr.n|apply Fr.d|apply Fr.a|refine Fr.s ?_ (.inr (by simp;try omega)) _)))).mono ?_
 rintro e w2 ⟨dv,rfl,h2⟩
 obtain⟨da,dc,rfl,_,_⟩:=oFM h2.row
 have h2:=h2.ord 3 [0,2,1]
 simp only [List.filterMap_cons,List.filterMap_nil,List.getElem?_cons_zero,List.getElem?_cons_succ,List.drop_succ_cons,List.drop_zero,List.cons_append,List.nil_append,List.take_succ_cons,List.take_zero,List.eraseIdx_cons_succ,List.eraseIdx_zero,List.eraseIdx_cons_zero,List.tail_cons,Option.toList_some] at h2
 have h3:=(pool_nil (hAL h2 #[.int .i64 s,.slice da ns.length dc] 24)).newRow (T:=102) (size:=9) (Fr.refl [] _) (owns_nil0 _ _ _ _)
 obtain⟨qb,hqb⟩:∃ x,w2.heap.size=x:=⟨_,rfl⟩
 obtain⟨m,hm⟩:∃ m,ns.length=m:=⟨_,rfl⟩
 have hm1:m≤100000:=by have:=HG.out.2.2.1;omega
 have hs2:=HG.out.1
 have hs8:=HG.out.2.1
 rw [hqb,hm] at h3
 rw [hm]
 have HM:=Lib.hid hm
 have HKM:=Lib.hid (show (k:Int)<s+(m:Nat) from by have:=HKK.out;rw [← hm];exact this)
 have H3:=Lib.hid (show Has W _ (BL (.slice none 0 0) [] [] qb rb s da m dc ns b Ps) from by unfold BL;rw [lcells_zero];exact h3)
 clear h2 h3 hm H1
 go_wp2
 clear hqb
 go_loopw [9,10] (fun z9 z10 wr=>∃ (i:Nat) (v:Value) (B:List FV) (L:List BV),(v=z9∧z10=.int .i64 (i:Nat))∧((i:Int)≤s∧B.length=i∧FOk s ns L B)∧Has W wr (BL v B L qb rb s da m dc ns b Ps)) (fun _ z _=>s.toNat - (intOf z).toNat)
 case atStart=>exact⟨0,_,[],[],⟨rfl,rfl⟩,⟨by omega,rfl,fun j e h=>by simp at h⟩,H3.out⟩
 case round =>
  clear H3
  obtain⟨i,v3,B,L,⟨rfl,rfl⟩,⟨his,hbl,hbo⟩,h⟩:=hrel
  have H:=Lib.hid h
  have HBL:=Lib.hid (show B.length≤200000 by omega)
  have HBE:=Lib.hid hbl
  have HBO:=Lib.hid hbo
  clear h hbl hbo
  have hb:=(H.out.ord 3 [2]).blk
  have x0:=hEC hb 0
  have x1:=hEC hb 1
  have xl:=lBk hb
  clear hb
  by_cases hlt:(i:Int)<s
  ·obtain⟨ok,hok⟩:∃ ok,decide (0<i)=ok:=⟨_,rfl⟩
   have hfr:FrOk (frT (tr s ns ((B.length:Nat):Int)).ht (tr s ns ((B.length:Nat):Int))) (zFV ok):=by
    rw [HBE.out,tr_leaf hlt]
    show FrOk (frT 0 (.leaf _)) _
    unfold frT
    by_cases hz:((i:Nat):Int)=0
    ·rw [if_pos hz,← hok];simp [FrOk,zFV,zBV,coF];omega
    ·rw [if_neg hz,← hok]
     simp [FrOk,zFV,zBV,coF];omega
   have HFR:=Lib.hid hfr
   clear hfr
   have hrow:=H.out.row
   have HO:=Lib.hid (show World.ownsRow _ 0 102 9 _ B.length (fvs B) from hrow)
   clear hrow
   go_wp2_with (at_builtin;refine append_fv (n:=B.length) (base:=0) (xs:=fvs B) (y:=(zFV ok)) rfl rfl rfl ?e11 rfl ?e21 ?e31 ?e41 ?_)
   case e11=>exact oOB HO.out fun g hg=>hAE _ _ _ (oLT HO.out hg)
   case e21 =>
    rw [fcells_zero]
    first|(first|(rw [hAC,if_pos rfl];done)|exact (Array.getElem?_eq_some_iff.1 ((hAC _ _ _).trans (if_pos rfl))).2|(simp only [hDR,hDN];rw [hAC,if_pos rfl];done))|(refine (Array.getElem?_eq_some_iff.1 ?_).2;(repeat first|rw [if_pos (by omega)]|rw [if_neg (by omega)]|rw [hDR]|rw [hDN]|rw [hAz]|rw [hSz]|rw [hAC]|rw [hSC]|rw [oMS]|rw [uPC]|rw [lSZ]|rw [lSS]|rfl))
   case e31=>have:=HBL.out;omega
   case e41=>omega
   intro g21 cap1 w10 hown1 hW1 hF1 hloc1 hg1
   rw [fvs_snoc _ (zFV ok)] at hown1
   have h9:=hAP (n':=(B++([(zFV ok)]:List FV)).length) (H.out.step (by (repeat first|exact Fr.refl _ _|assumption|apply Fr.n|apply Fr.d|apply Fr.a|refine Fr.s ?_ (.inr (by simp;try omega)) _))) (by rw [List.length_append];exact hown1) rfl hF1 (by rcases hloc1 with h|h;exact .inl h;exact .inr (by rw [h];simp))
   clear hown1 hW1 hF1 hloc1 hg1 HO
   have H9:=Lib.hid (show Has W _ (BL _ (B++[zFV ok]) (zBV::L) qb rb s da m dc ns b Ps) from by
    have h10:=(z_in (h9.ord 2 [1,0])).swap
    exact h10)
   clear h9 x0 x1 xl
   go_wp2
   go_roundw
   case rel=>exact⟨i+1,_,B++[zFV ok],zBV::L,⟨rfl,by go_num⟩,⟨by omega,by rw [List.length_append,HBE.out];rfl,(HBO.out.mono fun x hx=>by simp [hx]).snoc HFR.out (by simp [InL,zFV])⟩,H9.out.step (by (repeat first|exact Fr.refl _ _|assumption|apply Fr.n|apply Fr.d|apply Fr.a|refine Fr.s ?_ (.inr (by simp;try omega)) _))⟩
   case measure=>simp [intOf];omega
  ·have his2:((i:Nat):Int)=s:=by omega
   have H2:=Lib.hid (show Has W wr (BL v3 B L qb rb s da m dc ns b Ps) from H.out)
   have HB2:=Lib.hid (show (B.length:Int)=s+((0:Nat):Int) from by have:=HBE.out;omega)
   have hnl:decide (((i:Nat):Int)<s)=false:=by rw [decide_eq_false_iff_not];omega
   clear H his2 HBL HBE
   go_wp2
   clear x0 x1 xl hnl
   go_loopw [9,11] (fun z9 z11 wr=>∃ (j:Nat) (v:Value) (B:List FV) (L:List BV),(v=z9∧z11=.int .i64 (j:Nat))∧(j≤m∧(B.length:Int)=s+(j:Nat)∧FOk s ns L B)∧Has W wr (BL v B L qb rb s da m dc ns b Ps)) (fun _ z _=>m - (intOf z).toNat)
   case atStart=>exact⟨0,_,B,L,⟨rfl,rfl⟩,⟨by omega,HB2.out,HBO.out⟩,H2.out⟩
   case round =>
    clear H2 HB2 HBO B L
    obtain⟨j,v3,B,L,⟨rfl,rfl⟩,⟨hjm,hbl,hbo⟩,h⟩:=hrel
    have H:=Lib.hid h
    have HBL:=Lib.hid (show B.length≤200000 by omega)
    have HBE:=Lib.hid hbl
    have HBO:=Lib.hid hbo
    clear h hbl hbo
    have hb:=(H.out.ord 3 [2]).blk
    have x0:=hEC hb 0
    have x1:=hEC hb 1
    have xl:=lBk hb
    clear hb
    by_cases hlt:j<m
    ·obtain⟨kk,hkk⟩:∃ k,ns[j]?=some k:=⟨_,List.getElem?_eq_getElem (by rw [HM.out];exact hlt)⟩
     obtain⟨n,hn,hlv,hht,hfour,hkid⟩:=node_frame HG.out hkk
     obtain⟨T,hT⟩:∃ T,tr s ns (s+(j:Nat))=T:=⟨_,rfl⟩
     rw [hT] at hht hfour hkid
     have HKID:=Lib.hid hkid
     have HK:=Lib.hid hkk
     have HT:=Lib.hid (And.intro hT (And.intro hht hfour))
     have HN:=Lib.hid hn
     have HLV:=Lib.hid hlv
     obtain⟨Hh,hHh⟩:∃ Hh,2 ^ n=Hh:=⟨_,rfl⟩
     have HHH:=Lib.hid hHh
     have HPW:=Lib.hid (fun w1 Qs (h1:Has W w1 Qs)=>hHh▸Rpower_h h1 (n:=n) (by omega))
     have hlm:IntKind.i64.wrap (((n+1:Nat):Int) - 1)=(n:Nat):=by
      rw [IntWalk.i64_in _ (by omega)];omega
     obtain⟨lv,hlvl⟩:∃ lv:Int,((n+1:Nat):Int)=lv:=⟨_,rfl⟩
     rw [hlvl] at hlm HLV
     clear hkid hkk hT hn hlv hht hfour hHh hlvl
     go_wp2_with fail
     refine (RLevel_has ((H.out.ord 6 [5]).step (by (repeat first|exact Fr.refl _ _|assumption|apply Fr.n|apply Fr.d|apply Fr.a|refine Fr.s ?_ (.inr (by simp;try omega)) _))) (s+(j:Nat))).mono ?_
     rw [HLV.out]
     rintro e w5 ⟨rfl,hf5⟩
     have H5:=Lib.hid (H.out.step (Fr.trans0 (by (repeat first|exact Fr.refl _ _|assumption|apply Fr.n|apply Fr.d|apply Fr.a|refine Fr.s ?_ (.inr (by simp;try omega)) _)) hf5))
     clear hf5 H
     go_wp2_with fail
     refine (HPW.out _ _ (H5.out.step (by (repeat first|exact Fr.refl _ _|assumption|apply Fr.n|apply Fr.d|apply Fr.a|refine Fr.s ?_ (.inr (by simp;try omega)) _)))).mono ?_
     rintro e w6 ⟨ha,hc,rfl,h6⟩
     have h6:=h6.ord 3 [0,2,1]
     simp only [List.filterMap_cons,List.filterMap_nil,List.getElem?_cons_zero,List.getElem?_cons_succ,List.drop_succ_cons,List.drop_zero,List.cons_append,List.nil_append,List.take_succ_cons,List.take_zero,List.eraseIdx_cons_succ,List.eraseIdx_zero,List.eraseIdx_cons_zero,List.tail_cons,Option.toList_some] at h6
     have h6:=z_in (pool_add h6)
     have h7:=hAL h6 #[.bool false,.slice ha (zd (Hh:Int)).length hc] 27
     have h8:=hAL h7 (fCL (zFV false)) 102
     simp only [hAz] at h8
     obtain⟨hb,hhb⟩:∃ x,w6.heap.size=x:=⟨_,rfl⟩
     rw [hhb] at h8
     obtain⟨fb,hfb⟩:∃ x,hb+1=x:=⟨_,rfl⟩
     rw [hfb] at h8
     have h8:=h8.ord 4 [0,1,3,2]
     simp only [List.filterMap_cons,List.filterMap_nil,List.getElem?_cons_zero,List.getElem?_cons_succ,List.drop_succ_cons,List.drop_zero,List.cons_append,List.nil_append,List.take_succ_cons,List.take_zero,List.eraseIdx_cons_succ,List.eraseIdx_zero,List.eraseIdx_cons_zero,List.tail_cons,Option.toList_some] at h8
     have H8:=Lib.hid (show Has W _ (Hp.blk fb (.cells #[.bool false,.slice none 0 0,.bool false,.slice none 0 0,.bool false,.slice none 0 0,.bool false,.slice none 0 0,.bool false] 102 (0,0))::Hp.blk hb (.cells #[.bool false,.slice ha (zd (Hh:Int)).length hc] 27 (0,0))::BL v3 B (zBV::(Hh,ha,hc)::L) qb rb s da m dc ns b Ps) from by
      have h9:=h8
      rw [fcells_zero] at h9
      exact h9)
     rw [fcells_zero] at h8
     clear h6 h7 H5 x0 x1 xl
     go_wp2
     clear hhb hfb h8
     obtain⟨Z,hZ⟩:∃ Z:Nat,Z=0:=⟨0,rfl⟩
     have HZZ:=Lib.hid (show Zok ((Z:Nat):Int) from by rw [hZ];exact zok_int (by omega) (by omega))
     have HF0:=Lib.hid (fun w1=>show Calls Tryz.prog 35 #[.int .i64 0] w1 (RBigCall1 w1 ((Z:Nat):Int)) from by rw [hZ];exact RFrom_z (x:=0) (by omega) (by omega))
     have HZ0:=Lib.hid hZ
     clear hZ
     go_loopw [14] (fun x wr=>∃ z:Int,x=.int .i64 z∧At5 (BI W fb hb n T v3 B Hh ha hc qb rb s da m dc ns b Ps wr) z) (fun x _=>4 - (intOf x).toNat)
     case atStart =>
      refine⟨0,rfl,.inl ⟨rfl,zFV false,zBV::(Hh,ha,hc)::L,?_,by simp [FrOk,zFV,zBV,coF,outq],by simp [InL,zFV],HBO.out.mono fun x hx=>by simp [hx],by simp⟩⟩
      rw [fcells_zero]
      exact H8.out
     case round =>
      obtain⟨z,rfl,hz⟩:=hrel
      clear H8
      rcases hz with ⟨rfl,hz⟩|⟨rfl,hz⟩|⟨rfl,hz⟩|⟨rfl,hz⟩|⟨rfl,hz⟩
      ·
       obtain⟨⟨oka,a0,a1,a2,a3⟩,L,h,hfo,hin,hbo,hhl⟩:=hz
       have HFO:=Lib.hid hfo
       have HIN:=Lib.hid hin
       have HBO:=Lib.hid hbo
       have HHL:=Lib.hid hhl
       have H:=Lib.hid h
       clear h hfo hin hbo hhl
       go_wp2_with fail
       refine (HF0.out _).mono ?_
       rintro e w5 ⟨v5,rfl,hb5,hf5⟩
       obtain⟨c1,d1,rfl,h5⟩:=has_big (H.out.step (by (repeat first|exact Fr.refl _ _|assumption|apply Fr.n|apply Fr.d|apply Fr.a|refine Fr.s ?_ (.inr (by simp;try omega)) _))) hf5 hb5 HZZ.out
       rw [show decide (((Z:Nat):Int)<0)=false by simp] at h5 ⊢
       have H5:=Lib.hid h5
       clear h5 hb5 hf5 H
       go_wp2_with fail
       refine (HF0.out _).mono ?_
       rintro e w6 ⟨v6,rfl,hb6,hf6⟩
       obtain⟨c2,d2,rfl,h6⟩:=has_big (H5.out.step (by (repeat first|exact Fr.refl _ _|assumption|apply Fr.n|apply Fr.d|apply Fr.a|refine Fr.s ?_ (.inr (by simp;try omega)) _))) hf6 hb6 HZZ.out
       rw [show decide (((Z:Nat):Int)<0)=false by simp] at h6 ⊢
       have h6:=h6.ord 6 [1,5,0,2,3,4]
       simp only [List.filterMap_cons,List.filterMap_nil,List.getElem?_cons_zero,List.getElem?_cons_succ,List.drop_succ_cons,List.drop_zero,List.cons_append,List.nil_append,List.take_succ_cons,List.take_zero,List.eraseIdx_cons_succ,List.eraseIdx_zero,List.eraseIdx_cons_zero,List.tail_cons,Option.toList_some] at h6
       have h6:=pool_add h6
       have h6:=h6.ord 2 [1,0]
       simp only [List.filterMap_cons,List.filterMap_nil,List.getElem?_cons_zero,List.getElem?_cons_succ,List.drop_succ_cons,List.drop_zero,List.cons_append,List.nil_append,List.take_succ_cons,List.take_zero,List.eraseIdx_cons_succ,List.eraseIdx_zero,List.eraseIdx_cons_zero,List.tail_cons,Option.toList_some] at h6
       have h6:=pool_add h6
       have hhb:=(h6.ord 3 [2]).blk
       have u0:_=some (Value.bool false):=hEC hhb 0
       have u1:_=some (Value.slice ha (zd (Hh:Int)).length hc):=hEC hhb 1
       have ul:=lBk hhb
       have H6:=Lib.hid h6
       clear h6 hb6 hf6 H5 hhb
       go_wp2
       refine aBW (fun w'=>Has W w' (Hp.blk (w6.heap.size+1) (.cells #[.bool false,.slice (Z,c2,d2).2.1 (zd ((Z,c2,d2).1:Int)).length (Z,c2,d2).2.2] 27 (0,0))::Hp.blk w6.heap.size (.cells #[.bool false,.slice (Z,c1,d1).2.1 (zd ((Z,c1,d1).1:Int)).length (Z,c1,d1).2.2] 27 (0,0))::poolR ((Z,c2,d2)::(Z,c1,d1)::L)::Hp.blk fb (.cells (fCL (oka,a0,a1,a2,a3)) 102 (0,0))::Hp.blk hb (.cells #[.bool false,.slice ha (zd (Hh:Int)).length hc] 27 (0,0))::rowF v3 B::Hp.blk qb (.cells #[.int .i64 s,.slice da m dc] 24 (0,0))::Hp.row 105 4 (.slice da m dc) m (flat ns)::Hp.blk rb (.cells (lcells (zFV false)) 42 (0,0))::refR b s ns::Ps)) ?habs0 ?_
       case habs0 =>
        have h7:=hAL (hAL H6.out #[.bool false,.slice (Z,c1,d1).2.1 (zd ((Z,c1,d1).1:Int)).length (Z,c1,d1).2.2] 27) #[.bool false,.slice (Z,c2,d2).2.1 (zd ((Z,c2,d2).1:Int)).length (Z,c2,d2).2.2] 27
        rw [hAz] at h7
        exact h7
       rintro w7 h7
       obtain⟨x5,hx5⟩:∃ x,w6.heap.size=x:=⟨_,rfl⟩
       rw [hx5] at h7 ⊢
       obtain⟨x6,hx6⟩:∃ x,x5+1=x:=⟨_,rfl⟩
       rw [hx6] at h7 ⊢
       clear hx5 hx6 u0 u1 ul H6
       have hb9:=h7.blk
       have y0:_=some (Value.bool false):=hEC hb9 0
       have y1:_=some (Value.slice (Z,c2,d2).2.1 (zd ((Z,c2,d2).1:Int)).length (Z,c2,d2).2.2):=hEC hb9 1
       have yl:=lBk hb9
       have hb9:=h7.swap.blk
       have z0:_=some (Value.bool false):=hEC hb9 0
       have z1:_=some (Value.slice (Z,c1,d1).2.1 (zd ((Z,c1,d1).1:Int)).length (Z,c1,d1).2.2):=hEC hb9 1
       have zl:=lBk hb9
       have hb9:=(h7.ord 4 [3]).blk
       simp only [fCL] at hb9
       have s0:=hEC hb9 0
       have s1:=hEC hb9 1
       have s2:=hEC hb9 2
       have s3:=hEC hb9 3
       have s4:=hEC hb9 4
       have s5:=hEC hb9 5
       have s6:=hEC hb9 6
       have s7':=hEC hb9 7
       have s8:=hEC hb9 8
       have sz0:=hEF hb9 0
       have sz1:=hEF hb9 1
       have sz2:=hEF hb9 2
       have sz3:=hEF hb9 3
       have sz4:=hEF hb9 4
       have sz5:=hEF hb9 5
       have sz6:=hEF hb9 6
       have sz7':=hEF hb9 7
       have sz8:=hEF hb9 8
       have sl:=lBk hb9
       have hb9:=(h7.ord 7 [6]).blk
       have q1:_=some (Value.slice da m dc):=hEC hb9 1
       have ql:=lBk hb9
       clear hb9
       obtain⟨g,off,hna,hg,hkc⟩:=node_cell (Reads.of_owns (h7.ord 8 [7]).row) HM.out HK.out
       have kc:w7.cell? ⟨g,off+j*4,none⟩=_:=hkc 0 (by omega)
       obtain⟨⟨hk0,hk1⟩,hktr,hkht⟩:=HKID.out 0 (by omega)
       obtain⟨t,ht⟩:=Int.eq_ofNat_of_zero_le hk0
       rw [ht] at kc hk1 hktr
       obtain⟨⟨okb,b0,b1,b2,b3⟩,hBt⟩:∃ e,B[t]?=some e:=⟨_,List.getElem?_eq_getElem (by have:=HBE.out;omega)⟩
       obtain⟨hfb,hlb⟩:=HBO.out t _ hBt
       rw [hktr,hkht] at hfb
       have hrow:World.ownsRow w7 0 102 9 v3 B.length (fvs B):=(h7.ord 6 [5]).row
       obtain⟨av,cv,hav,_,_⟩:=oFM hrow
       rw [hav] at hrow
       obtain⟨g3,of3,hav2,hg3,hcc⟩:=fvs_cell (Reads.of_owns hrow) hBt
       have m0:w7.cell? ⟨g3,of3+t*9,none⟩=some (.bool false):=hcc 0 _ rfl
       have m1:w7.cell? ⟨g3,of3+t*9+1,none⟩=some (.slice b0.2.1 (zd (b0.1:Int)).length b0.2.2):=hcc 1 _ rfl
       have m2:w7.cell? ⟨g3,of3+t*9+2,none⟩=some (.bool false):=hcc 2 _ rfl
       have m3:w7.cell? ⟨g3,of3+t*9+3,none⟩=some (.slice b1.2.1 (zd (b1.1:Int)).length b1.2.2):=hcc 3 _ rfl
       have m4:w7.cell? ⟨g3,of3+t*9+4,none⟩=some (.bool false):=hcc 4 _ rfl
       have m5:w7.cell? ⟨g3,of3+t*9+5,none⟩=some (.slice b2.2.1 (zd (b2.1:Int)).length b2.2.2):=hcc 5 _ rfl
       have m6:w7.cell? ⟨g3,of3+t*9+6,none⟩=some (.bool false):=hcc 6 _ rfl
       have m7:w7.cell? ⟨g3,of3+t*9+7,none⟩=some (.slice b3.2.1 (zd (b3.1:Int)).length b3.2.2):=hcc 7 _ rfl
       have m8:w7.cell? ⟨g3,of3+t*9+8,none⟩=some (.bool okb):=hcc 8 _ rfl
       have htl:(t:Int)<(B.length:Nat):=by have:=HBE.out;omega
       have hHp:(0:Int)<((2 ^ n:Nat):Int):=by have:=Nat.pow_pos (n:=n) (show 0<2 by omega);omega
       have hab:=frok_lt (by omega) (outq_in (n:=n) (t:=T) 0) HFO.out
       have hbb:=frok_lt hHp (frT_in (n:=n) (t:=Tr.q T 0)) hfb
       have HJ:=Lib.hid (fun w8 (hf8:Fr [] w7 w8)=>Rjoined_h (((h7.step hf8).ord 6 [2,0,1,3,4,5])) (X:=(Z,c1,d1)) (Y:=(Z,c2,d2)) HFO.out hfb (HIN.out.mono fun x hx=>by simp [hx]) (hlb.mono fun x hx=>by simp [hx]) (by simp [HHL.out]) (by simp [HHL.out]) (M:=Hh+Hh) (fun V hV=>zok_lt (k:=n+1) (by rw [Nat.pow_succ,HHH.out];omega) (by have:=HN.out;omega))
        (by have:=HHH.out;simp only at hab ⊢;omega) (by have:=HHH.out;have:=HZ0.out;simp only at hbb ⊢;omega))
       simp only [fvV,fCL,bvV] at HJ
       subst hna
       subst hav
       subst hav2
       have H7:=Lib.hid h7
       clear h7 hkc hk0 hk1 hktr hkht ht hBt hrow hcc hfb hlb hab hbb hHp
       go_wp2
       (refine wRT (by kernel_rfl) (by kernel_rfl) ?_)
       go_wp2_with fail
       refine (HJ.out _ (by (repeat first|exact Fr.refl _ _|assumption|apply Fr.n|apply Fr.d|apply Fr.a|refine Fr.s ?_ (.inr (by simp;try omega)) _))).mono ?_
       rintro e w8 ⟨⟨ok5,u0,u1,u2,u3⟩,L5,rfl,h8,hm8,hfo8,hin8⟩
       simp only [List.filterMap_cons,List.filterMap_nil,List.getElem?_cons_zero,List.getElem?_cons_succ,List.drop_succ_cons,List.drop_zero,List.cons_append,List.nil_append,List.take_succ_cons,List.take_zero,List.eraseIdx_cons_succ,List.eraseIdx_zero,List.eraseIdx_cons_zero,List.tail_cons,Option.toList_some] at h8
       have h8:=h8.ord 6 [3,4,5,0]
       simp only [List.filterMap_cons,List.filterMap_nil,List.getElem?_cons_zero,List.getElem?_cons_succ,List.drop_succ_cons,List.drop_zero,List.cons_append,List.nil_append,List.take_succ_cons,List.take_zero,List.eraseIdx_cons_succ,List.eraseIdx_zero,List.eraseIdx_cons_zero,List.tail_cons,Option.toList_some] at h8
       have hb9:=h8.blk
       clear y0 y1 yl z0 z1 zl s0 s1 s2 s3 s4 s5 s6 s7' s8 sz0 sz1 sz2 sz3 sz4 sz5 sz6 sz7' sz8 sl q1 ql hg kc m0 m1 m2 m3 m4 m5 m6 m7 m8 hg3 htl
       have s0:=hEC hb9 0
       have s1:=hEC hb9 1
       have s2:=hEC hb9 2
       have s3:=hEC hb9 3
       have s4:=hEC hb9 4
       have s5:=hEC hb9 5
       have s6:=hEC hb9 6
       have s7':=hEC hb9 7
       have s8:=hEC hb9 8
       have sz0:=hEF hb9 0
       have sz1:=hEF hb9 1
       have sz2:=hEF hb9 2
       have sz3:=hEF hb9 3
       have sz4:=hEF hb9 4
       have sz5:=hEF hb9 5
       have sz6:=hEF hb9 6
       have sz7':=hEF hb9 7
       have sz8:=hEF hb9 8
       have sl:=lBk hb9
       have H8:=Lib.hid h8
       have HM8:=Lib.hid hm8
       have HFO8:=Lib.hid (show FrOk (outq n T 1) (ok5,u0,u1,u2,u3) from by
        have e:outq n T 1=joinF (outq n T 0) (frT n (Tr.q T 0)) ((Z,c1,d1).1:Int) ((Z,c2,d2).1:Int):=by
         (try rw [HZ0.out])
         rw [show outq n T 1=joinF (outq n T 0) (frT n (Tr.q T 0)) (if 0 % 2=1 then ((2 ^ n:Nat):Int) else 0) (if 2≤0 then ((2 ^ n:Nat):Int) else 0) from rfl,HHH.out]
         rfl
        rw [e];exact hfo8)
       have HIN8:=Lib.hid hin8
       clear h8 hm8 hfo8 hin8 hb9 HJ H7
       simp only [fvV,fCL]
       go_wp2
       refine Strict.intro rfl ?_
       go_wp2
       go_roundw
       case rel =>
        have h0:=H8.out
        have h1:=hST (hST (hST h0 0 (.bool false)) 1 (.slice u0.2.1 (zd (u0.1:Int)).length u0.2.2)) 2 (.bool false)
        have h2:=hST (hST (hST h1 3 (.slice u1.2.1 (zd (u1.1:Int)).length u1.2.2)) 4 (.bool false)) 5 (.slice u2.2.1 (zd (u2.1:Int)).length u2.2.2)
        have h3:=hST (hST (hST h2 6 (.bool false)) 7 (.slice u3.2.1 (zd (u3.1:Int)).length u3.2.2)) 8 (.bool ok5)
        rw [show (#[Value.bool false,.slice a0.2.1 (zd (a0.1:Int)).length a0.2.2,.bool false,.slice a1.2.1 (zd (a1.1:Int)).length a1.2.2,.bool false,.slice a2.2.1 (zd (a2.1:Int)).length a2.2.2,.bool false,.slice a3.2.1 (zd (a3.1:Int)).length a3.2.2,.bool oka]:Array Value)=fCL (oka,a0,a1,a2,a3) from rfl,fcells_store] at h3
        exact⟨1,rfl,.inr (.inl ⟨rfl,(ok5,u0,u1,u2,u3),L5,h3.step (by (repeat first|exact Fr.refl _ _|assumption|apply Fr.n|apply Fr.d|apply Fr.a|refine Fr.s ?_ (.inr (by simp;try omega)) _)),HFO8.out,HIN8.out,HBO.out.mono fun x hx=>HM8.out x (by simp [hx]),HM8.out _ (by simp [HHL.out])⟩)⟩
       case measure=>simp [intOf]
      ·
       obtain⟨⟨oka,a0,a1,a2,a3⟩,L,h,hfo,hin,hbo,hhl⟩:=hz
       have HFO:=Lib.hid hfo
       have HIN:=Lib.hid hin
       have HBO:=Lib.hid hbo
       have HHL:=Lib.hid hhl
       have H:=Lib.hid h
       clear h hfo hin hbo hhl
       go_wp2_with fail
       refine (HF0.out _).mono ?_
       rintro e w5 ⟨v5,rfl,hb5,hf5⟩
       obtain⟨c1,d1,rfl,h5⟩:=has_big (H.out.step (by (repeat first|exact Fr.refl _ _|assumption|apply Fr.n|apply Fr.d|apply Fr.a|refine Fr.s ?_ (.inr (by simp;try omega)) _))) hf5 hb5 HZZ.out
       rw [show decide (((Z:Nat):Int)<0)=false by simp] at h5 ⊢
       have H5:=Lib.hid h5
       clear h5 hb5 hf5 H
       go_wp2_with fail
       refine (HF0.out _).mono ?_
       rintro e w6 ⟨v6,rfl,hb6,hf6⟩
       obtain⟨c2,d2,rfl,h6⟩:=has_big (H5.out.step (by (repeat first|exact Fr.refl _ _|assumption|apply Fr.n|apply Fr.d|apply Fr.a|refine Fr.s ?_ (.inr (by simp;try omega)) _))) hf6 hb6 HZZ.out
       rw [show decide (((Z:Nat):Int)<0)=false by simp] at h6 ⊢
       have h6:=h6.ord 6 [1,5,0,2,3,4]
       simp only [List.filterMap_cons,List.filterMap_nil,List.getElem?_cons_zero,List.getElem?_cons_succ,List.drop_succ_cons,List.drop_zero,List.cons_append,List.nil_append,List.take_succ_cons,List.take_zero,List.eraseIdx_cons_succ,List.eraseIdx_zero,List.eraseIdx_cons_zero,List.tail_cons,Option.toList_some] at h6
       have h6:=pool_add h6
       have h6:=h6.ord 2 [1,0]
       simp only [List.filterMap_cons,List.filterMap_nil,List.getElem?_cons_zero,List.getElem?_cons_succ,List.drop_succ_cons,List.drop_zero,List.cons_append,List.nil_append,List.take_succ_cons,List.take_zero,List.eraseIdx_cons_succ,List.eraseIdx_zero,List.eraseIdx_cons_zero,List.tail_cons,Option.toList_some] at h6
       have h6:=pool_add h6
       have hhb:=(h6.ord 3 [2]).blk
       have u0:_=some (Value.bool false):=hEC hhb 0
       have u1:_=some (Value.slice ha (zd (Hh:Int)).length hc):=hEC hhb 1
       have ul:=lBk hhb
       have H6:=Lib.hid h6
       clear h6 hb6 hf6 H5 hhb
       go_wp2
       refine aBW (fun w'=>Has W w' (Hp.blk (w6.heap.size+1) (.cells #[.bool false,.slice (Z,c2,d2).2.1 (zd ((Z,c2,d2).1:Int)).length (Z,c2,d2).2.2] 27 (0,0))::Hp.blk w6.heap.size (.cells #[.bool false,.slice (Hh,ha,hc).2.1 (zd ((Hh,ha,hc).1:Int)).length (Hh,ha,hc).2.2] 27 (0,0))::poolR ((Z,c2,d2)::(Z,c1,d1)::L)::Hp.blk fb (.cells (fCL (oka,a0,a1,a2,a3)) 102 (0,0))::Hp.blk hb (.cells #[.bool false,.slice ha (zd (Hh:Int)).length hc] 27 (0,0))::rowF v3 B::Hp.blk qb (.cells #[.int .i64 s,.slice da m dc] 24 (0,0))::Hp.row 105 4 (.slice da m dc) m (flat ns)::Hp.blk rb (.cells (lcells (zFV false)) 42 (0,0))::refR b s ns::Ps)) ?habs1 ?_
       case habs1 =>
        have h7:=hAL (hAL H6.out #[.bool false,.slice (Hh,ha,hc).2.1 (zd ((Hh,ha,hc).1:Int)).length (Hh,ha,hc).2.2] 27) #[.bool false,.slice (Z,c2,d2).2.1 (zd ((Z,c2,d2).1:Int)).length (Z,c2,d2).2.2] 27
        rw [hAz] at h7
        exact h7
       rintro w7 h7
       obtain⟨x5,hx5⟩:∃ x,w6.heap.size=x:=⟨_,rfl⟩
       rw [hx5] at h7 ⊢
       obtain⟨x6,hx6⟩:∃ x,x5+1=x:=⟨_,rfl⟩
       rw [hx6] at h7 ⊢
       clear hx5 hx6 u0 u1 ul H6
       have hb9:=h7.blk
       have y0:_=some (Value.bool false):=hEC hb9 0
       have y1:_=some (Value.slice (Z,c2,d2).2.1 (zd ((Z,c2,d2).1:Int)).length (Z,c2,d2).2.2):=hEC hb9 1
       have yl:=lBk hb9
       have hb9:=h7.swap.blk
       have z0:_=some (Value.bool false):=hEC hb9 0
       have z1:_=some (Value.slice (Hh,ha,hc).2.1 (zd ((Hh,ha,hc).1:Int)).length (Hh,ha,hc).2.2):=hEC hb9 1
       have zl:=lBk hb9
       have hb9:=(h7.ord 4 [3]).blk
       simp only [fCL] at hb9
       have s0:=hEC hb9 0
       have s1:=hEC hb9 1
       have s2:=hEC hb9 2
       have s3:=hEC hb9 3
       have s4:=hEC hb9 4
       have s5:=hEC hb9 5
       have s6:=hEC hb9 6
       have s7':=hEC hb9 7
       have s8:=hEC hb9 8
       have sz0:=hEF hb9 0
       have sz1:=hEF hb9 1
       have sz2:=hEF hb9 2
       have sz3:=hEF hb9 3
       have sz4:=hEF hb9 4
       have sz5:=hEF hb9 5
       have sz6:=hEF hb9 6
       have sz7':=hEF hb9 7
       have sz8:=hEF hb9 8
       have sl:=lBk hb9
       have hb9:=(h7.ord 7 [6]).blk
       have q1:_=some (Value.slice da m dc):=hEC hb9 1
       have ql:=lBk hb9
       clear hb9
       obtain⟨g,off,hna,hg,hkc⟩:=node_cell (Reads.of_owns (h7.ord 8 [7]).row) HM.out HK.out
       have kc:w7.cell? ⟨g,off+j*4+1,none⟩=_:=hkc 1 (by omega)
       obtain⟨⟨hk0,hk1⟩,hktr,hkht⟩:=HKID.out 1 (by omega)
       obtain⟨t,ht⟩:=Int.eq_ofNat_of_zero_le hk0
       rw [ht] at kc hk1 hktr
       obtain⟨⟨okb,b0,b1,b2,b3⟩,hBt⟩:∃ e,B[t]?=some e:=⟨_,List.getElem?_eq_getElem (by have:=HBE.out;omega)⟩
       obtain⟨hfb,hlb⟩:=HBO.out t _ hBt
       rw [hktr,hkht] at hfb
       have hrow:World.ownsRow w7 0 102 9 v3 B.length (fvs B):=(h7.ord 6 [5]).row
       obtain⟨av,cv,hav,_,_⟩:=oFM hrow
       rw [hav] at hrow
       obtain⟨g3,of3,hav2,hg3,hcc⟩:=fvs_cell (Reads.of_owns hrow) hBt
       have m0:w7.cell? ⟨g3,of3+t*9,none⟩=some (.bool false):=hcc 0 _ rfl
       have m1:w7.cell? ⟨g3,of3+t*9+1,none⟩=some (.slice b0.2.1 (zd (b0.1:Int)).length b0.2.2):=hcc 1 _ rfl
       have m2:w7.cell? ⟨g3,of3+t*9+2,none⟩=some (.bool false):=hcc 2 _ rfl
       have m3:w7.cell? ⟨g3,of3+t*9+3,none⟩=some (.slice b1.2.1 (zd (b1.1:Int)).length b1.2.2):=hcc 3 _ rfl
       have m4:w7.cell? ⟨g3,of3+t*9+4,none⟩=some (.bool false):=hcc 4 _ rfl
       have m5:w7.cell? ⟨g3,of3+t*9+5,none⟩=some (.slice b2.2.1 (zd (b2.1:Int)).length b2.2.2):=hcc 5 _ rfl
       have m6:w7.cell? ⟨g3,of3+t*9+6,none⟩=some (.bool false):=hcc 6 _ rfl
       have m7:w7.cell? ⟨g3,of3+t*9+7,none⟩=some (.slice b3.2.1 (zd (b3.1:Int)).length b3.2.2):=hcc 7 _ rfl
       have m8:w7.cell? ⟨g3,of3+t*9+8,none⟩=some (.bool okb):=hcc 8 _ rfl
       have htl:(t:Int)<(B.length:Nat):=by have:=HBE.out;omega
       have hHp:(0:Int)<((2 ^ n:Nat):Int):=by have:=Nat.pow_pos (n:=n) (show 0<2 by omega);omega
       have hab:=frok_lt (by omega) (outq_in (n:=n) (t:=T) 1) HFO.out
       have hbb:=frok_lt hHp (frT_in (n:=n) (t:=Tr.q T 1)) hfb
       have HJ:=Lib.hid (fun w8 (hf8:Fr [] w7 w8)=>Rjoined_h (((h7.step hf8).ord 6 [2,0,1,3,4,5])) (X:=(Hh,ha,hc)) (Y:=(Z,c2,d2)) HFO.out hfb (HIN.out.mono fun x hx=>by simp [hx]) (hlb.mono fun x hx=>by simp [hx]) (by simp [HHL.out]) (by simp [HHL.out]) (M:=Hh+Hh) (fun V hV=>zok_lt (k:=n+1) (by rw [Nat.pow_succ,HHH.out];omega) (by have:=HN.out;omega))
        (by have:=HHH.out;simp only at hab ⊢;omega) (by have:=HHH.out;have:=HZ0.out;simp only at hbb ⊢;omega))
       simp only [fvV,fCL,bvV] at HJ
       subst hna
       subst hav
       subst hav2
       have H7:=Lib.hid h7
       clear h7 hkc hk0 hk1 hktr hkht ht hBt hrow hcc hfb hlb hab hbb hHp
       go_wp2
       (refine wRT (by kernel_rfl) (by kernel_rfl) ?_)
       go_wp2_with fail
       refine (HJ.out _ (by (repeat first|exact Fr.refl _ _|assumption|apply Fr.n|apply Fr.d|apply Fr.a|refine Fr.s ?_ (.inr (by simp;try omega)) _))).mono ?_
       rintro e w8 ⟨⟨ok5,u0,u1,u2,u3⟩,L5,rfl,h8,hm8,hfo8,hin8⟩
       simp only [List.filterMap_cons,List.filterMap_nil,List.getElem?_cons_zero,List.getElem?_cons_succ,List.drop_succ_cons,List.drop_zero,List.cons_append,List.nil_append,List.take_succ_cons,List.take_zero,List.eraseIdx_cons_succ,List.eraseIdx_zero,List.eraseIdx_cons_zero,List.tail_cons,Option.toList_some] at h8
       have h8:=h8.ord 6 [3,4,5,0]
       simp only [List.filterMap_cons,List.filterMap_nil,List.getElem?_cons_zero,List.getElem?_cons_succ,List.drop_succ_cons,List.drop_zero,List.cons_append,List.nil_append,List.take_succ_cons,List.take_zero,List.eraseIdx_cons_succ,List.eraseIdx_zero,List.eraseIdx_cons_zero,List.tail_cons,Option.toList_some] at h8
       have hb9:=h8.blk
       clear y0 y1 yl z0 z1 zl s0 s1 s2 s3 s4 s5 s6 s7' s8 sz0 sz1 sz2 sz3 sz4 sz5 sz6 sz7' sz8 sl q1 ql hg kc m0 m1 m2 m3 m4 m5 m6 m7 m8 hg3 htl
       have s0:=hEC hb9 0
       have s1:=hEC hb9 1
       have s2:=hEC hb9 2
       have s3:=hEC hb9 3
       have s4:=hEC hb9 4
       have s5:=hEC hb9 5
       have s6:=hEC hb9 6
       have s7':=hEC hb9 7
       have s8:=hEC hb9 8
       have sz0:=hEF hb9 0
       have sz1:=hEF hb9 1
       have sz2:=hEF hb9 2
       have sz3:=hEF hb9 3
       have sz4:=hEF hb9 4
       have sz5:=hEF hb9 5
       have sz6:=hEF hb9 6
       have sz7':=hEF hb9 7
       have sz8:=hEF hb9 8
       have sl:=lBk hb9
       have H8:=Lib.hid h8
       have HM8:=Lib.hid hm8
       have HFO8:=Lib.hid (show FrOk (outq n T 2) (ok5,u0,u1,u2,u3) from by
        have e:outq n T 2=joinF (outq n T 1) (frT n (Tr.q T 1)) ((Hh,ha,hc).1:Int) ((Z,c2,d2).1:Int):=by
         (try rw [HZ0.out])
         rw [show outq n T 2=joinF (outq n T 1) (frT n (Tr.q T 1)) (if 1 % 2=1 then ((2 ^ n:Nat):Int) else 0) (if 2≤1 then ((2 ^ n:Nat):Int) else 0) from rfl,HHH.out]
         rfl
        rw [e];exact hfo8)
       have HIN8:=Lib.hid hin8
       clear h8 hm8 hfo8 hin8 hb9 HJ H7
       simp only [fvV,fCL]
       go_wp2
       refine Strict.intro rfl ?_
       go_wp2
       go_roundw
       case rel =>
        have h0:=H8.out
        have h1:=hST (hST (hST h0 0 (.bool false)) 1 (.slice u0.2.1 (zd (u0.1:Int)).length u0.2.2)) 2 (.bool false)
        have h2:=hST (hST (hST h1 3 (.slice u1.2.1 (zd (u1.1:Int)).length u1.2.2)) 4 (.bool false)) 5 (.slice u2.2.1 (zd (u2.1:Int)).length u2.2.2)
        have h3:=hST (hST (hST h2 6 (.bool false)) 7 (.slice u3.2.1 (zd (u3.1:Int)).length u3.2.2)) 8 (.bool ok5)
        rw [show (#[Value.bool false,.slice a0.2.1 (zd (a0.1:Int)).length a0.2.2,.bool false,.slice a1.2.1 (zd (a1.1:Int)).length a1.2.2,.bool false,.slice a2.2.1 (zd (a2.1:Int)).length a2.2.2,.bool false,.slice a3.2.1 (zd (a3.1:Int)).length a3.2.2,.bool oka]:Array Value)=fCL (oka,a0,a1,a2,a3) from rfl,fcells_store] at h3
        exact⟨2,rfl,.inr (.inr (.inl ⟨rfl,(ok5,u0,u1,u2,u3),L5,h3.step (by (repeat first|exact Fr.refl _ _|assumption|apply Fr.n|apply Fr.d|apply Fr.a|refine Fr.s ?_ (.inr (by simp;try omega)) _)),HFO8.out,HIN8.out,HBO.out.mono fun x hx=>HM8.out x (by simp [hx]),HM8.out _ (by simp [HHL.out])⟩))⟩
       case measure=>simp [intOf]
      ·
       obtain⟨⟨oka,a0,a1,a2,a3⟩,L,h,hfo,hin,hbo,hhl⟩:=hz
       have HFO:=Lib.hid hfo
       have HIN:=Lib.hid hin
       have HBO:=Lib.hid hbo
       have HHL:=Lib.hid hhl
       have H:=Lib.hid h
       clear h hfo hin hbo hhl
       go_wp2_with fail
       refine (HF0.out _).mono ?_
       rintro e w5 ⟨v5,rfl,hb5,hf5⟩
       obtain⟨c1,d1,rfl,h5⟩:=has_big (H.out.step (by (repeat first|exact Fr.refl _ _|assumption|apply Fr.n|apply Fr.d|apply Fr.a|refine Fr.s ?_ (.inr (by simp;try omega)) _))) hf5 hb5 HZZ.out
       rw [show decide (((Z:Nat):Int)<0)=false by simp] at h5 ⊢
       have H5:=Lib.hid h5
       clear h5 hb5 hf5 H
       go_wp2_with fail
       refine (HF0.out _).mono ?_
       rintro e w6 ⟨v6,rfl,hb6,hf6⟩
       obtain⟨c2,d2,rfl,h6⟩:=has_big (H5.out.step (by (repeat first|exact Fr.refl _ _|assumption|apply Fr.n|apply Fr.d|apply Fr.a|refine Fr.s ?_ (.inr (by simp;try omega)) _))) hf6 hb6 HZZ.out
       rw [show decide (((Z:Nat):Int)<0)=false by simp] at h6 ⊢
       have h6:=h6.ord 6 [1,5,0,2,3,4]
       simp only [List.filterMap_cons,List.filterMap_nil,List.getElem?_cons_zero,List.getElem?_cons_succ,List.drop_succ_cons,List.drop_zero,List.cons_append,List.nil_append,List.take_succ_cons,List.take_zero,List.eraseIdx_cons_succ,List.eraseIdx_zero,List.eraseIdx_cons_zero,List.tail_cons,Option.toList_some] at h6
       have h6:=pool_add h6
       have h6:=h6.ord 2 [1,0]
       simp only [List.filterMap_cons,List.filterMap_nil,List.getElem?_cons_zero,List.getElem?_cons_succ,List.drop_succ_cons,List.drop_zero,List.cons_append,List.nil_append,List.take_succ_cons,List.take_zero,List.eraseIdx_cons_succ,List.eraseIdx_zero,List.eraseIdx_cons_zero,List.tail_cons,Option.toList_some] at h6
       have h6:=pool_add h6
       have hhb:=(h6.ord 3 [2]).blk
       have u0:_=some (Value.bool false):=hEC hhb 0
       have u1:_=some (Value.slice ha (zd (Hh:Int)).length hc):=hEC hhb 1
       have ul:=lBk hhb
       have H6:=Lib.hid h6
       clear h6 hb6 hf6 H5 hhb
       go_wp2
       refine aBW (fun w'=>Has W w' (Hp.blk (w6.heap.size+1) (.cells #[.bool false,.slice (Hh,ha,hc).2.1 (zd ((Hh,ha,hc).1:Int)).length (Hh,ha,hc).2.2] 27 (0,0))::Hp.blk w6.heap.size (.cells #[.bool false,.slice (Z,c1,d1).2.1 (zd ((Z,c1,d1).1:Int)).length (Z,c1,d1).2.2] 27 (0,0))::poolR ((Z,c2,d2)::(Z,c1,d1)::L)::Hp.blk fb (.cells (fCL (oka,a0,a1,a2,a3)) 102 (0,0))::Hp.blk hb (.cells #[.bool false,.slice ha (zd (Hh:Int)).length hc] 27 (0,0))::rowF v3 B::Hp.blk qb (.cells #[.int .i64 s,.slice da m dc] 24 (0,0))::Hp.row 105 4 (.slice da m dc) m (flat ns)::Hp.blk rb (.cells (lcells (zFV false)) 42 (0,0))::refR b s ns::Ps)) ?habs2 ?_
       case habs2 =>
        have h7:=hAL (hAL H6.out #[.bool false,.slice (Z,c1,d1).2.1 (zd ((Z,c1,d1).1:Int)).length (Z,c1,d1).2.2] 27) #[.bool false,.slice (Hh,ha,hc).2.1 (zd ((Hh,ha,hc).1:Int)).length (Hh,ha,hc).2.2] 27
        rw [hAz] at h7
        exact h7
       rintro w7 h7
       obtain⟨x5,hx5⟩:∃ x,w6.heap.size=x:=⟨_,rfl⟩
       rw [hx5] at h7 ⊢
       obtain⟨x6,hx6⟩:∃ x,x5+1=x:=⟨_,rfl⟩
       rw [hx6] at h7 ⊢
       clear hx5 hx6 u0 u1 ul H6
       have hb9:=h7.blk
       have y0:_=some (Value.bool false):=hEC hb9 0
       have y1:_=some (Value.slice (Hh,ha,hc).2.1 (zd ((Hh,ha,hc).1:Int)).length (Hh,ha,hc).2.2):=hEC hb9 1
       have yl:=lBk hb9
       have hb9:=h7.swap.blk
       have z0:_=some (Value.bool false):=hEC hb9 0
       have z1:_=some (Value.slice (Z,c1,d1).2.1 (zd ((Z,c1,d1).1:Int)).length (Z,c1,d1).2.2):=hEC hb9 1
       have zl:=lBk hb9
       have hb9:=(h7.ord 4 [3]).blk
       simp only [fCL] at hb9
       have s0:=hEC hb9 0
       have s1:=hEC hb9 1
       have s2:=hEC hb9 2
       have s3:=hEC hb9 3
       have s4:=hEC hb9 4
       have s5:=hEC hb9 5
       have s6:=hEC hb9 6
       have s7':=hEC hb9 7
       have s8:=hEC hb9 8
       have sz0:=hEF hb9 0
       have sz1:=hEF hb9 1
       have sz2:=hEF hb9 2
       have sz3:=hEF hb9 3
       have sz4:=hEF hb9 4
       have sz5:=hEF hb9 5
       have sz6:=hEF hb9 6
       have sz7':=hEF hb9 7
       have sz8:=hEF hb9 8
       have sl:=lBk hb9
       have hb9:=(h7.ord 7 [6]).blk
       have q1:_=some (Value.slice da m dc):=hEC hb9 1
       have ql:=lBk hb9
       clear hb9
       obtain⟨g,off,hna,hg,hkc⟩:=node_cell (Reads.of_owns (h7.ord 8 [7]).row) HM.out HK.out
       have kc:w7.cell? ⟨g,off+j*4+2,none⟩=_:=hkc 2 (by omega)
       obtain⟨⟨hk0,hk1⟩,hktr,hkht⟩:=HKID.out 2 (by omega)
       obtain⟨t,ht⟩:=Int.eq_ofNat_of_zero_le hk0
       rw [ht] at kc hk1 hktr
       obtain⟨⟨okb,b0,b1,b2,b3⟩,hBt⟩:∃ e,B[t]?=some e:=⟨_,List.getElem?_eq_getElem (by have:=HBE.out;omega)⟩
       obtain⟨hfb,hlb⟩:=HBO.out t _ hBt
       rw [hktr,hkht] at hfb
       have hrow:World.ownsRow w7 0 102 9 v3 B.length (fvs B):=(h7.ord 6 [5]).row
       obtain⟨av,cv,hav,_,_⟩:=oFM hrow
       rw [hav] at hrow
       obtain⟨g3,of3,hav2,hg3,hcc⟩:=fvs_cell (Reads.of_owns hrow) hBt
       have m0:w7.cell? ⟨g3,of3+t*9,none⟩=some (.bool false):=hcc 0 _ rfl
       have m1:w7.cell? ⟨g3,of3+t*9+1,none⟩=some (.slice b0.2.1 (zd (b0.1:Int)).length b0.2.2):=hcc 1 _ rfl
       have m2:w7.cell? ⟨g3,of3+t*9+2,none⟩=some (.bool false):=hcc 2 _ rfl
       have m3:w7.cell? ⟨g3,of3+t*9+3,none⟩=some (.slice b1.2.1 (zd (b1.1:Int)).length b1.2.2):=hcc 3 _ rfl
       have m4:w7.cell? ⟨g3,of3+t*9+4,none⟩=some (.bool false):=hcc 4 _ rfl
       have m5:w7.cell? ⟨g3,of3+t*9+5,none⟩=some (.slice b2.2.1 (zd (b2.1:Int)).length b2.2.2):=hcc 5 _ rfl
       have m6:w7.cell? ⟨g3,of3+t*9+6,none⟩=some (.bool false):=hcc 6 _ rfl
       have m7:w7.cell? ⟨g3,of3+t*9+7,none⟩=some (.slice b3.2.1 (zd (b3.1:Int)).length b3.2.2):=hcc 7 _ rfl
       have m8:w7.cell? ⟨g3,of3+t*9+8,none⟩=some (.bool okb):=hcc 8 _ rfl
       have htl:(t:Int)<(B.length:Nat):=by have:=HBE.out;omega
       have hHp:(0:Int)<((2 ^ n:Nat):Int):=by have:=Nat.pow_pos (n:=n) (show 0<2 by omega);omega
       have hab:=frok_lt (by omega) (outq_in (n:=n) (t:=T) 2) HFO.out
       have hbb:=frok_lt hHp (frT_in (n:=n) (t:=Tr.q T 2)) hfb
       have HJ:=Lib.hid (fun w8 (hf8:Fr [] w7 w8)=>Rjoined_h (((h7.step hf8).ord 6 [2,0,1,3,4,5])) (X:=(Z,c1,d1)) (Y:=(Hh,ha,hc)) HFO.out hfb (HIN.out.mono fun x hx=>by simp [hx]) (hlb.mono fun x hx=>by simp [hx]) (by simp [HHL.out]) (by simp [HHL.out]) (M:=Hh+Hh) (fun V hV=>zok_lt (k:=n+1) (by rw [Nat.pow_succ,HHH.out];omega) (by have:=HN.out;omega))
        (by have:=HHH.out;simp only at hab ⊢;omega) (by have:=HHH.out;have:=HZ0.out;simp only at hbb ⊢;omega))
       simp only [fvV,fCL,bvV] at HJ
       subst hna
       subst hav
       subst hav2
       have H7:=Lib.hid h7
       clear h7 hkc hk0 hk1 hktr hkht ht hBt hrow hcc hfb hlb hab hbb hHp
       go_wp2
       (refine wRT (by kernel_rfl) (by kernel_rfl) ?_)
       go_wp2_with fail
       refine (HJ.out _ (by (repeat first|exact Fr.refl _ _|assumption|apply Fr.n|apply Fr.d|apply Fr.a|refine Fr.s ?_ (.inr (by simp;try omega)) _))).mono ?_
       rintro e w8 ⟨⟨ok5,u0,u1,u2,u3⟩,L5,rfl,h8,hm8,hfo8,hin8⟩
       simp only [List.filterMap_cons,List.filterMap_nil,List.getElem?_cons_zero,List.getElem?_cons_succ,List.drop_succ_cons,List.drop_zero,List.cons_append,List.nil_append,List.take_succ_cons,List.take_zero,List.eraseIdx_cons_succ,List.eraseIdx_zero,List.eraseIdx_cons_zero,List.tail_cons,Option.toList_some] at h8
       have h8:=h8.ord 6 [3,4,5,0]
       simp only [List.filterMap_cons,List.filterMap_nil,List.getElem?_cons_zero,List.getElem?_cons_succ,List.drop_succ_cons,List.drop_zero,List.cons_append,List.nil_append,List.take_succ_cons,List.take_zero,List.eraseIdx_cons_succ,List.eraseIdx_zero,List.eraseIdx_cons_zero,List.tail_cons,Option.toList_some] at h8
       have hb9:=h8.blk
       clear y0 y1 yl z0 z1 zl s0 s1 s2 s3 s4 s5 s6 s7' s8 sz0 sz1 sz2 sz3 sz4 sz5 sz6 sz7' sz8 sl q1 ql hg kc m0 m1 m2 m3 m4 m5 m6 m7 m8 hg3 htl
       have s0:=hEC hb9 0
       have s1:=hEC hb9 1
       have s2:=hEC hb9 2
       have s3:=hEC hb9 3
       have s4:=hEC hb9 4
       have s5:=hEC hb9 5
       have s6:=hEC hb9 6
       have s7':=hEC hb9 7
       have s8:=hEC hb9 8
       have sz0:=hEF hb9 0
       have sz1:=hEF hb9 1
       have sz2:=hEF hb9 2
       have sz3:=hEF hb9 3
       have sz4:=hEF hb9 4
       have sz5:=hEF hb9 5
       have sz6:=hEF hb9 6
       have sz7':=hEF hb9 7
       have sz8:=hEF hb9 8
       have sl:=lBk hb9
       have H8:=Lib.hid h8
       have HM8:=Lib.hid hm8
       have HFO8:=Lib.hid (show FrOk (outq n T 3) (ok5,u0,u1,u2,u3) from by
        have e:outq n T 3=joinF (outq n T 2) (frT n (Tr.q T 2)) ((Z,c1,d1).1:Int) ((Hh,ha,hc).1:Int):=by
         (try rw [HZ0.out])
         rw [show outq n T 3=joinF (outq n T 2) (frT n (Tr.q T 2)) (if 2 % 2=1 then ((2 ^ n:Nat):Int) else 0) (if 2≤2 then ((2 ^ n:Nat):Int) else 0) from rfl,HHH.out]
         rfl
        rw [e];exact hfo8)
       have HIN8:=Lib.hid hin8
       clear h8 hm8 hfo8 hin8 hb9 HJ H7
       simp only [fvV,fCL]
       go_wp2
       refine Strict.intro rfl ?_
       go_wp2
       go_roundw
       case rel =>
        have h0:=H8.out
        have h1:=hST (hST (hST h0 0 (.bool false)) 1 (.slice u0.2.1 (zd (u0.1:Int)).length u0.2.2)) 2 (.bool false)
        have h2:=hST (hST (hST h1 3 (.slice u1.2.1 (zd (u1.1:Int)).length u1.2.2)) 4 (.bool false)) 5 (.slice u2.2.1 (zd (u2.1:Int)).length u2.2.2)
        have h3:=hST (hST (hST h2 6 (.bool false)) 7 (.slice u3.2.1 (zd (u3.1:Int)).length u3.2.2)) 8 (.bool ok5)
        rw [show (#[Value.bool false,.slice a0.2.1 (zd (a0.1:Int)).length a0.2.2,.bool false,.slice a1.2.1 (zd (a1.1:Int)).length a1.2.2,.bool false,.slice a2.2.1 (zd (a2.1:Int)).length a2.2.2,.bool false,.slice a3.2.1 (zd (a3.1:Int)).length a3.2.2,.bool oka]:Array Value)=fCL (oka,a0,a1,a2,a3) from rfl,fcells_store] at h3
        exact⟨3,rfl,.inr (.inr (.inr (.inl ⟨rfl,(ok5,u0,u1,u2,u3),L5,h3.step (by (repeat first|exact Fr.refl _ _|assumption|apply Fr.n|apply Fr.d|apply Fr.a|refine Fr.s ?_ (.inr (by simp;try omega)) _)),HFO8.out,HIN8.out,HBO.out.mono fun x hx=>HM8.out x (by simp [hx]),HM8.out _ (by simp [HHL.out])⟩)))⟩
       case measure=>simp [intOf]
      ·
       obtain⟨⟨oka,a0,a1,a2,a3⟩,L,h,hfo,hin,hbo,hhl⟩:=hz
       have HFO:=Lib.hid hfo
       have HIN:=Lib.hid hin
       have HBO:=Lib.hid hbo
       have HHL:=Lib.hid hhl
       have H:=Lib.hid h
       clear h hfo hin hbo hhl
       go_wp2_with fail
       refine (HF0.out _).mono ?_
       rintro e w5 ⟨v5,rfl,hb5,hf5⟩
       obtain⟨c1,d1,rfl,h5⟩:=has_big (H.out.step (by (repeat first|exact Fr.refl _ _|assumption|apply Fr.n|apply Fr.d|apply Fr.a|refine Fr.s ?_ (.inr (by simp;try omega)) _))) hf5 hb5 HZZ.out
       rw [show decide (((Z:Nat):Int)<0)=false by simp] at h5 ⊢
       have H5:=Lib.hid h5
       clear h5 hb5 hf5 H
       go_wp2_with fail
       refine (HF0.out _).mono ?_
       rintro e w6 ⟨v6,rfl,hb6,hf6⟩
       obtain⟨c2,d2,rfl,h6⟩:=has_big (H5.out.step (by (repeat first|exact Fr.refl _ _|assumption|apply Fr.n|apply Fr.d|apply Fr.a|refine Fr.s ?_ (.inr (by simp;try omega)) _))) hf6 hb6 HZZ.out
       rw [show decide (((Z:Nat):Int)<0)=false by simp] at h6 ⊢
       have h6:=h6.ord 6 [1,5,0,2,3,4]
       simp only [List.filterMap_cons,List.filterMap_nil,List.getElem?_cons_zero,List.getElem?_cons_succ,List.drop_succ_cons,List.drop_zero,List.cons_append,List.nil_append,List.take_succ_cons,List.take_zero,List.eraseIdx_cons_succ,List.eraseIdx_zero,List.eraseIdx_cons_zero,List.tail_cons,Option.toList_some] at h6
       have h6:=pool_add h6
       have h6:=h6.ord 2 [1,0]
       simp only [List.filterMap_cons,List.filterMap_nil,List.getElem?_cons_zero,List.getElem?_cons_succ,List.drop_succ_cons,List.drop_zero,List.cons_append,List.nil_append,List.take_succ_cons,List.take_zero,List.eraseIdx_cons_succ,List.eraseIdx_zero,List.eraseIdx_cons_zero,List.tail_cons,Option.toList_some] at h6
       have h6:=pool_add h6
       have hhb:=(h6.ord 3 [2]).blk
       have u0:_=some (Value.bool false):=hEC hhb 0
       have u1:_=some (Value.slice ha (zd (Hh:Int)).length hc):=hEC hhb 1
       have ul:=lBk hhb
       have H6:=Lib.hid h6
       clear h6 hb6 hf6 H5 hhb
       go_wp2
       refine aBW (fun w'=>Has W w' (Hp.blk (w6.heap.size+1) (.cells #[.bool false,.slice (Hh,ha,hc).2.1 (zd ((Hh,ha,hc).1:Int)).length (Hh,ha,hc).2.2] 27 (0,0))::Hp.blk w6.heap.size (.cells #[.bool false,.slice (Hh,ha,hc).2.1 (zd ((Hh,ha,hc).1:Int)).length (Hh,ha,hc).2.2] 27 (0,0))::poolR ((Z,c2,d2)::(Z,c1,d1)::L)::Hp.blk fb (.cells (fCL (oka,a0,a1,a2,a3)) 102 (0,0))::Hp.blk hb (.cells #[.bool false,.slice ha (zd (Hh:Int)).length hc] 27 (0,0))::rowF v3 B::Hp.blk qb (.cells #[.int .i64 s,.slice da m dc] 24 (0,0))::Hp.row 105 4 (.slice da m dc) m (flat ns)::Hp.blk rb (.cells (lcells (zFV false)) 42 (0,0))::refR b s ns::Ps)) ?habs3 ?_
       case habs3 =>
        have h7:=hAL (hAL H6.out #[.bool false,.slice (Hh,ha,hc).2.1 (zd ((Hh,ha,hc).1:Int)).length (Hh,ha,hc).2.2] 27) #[.bool false,.slice (Hh,ha,hc).2.1 (zd ((Hh,ha,hc).1:Int)).length (Hh,ha,hc).2.2] 27
        rw [hAz] at h7
        exact h7
       rintro w7 h7
       obtain⟨x5,hx5⟩:∃ x,w6.heap.size=x:=⟨_,rfl⟩
       rw [hx5] at h7 ⊢
       obtain⟨x6,hx6⟩:∃ x,x5+1=x:=⟨_,rfl⟩
       rw [hx6] at h7 ⊢
       clear hx5 hx6 u0 u1 ul H6
       have hb9:=h7.blk
       have y0:_=some (Value.bool false):=hEC hb9 0
       have y1:_=some (Value.slice (Hh,ha,hc).2.1 (zd ((Hh,ha,hc).1:Int)).length (Hh,ha,hc).2.2):=hEC hb9 1
       have yl:=lBk hb9
       have hb9:=h7.swap.blk
       have z0:_=some (Value.bool false):=hEC hb9 0
       have z1:_=some (Value.slice (Hh,ha,hc).2.1 (zd ((Hh,ha,hc).1:Int)).length (Hh,ha,hc).2.2):=hEC hb9 1
       have zl:=lBk hb9
       have hb9:=(h7.ord 4 [3]).blk
       simp only [fCL] at hb9
       have s0:=hEC hb9 0
       have s1:=hEC hb9 1
       have s2:=hEC hb9 2
       have s3:=hEC hb9 3
       have s4:=hEC hb9 4
       have s5:=hEC hb9 5
       have s6:=hEC hb9 6
       have s7':=hEC hb9 7
       have s8:=hEC hb9 8
       have sz0:=hEF hb9 0
       have sz1:=hEF hb9 1
       have sz2:=hEF hb9 2
       have sz3:=hEF hb9 3
       have sz4:=hEF hb9 4
       have sz5:=hEF hb9 5
       have sz6:=hEF hb9 6
       have sz7':=hEF hb9 7
       have sz8:=hEF hb9 8
       have sl:=lBk hb9
       have hb9:=(h7.ord 7 [6]).blk
       have q1:_=some (Value.slice da m dc):=hEC hb9 1
       have ql:=lBk hb9
       clear hb9
       obtain⟨g,off,hna,hg,hkc⟩:=node_cell (Reads.of_owns (h7.ord 8 [7]).row) HM.out HK.out
       have kc:w7.cell? ⟨g,off+j*4+3,none⟩=_:=hkc 3 (by omega)
       obtain⟨⟨hk0,hk1⟩,hktr,hkht⟩:=HKID.out 3 (by omega)
       obtain⟨t,ht⟩:=Int.eq_ofNat_of_zero_le hk0
       rw [ht] at kc hk1 hktr
       obtain⟨⟨okb,b0,b1,b2,b3⟩,hBt⟩:∃ e,B[t]?=some e:=⟨_,List.getElem?_eq_getElem (by have:=HBE.out;omega)⟩
       obtain⟨hfb,hlb⟩:=HBO.out t _ hBt
       rw [hktr,hkht] at hfb
       have hrow:World.ownsRow w7 0 102 9 v3 B.length (fvs B):=(h7.ord 6 [5]).row
       obtain⟨av,cv,hav,_,_⟩:=oFM hrow
       rw [hav] at hrow
       obtain⟨g3,of3,hav2,hg3,hcc⟩:=fvs_cell (Reads.of_owns hrow) hBt
       have m0:w7.cell? ⟨g3,of3+t*9,none⟩=some (.bool false):=hcc 0 _ rfl
       have m1:w7.cell? ⟨g3,of3+t*9+1,none⟩=some (.slice b0.2.1 (zd (b0.1:Int)).length b0.2.2):=hcc 1 _ rfl
       have m2:w7.cell? ⟨g3,of3+t*9+2,none⟩=some (.bool false):=hcc 2 _ rfl
       have m3:w7.cell? ⟨g3,of3+t*9+3,none⟩=some (.slice b1.2.1 (zd (b1.1:Int)).length b1.2.2):=hcc 3 _ rfl
       have m4:w7.cell? ⟨g3,of3+t*9+4,none⟩=some (.bool false):=hcc 4 _ rfl
       have m5:w7.cell? ⟨g3,of3+t*9+5,none⟩=some (.slice b2.2.1 (zd (b2.1:Int)).length b2.2.2):=hcc 5 _ rfl
       have m6:w7.cell? ⟨g3,of3+t*9+6,none⟩=some (.bool false):=hcc 6 _ rfl
       have m7:w7.cell? ⟨g3,of3+t*9+7,none⟩=some (.slice b3.2.1 (zd (b3.1:Int)).length b3.2.2):=hcc 7 _ rfl
       have m8:w7.cell? ⟨g3,of3+t*9+8,none⟩=some (.bool okb):=hcc 8 _ rfl
       have htl:(t:Int)<(B.length:Nat):=by have:=HBE.out;omega
       have hHp:(0:Int)<((2 ^ n:Nat):Int):=by have:=Nat.pow_pos (n:=n) (show 0<2 by omega);omega
       have hab:=frok_lt (by omega) (outq_in (n:=n) (t:=T) 3) HFO.out
       have hbb:=frok_lt hHp (frT_in (n:=n) (t:=Tr.q T 3)) hfb
       have HJ:=Lib.hid (fun w8 (hf8:Fr [] w7 w8)=>Rjoined_h (((h7.step hf8).ord 6 [2,0,1,3,4,5])) (X:=(Hh,ha,hc)) (Y:=(Hh,ha,hc)) HFO.out hfb (HIN.out.mono fun x hx=>by simp [hx]) (hlb.mono fun x hx=>by simp [hx]) (by simp [HHL.out]) (by simp [HHL.out]) (M:=Hh+Hh) (fun V hV=>zok_lt (k:=n+1) (by rw [Nat.pow_succ,HHH.out];omega) (by have:=HN.out;omega))
        (by have:=HHH.out;simp only at hab ⊢;omega) (by have:=HHH.out;have:=HZ0.out;simp only at hbb ⊢;omega))
       simp only [fvV,fCL,bvV] at HJ
       subst hna
       subst hav
       subst hav2
       have H7:=Lib.hid h7
       clear h7 hkc hk0 hk1 hktr hkht ht hBt hrow hcc hfb hlb hab hbb hHp
       go_wp2
       (refine wRT (by kernel_rfl) (by kernel_rfl) ?_)
       go_wp2_with fail
       refine (HJ.out _ (by (repeat first|exact Fr.refl _ _|assumption|apply Fr.n|apply Fr.d|apply Fr.a|refine Fr.s ?_ (.inr (by simp;try omega)) _))).mono ?_
       rintro e w8 ⟨⟨ok5,u0,u1,u2,u3⟩,L5,rfl,h8,hm8,hfo8,hin8⟩
       simp only [List.filterMap_cons,List.filterMap_nil,List.getElem?_cons_zero,List.getElem?_cons_succ,List.drop_succ_cons,List.drop_zero,List.cons_append,List.nil_append,List.take_succ_cons,List.take_zero,List.eraseIdx_cons_succ,List.eraseIdx_zero,List.eraseIdx_cons_zero,List.tail_cons,Option.toList_some] at h8
       have h8:=h8.ord 6 [3,4,5,0]
       simp only [List.filterMap_cons,List.filterMap_nil,List.getElem?_cons_zero,List.getElem?_cons_succ,List.drop_succ_cons,List.drop_zero,List.cons_append,List.nil_append,List.take_succ_cons,List.take_zero,List.eraseIdx_cons_succ,List.eraseIdx_zero,List.eraseIdx_cons_zero,List.tail_cons,Option.toList_some] at h8
       have hb9:=h8.blk
       clear y0 y1 yl z0 z1 zl s0 s1 s2 s3 s4 s5 s6 s7' s8 sz0 sz1 sz2 sz3 sz4 sz5 sz6 sz7' sz8 sl q1 ql hg kc m0 m1 m2 m3 m4 m5 m6 m7 m8 hg3 htl
       have s0:=hEC hb9 0
       have s1:=hEC hb9 1
       have s2:=hEC hb9 2
       have s3:=hEC hb9 3
       have s4:=hEC hb9 4
       have s5:=hEC hb9 5
       have s6:=hEC hb9 6
       have s7':=hEC hb9 7
       have s8:=hEC hb9 8
       have sz0:=hEF hb9 0
       have sz1:=hEF hb9 1
       have sz2:=hEF hb9 2
       have sz3:=hEF hb9 3
       have sz4:=hEF hb9 4
       have sz5:=hEF hb9 5
       have sz6:=hEF hb9 6
       have sz7':=hEF hb9 7
       have sz8:=hEF hb9 8
       have sl:=lBk hb9
       have H8:=Lib.hid h8
       have HM8:=Lib.hid hm8
       have HFO8:=Lib.hid (show FrOk (outq n T 4) (ok5,u0,u1,u2,u3) from by
        have e:outq n T 4=joinF (outq n T 3) (frT n (Tr.q T 3)) ((Hh,ha,hc).1:Int) ((Hh,ha,hc).1:Int):=by
         (try rw [HZ0.out])
         rw [show outq n T 4=joinF (outq n T 3) (frT n (Tr.q T 3)) (if 3 % 2=1 then ((2 ^ n:Nat):Int) else 0) (if 2≤3 then ((2 ^ n:Nat):Int) else 0) from rfl,HHH.out]
         rfl
        rw [e];exact hfo8)
       have HIN8:=Lib.hid hin8
       clear h8 hm8 hfo8 hin8 hb9 HJ H7
       simp only [fvV,fCL]
       go_wp2
       refine Strict.intro rfl ?_
       go_wp2
       go_roundw
       case rel =>
        have h0:=H8.out
        have h1:=hST (hST (hST h0 0 (.bool false)) 1 (.slice u0.2.1 (zd (u0.1:Int)).length u0.2.2)) 2 (.bool false)
        have h2:=hST (hST (hST h1 3 (.slice u1.2.1 (zd (u1.1:Int)).length u1.2.2)) 4 (.bool false)) 5 (.slice u2.2.1 (zd (u2.1:Int)).length u2.2.2)
        have h3:=hST (hST (hST h2 6 (.bool false)) 7 (.slice u3.2.1 (zd (u3.1:Int)).length u3.2.2)) 8 (.bool ok5)
        rw [show (#[Value.bool false,.slice a0.2.1 (zd (a0.1:Int)).length a0.2.2,.bool false,.slice a1.2.1 (zd (a1.1:Int)).length a1.2.2,.bool false,.slice a2.2.1 (zd (a2.1:Int)).length a2.2.2,.bool false,.slice a3.2.1 (zd (a3.1:Int)).length a3.2.2,.bool oka]:Array Value)=fCL (oka,a0,a1,a2,a3) from rfl,fcells_store] at h3
        exact⟨4,rfl,.inr (.inr (.inr (.inr (⟨rfl,(ok5,u0,u1,u2,u3),L5,h3.step (by (repeat first|exact Fr.refl _ _|assumption|apply Fr.n|apply Fr.d|apply Fr.a|refine Fr.s ?_ (.inr (by simp;try omega)) _)),HFO8.out,HIN8.out,HBO.out.mono fun x hx=>HM8.out x (by simp [hx]),HM8.out _ (by simp [HHL.out])⟩))))⟩
       case measure=>simp [intOf]
      ·obtain⟨⟨oka,a0,a1,a2,a3⟩,L,h,hfo,hin,hbo,hhl⟩:=hz
       have hb9:=h.blk
       simp only [fCL] at hb9
       have s0:=hEC hb9 0
       have s1:=hEC hb9 1
       have s2:=hEC hb9 2
       have s3:=hEC hb9 3
       have s4:=hEC hb9 4
       have s5:=hEC hb9 5
       have s6:=hEC hb9 6
       have s7':=hEC hb9 7
       have s8:=hEC hb9 8
       have sl:=lBk hb9
       have H:=Lib.hid (h.ord 3 [2])
       have HFO:=Lib.hid (show FrOk (frT (tr s ns ((B.length:Nat):Int)).ht (tr s ns ((B.length:Nat):Int))) (oka,a0,a1,a2,a3) from by
        rw [HBE.out,HT.out.1,HT.out.2.1,HT.out.2.2];exact hfo)
       have HIN:=Lib.hid (And.intro hin hbo)
       clear h hfo hin hbo hhl hb9
       have hrow:=H.out.row
       have HO:=Lib.hid (show World.ownsRow _ 0 102 9 _ B.length (fvs B) from hrow)
       clear hrow
       go_wp2_with (at_builtin;refine append_fv (n:=B.length) (base:=0) (xs:=fvs B) (y:=(oka,a0,a1,a2,a3)) rfl rfl rfl ?e12 rfl ?e22 ?e32 ?e42 ?_)
       case e12=>exact oOB HO.out fun g hg=>hAE _ _ _ (oLT HO.out hg)
       case e22 =>
        simp only [fCL]
        first|(first|(rw [hAC,if_pos rfl];done)|exact (Array.getElem?_eq_some_iff.1 ((hAC _ _ _).trans (if_pos rfl))).2|(simp only [hDR,hDN];rw [hAC,if_pos rfl];done))|(refine (Array.getElem?_eq_some_iff.1 ?_).2;(repeat first|rw [if_pos (by omega)]|rw [if_neg (by omega)]|rw [hDR]|rw [hDN]|rw [hAz]|rw [hSz]|rw [hAC]|rw [hSC]|rw [oMS]|rw [uPC]|rw [lSZ]|rw [lSS]|rfl))
       case e32=>have:=HBL.out;omega
       case e42=>omega
       intro g22 cap2 w10 hown1 hW1 hF1 hloc1 hg1
       rw [fvs_snoc _ (oka,a0,a1,a2,a3)] at hown1
       have h9:=hAP (n':=(B++([(oka,a0,a1,a2,a3)]:List FV)).length) (H.out.step (by (repeat first|exact Fr.refl _ _|assumption|apply Fr.n|apply Fr.d|apply Fr.a|refine Fr.s ?_ (.inr (by simp;try omega)) _))) (by rw [List.length_append];exact hown1) rfl hF1 (by rcases hloc1 with h|h;exact .inl h;exact .inr (by rw [h];simp))
       clear hown1 hW1 hF1 hloc1 hg1 HO
       have H9:=Lib.hid (show Has W _ (BL _ (B++[(oka,a0,a1,a2,a3)]) L qb rb s da m dc ns b Ps) from h9)
       clear h9 s0 s1 s2 s3 s4 s5 s6 s7' s8 sl
       go_wp2
       go_roundw
       case rel=>exact⟨j+1,_,B++[(oka,a0,a1,a2,a3)],L,⟨rfl,by go_num⟩,⟨by omega,by rw [List.length_append];have:=HBE.out;simp;omega,HIN.out.2.snoc HFO.out HIN.out.1⟩,H9.out.step (by (repeat first|exact Fr.refl _ _|assumption|apply Fr.n|apply Fr.d|apply Fr.a|refine Fr.s ?_ (.inr (by simp;try omega)) _))⟩
       case measure=>simp [intOf];omega
    ·obtain rfl:j=m:=by omega
     obtain⟨⟨okb,b0,b1,b2,b3⟩,hBt⟩:∃ e,B[k]?=some e:=⟨_,List.getElem?_eq_getElem (by have:=HBE.out;have:=HKM.out;omega)⟩
     obtain⟨hfb,hlb⟩:=HBO.out k _ hBt
     have hrow:World.ownsRow wr 0 102 9 v3 B.length (fvs B):=H.out.row
     obtain⟨av,cv,hav,_,_⟩:=oFM hrow
     rw [hav] at hrow
     obtain⟨g3,of3,hav2,hg3,hcc⟩:=fvs_cell (Reads.of_owns hrow) hBt
     have m0:wr.cell? ⟨g3,of3+k*9,none⟩=some (.bool false):=hcc 0 _ rfl
     have m1:wr.cell? ⟨g3,of3+k*9+1,none⟩=some (.slice b0.2.1 (zd (b0.1:Int)).length b0.2.2):=hcc 1 _ rfl
     have m2:wr.cell? ⟨g3,of3+k*9+2,none⟩=some (.bool false):=hcc 2 _ rfl
     have m3:wr.cell? ⟨g3,of3+k*9+3,none⟩=some (.slice b1.2.1 (zd (b1.1:Int)).length b1.2.2):=hcc 3 _ rfl
     have m4:wr.cell? ⟨g3,of3+k*9+4,none⟩=some (.bool false):=hcc 4 _ rfl
     have m5:wr.cell? ⟨g3,of3+k*9+5,none⟩=some (.slice b2.2.1 (zd (b2.1:Int)).length b2.2.2):=hcc 5 _ rfl
     have m6:wr.cell? ⟨g3,of3+k*9+6,none⟩=some (.bool false):=hcc 6 _ rfl
     have m7:wr.cell? ⟨g3,of3+k*9+7,none⟩=some (.slice b3.2.1 (zd (b3.1:Int)).length b3.2.2):=hcc 7 _ rfl
     have m8:wr.cell? ⟨g3,of3+k*9+8,none⟩=some (.bool okb):=hcc 8 _ rfl
     have htl:(k:Int)<(B.length:Nat):=by have:=HBE.out;have:=HKM.out;omega
     have hr:=(H.out.ord 5 [4]).blk
     rw [lcells_zero] at hr
     have r0:=hEC hr 0
     have r1:=hEC hr 1
     have r2:=hEC hr 2
     have r3:=hEC hr 3
     have r4:=hEC hr 4
     have r5:=hEC hr 5
     have r6:=hEC hr 6
     have r7':=hEC hr 7
     have rz0:=hEF hr 0
     have rz1:=hEF hr 1
     have rz2:=hEF hr 2
     have rz3:=hEF hr 3
     have rz4:=hEF hr 4
     have rz5:=hEF hr 5
     have rz6:=hEF hr 6
     have rz7':=hEF hr 7
     have rl:=lBk hr
     have HFB:=Lib.hid (And.intro hfb hlb)
     subst hav
     subst hav2
     have HBT:=Lib.hid hBt
     clear hBt hrow hcc hfb hlb hr
     go_wp2
     refine wRS [([0,1,2,3,4,5,6,7,8,9,10],[9]),([11,12],[])] (by kernel_rfl) (by kernel_rfl) ?_
     (simp only [wpSegs,pick,Array.getD_eq_getD_getElem?,List.getElem?_toArray,List.getElem?_cons_succ,List.getElem?_cons_zero,Option.getD_some])
     go_wp2
     have h0:=H.out
     unfold BL at h0
     have h0:=h0.ord 6 [4,5,0,1]
     simp only [List.filterMap_cons,List.filterMap_nil,List.getElem?_cons_zero,List.getElem?_cons_succ,List.drop_succ_cons,List.drop_zero,List.cons_append,List.nil_append,List.take_succ_cons,List.take_zero,List.eraseIdx_cons_succ,List.eraseIdx_zero,List.eraseIdx_cons_zero,List.tail_cons,Option.toList_some] at h0
     have h1:=hST (hST (hST (hST h0 0 (.bool false)) 1 (.slice b0.2.1 (zd (b0.1:Int)).length b0.2.2)) 2 (.bool false)) 3 (.slice b1.2.1 (zd (b1.1:Int)).length b1.2.2)
     have h2:=hST (hST (hST (hST h1 4 (.bool false)) 5 (.slice b2.2.1 (zd (b2.1:Int)).length b2.2.2)) 6 (.bool false)) 7 (.slice b3.2.1 (zd (b3.1:Int)).length b3.2.2)
     rw [lcells_store _ okb] at h2
     have h2:=h2.step ((Fr.refl [] _).drew)
     obtain⟨g4,of4,e4,_,hc4⟩:=fvs_cell (Reads.of_owns (h2.ord 3 [2]).row) HBT.out
     cases e4
     have m9:=hc4 8 (Value.bool okb) rfl
     have H2:=Lib.hid h2
     clear h0 h1 h2 hc4 H
     refine Mid.intro ⟨⟨again_cell (T:=4) rfl rfl rfl Tryz.underlying4 rfl m9 rfl,trivial⟩,?_⟩
     clear m9
     go_wp2
     refine Mid.intro ⟨trivial,Strict.intro rfl ?_⟩
     go_wp2
     refine bodyPost_ret (four_result rfl (b:=rb) (f:=(okb,b0,b1,b2,b3)) rfl ?_ rfl rfl) rfl ⟨(okb,b0,b1,b2,b3),L,rfl,?_,HFB.out.1,HFB.out.2⟩
     ·exact H2.out.blk
     ·exact H2.out.ord 4 [1,3]
end Go.Proofs.YtdanghnadbkhfaaGreat
end
