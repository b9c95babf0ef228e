/- Own texts of this claim, part 19: no condition. -/
import Derived.Test.YtebolidfbflkmaaGreatZF0
import Derived.Test.YtebolidfbflkmaaGreatZE16
set_option linter.unusedVariables false
set_option linter.unusedSimpArgs false
set_option maxHeartbeats 16000000
set_option maxRecDepth 100000
namespace Go.Proofs.YtebolidfbflkmaaGreat
open Go Go.RowKit Rg Mp Hp Qs Ev Pt
variable {w:World}{r:Rule}{ha na:Option Addr}{hc nc c:Nat}
theorem REval12_calls (hr:RuleAt w (.slice ha r.hood.length hc) (.slice na r.nodes.length nc) r) (hR:Ar r=true) {b:Option Addr} {ss:List Int} (hi:IntsAt w (.slice b ss.length c) ss) (hl:ss.length=r.hood.length) (hs:∀ s∈ss,0≤s∧s<r.S) :
  Calls Tryz.prog 76 #[.agg #[.int .i64 r.S,.slice ha r.hood.length hc,.slice na r.nodes.length nc],.slice b ss.length c] w fun e w'=>e=.returned (.tuple #[.int .i64 (down r ss),.int .i64 0])∧Fr [] w w':=by
 have hhl:=G3 hR;have hnl:=K8 hR;have H0:=q_ ((Has.nil (Fr.refl [] w)).newBlk (.cells #[.int .i64 r.S,.slice ha r.hood.length hc,.slice na r.nodes.length nc] 25 (0,0)));have hRT:=fun w' (hf:Fr [] w w')=>RTRight_calls (hr.fr hf) o_ o_;rw [hR] at hRT;have HRT:=q_ hRT;have HVC:=q_ (fun w' (hf:Fr [] w w')=>RValue_calls (ha:=ha) (hc:=hc) hR (hr.fr hf).2 (hi.fr hf) hl hs);have HI:=q_ hi;have HS:=q_ hs;obtain⟨m,hm⟩:∃ m,r.hood.length=m:=⟨_,rfl⟩;rw [hl,hm] at HVC;rw [hl] at HI;rw [hm] at hhl H0 HRT HI ⊢;rw [hl,hm];have HL:=q_ (hl.trans hm);clear hr hR hi hl hs hm hRT;go_enter Tryz.func76,Tryz.ntmps76;go_wp2_with fail;refine (HRT.o _ (Fr.t)).mono ?_;rintro e w1 ⟨rfl,hf1⟩;obtain⟨tb,htb⟩:∃ t,w.heap.size=t:=⟨_,rfl⟩;have h1:=H0.o.step (Fr.trans0 (Fr.t) hf1);rw [htb] at h1 ⊢;have H1:=q_ h1;clear h1 hf1 htb H0 HRT;have hb:=H1.o.blk;(try clear v0 v1 v2 vl);obtain⟨v0,v1,v2,vl⟩:=l3_ hb;clear hb;go_wp2;go_loopg [6] m (fun gg z wr=>∃ i:Nat,i≤m∧m - i≤gg∧z=.int .i64 (i:Int)∧Hid (Has w wr [Hp.blk tb (.cells #[.int .i64 r.S,.slice ha m hc,.slice na r.nodes.length nc] 25 (0,0))]));case atStart=>exact⟨0,Nat.zero_le _,o_,rfl,q_ (H1.o.step (Fr.t))⟩
 case round =>
  obtain⟨i,hi,hg,rfl,HH⟩:=hrel;clear H1;have hb:=HH.o.blk;(try clear v0 v1 v2 vl);obtain⟨v0,v1,v2,vl⟩:=l3_ hb;clear hb;by_cases hin:i<m;·
   obtain⟨s,hs⟩:∃ s,ss[i]?=some s:=⟨_,List.getElem?_eq_getElem (by rw [HL.o];exact hin)⟩;have hsr:=HS.o s (List.mem_of_getElem? hs);obtain⟨g,off,rfl,hgl,hc2⟩:=IntsAt.cell (HI.o.fr HH.o.fr) hs;clear hs;go_wp2;(refine wT ?_);go_wp2;refine sT_ rfl ?_;go_wp2;go_roundg (m - (i+1));case measure=>omega
   case rel=>exact⟨i+1,hin,Nat.le_refl _,i_,q_ (HH.o.step (Fr.t))⟩
  ·obtain rfl:m=i:=o_;have HVQ:=q_ (fun w' (hf:Fr [] wr w')=>HVC.o w' (HH.o.step hf).fr);clear HVC;go_wp2_with fail;refine (HVQ.o _ (Fr.t)).mono ?_;rintro e w3 ⟨rfl,hf3⟩;have H3:=q_ (HH.o.step (Fr.trans0 (Fr.t) hf3));clear hf3 HVQ;go_wp2;go_ret2;exact⟨rfl,(H3.o.step (Fr.t)).fr⟩
theorem RQuiet_calls (hr:RuleAt w (.slice ha r.hood.length hc) (.slice na r.nodes.length nc) r) (hlh:r.hood.length≤1000000) (hln:r.nodes.length≤1000000) :
  Calls Tryz.prog 32 #[.agg #[.int .i64 r.S,.slice ha r.hood.length hc,.slice na r.nodes.length nc]] w fun e w'=>e=.returned (.bool (C1 r))∧Fr [] w w':=by
 have H0:=q_ ((Has.nil (Fr.refl [] w)).newBlk (.cells #[.int .i64 r.S,.slice ha r.hood.length hc,.slice na r.nodes.length nc] 25 (0,0)));have HRT:=q_ (fun w' (hf:Fr [] w w')=>RTRight_calls (hr.fr hf) hlh hln);have HRU:=q_ hr;obtain⟨bR,hbR⟩:∃ b,Ar r=b:=⟨_,rfl⟩;rw [hbR] at HRT;have HBR:=q_ hbR;obtain⟨m,hm⟩:∃ m,r.hood.length=m:=⟨_,rfl⟩;obtain⟨n,hn⟩:∃ m,r.nodes.length=m:=⟨_,rfl⟩;rw [hm] at hlh H0 HRT ⊢;rw [hn] at H0 HRT ⊢;have HM:=q_ (And.intro hm hn);clear hr hm hn hbR hln;go_enter Tryz.func32,Tryz.ntmps32;go_wp2_with fail;refine (HRT.o _ (Fr.t)).mono ?_;rintro e w1 ⟨rfl,hf1⟩;obtain⟨tb,htb⟩:∃ t,w.heap.size=t:=⟨_,rfl⟩;have h1:=H0.o.step (Fr.trans0 (Fr.t) hf1);rw [htb] at h1 ⊢;have H1:=q_ h1;clear h1 hf1 htb H0 HRT;have hb:=H1.o.blk;(try clear v0 v1 v2 vl);obtain⟨v0,v1,v2,vl⟩:=l3_ hb;clear hb;cases bR with
 | false =>have HQ:=q_ (show C1 r=false from by unfold C1;rw [HBR.o];rfl);go_wp2;go_ret;exact⟨by rw [HQ.o];rfl,(H1.o.step (Fr.t)).fr⟩
 | true =>
  have hmm:=G3 HBR.o;rw [HM.o.1] at hmm;have hmaxl:(25:Nat)≤maxLen:=by decide
  have hlm:m≤maxLen:=o_
  clear hmaxl;go_wp2;refine wS [([0,1,2,3,4],[0]),([5,6,7,8,9,10],[])] ?_;(simp only [A2,pick,aq_,bq_,cq_,dq_,eq_]);go_wp2_with (refine Dt (n:=m) (z:=.int .i64 0) (bytes:=8) (e:=3) rfl rfl rfl rfl Tryz.underlying72 k_ rfl o_ hlm ?_);intro w3 hrow3 hf3 hs3;have hds:w1.drew.heap.size=w1.heap.size:=rfl;have h3:=(H1.o.step (w':=w1.drew) (Fr.t)).newRow hf3 hrow3;rw [iv_replicate] at h3;(try rw [hds] at h3);(try rw [hds]);clear hds;obtain⟨zb,hzb⟩:∃ t,w1.heap.size=t:=⟨_,rfl⟩;rw [hzb] at h3 ⊢;have hbk:=(h3.bring 1).blk;have Hb:=q_ hbk;have H3:=q_ h3;clear h3 hrow3 hf3 hs3 hbk v0 v1 v2 vl hzb H1;have hb:=Hb.o;obtain⟨v0,v1,v2,vl⟩:=l3_ hb;clear hb;go_wp2;refine mD_ ⟨⟨aGR (T:=25) (cs:=[.int .i64 r.S,.slice ha m hc,.slice na n nc]) rfl rfl rfl Tryz.underlying25 rfl k_ (fun j v hj=>?rng) rfl,trivial⟩,?_⟩;case rng =>rw [Nat.zero_add,hEC Hb.o,← hj];exact (Array.getElem?_toList (xs:=#[Value.int .i64 r.S,.slice ha m hc,.slice na n nc])).symm
  have hia:IntsAt w3 (.slice (some ⟨zb,0,none⟩) (List.replicate m (0:Int)).length m) (List.replicate m 0):=by have:=H3.o.rowReads;unfold IntsAt;rw [List.length_replicate];exact this
  have hEV:=fun w' (hf:Fr [] w3 w')=>REval12_calls (ha:=ha) (na:=na) (hc:=hc) (nc:=nc) (HRU.o.fr (H3.o.step hf).fr) HBR.o (hia.fr hf) (by rw [List.length_replicate,HM.o.1]) (fun s hs=>by
   have hS:=Oh HBR.o
   rw [List.eq_of_mem_replicate hs];omega)
  rw [List.length_replicate,HM.o.1,HM.o.2] at hEV;have HEV:=q_ hEV;clear hEV hia;obtain⟨z,hz⟩:∃ z,down r (List.replicate m 0)=z:=⟨_,rfl⟩;rw [hz] at HEV;have HQ:=q_ (show C1 r=(z == 0) from by unfold C1;rw [HBR.o,HM.o.1,hz];rfl);clear hz;go_wp2_with fail;refine (HEV.o _ (Fr.t)).mono ?_;rintro e w4 ⟨rfl,hf4⟩;have H4:=q_ (H3.o.step (Fr.trans0 (Fr.t) hf4));clear hf4 HEV H3 Hb v0 v1 v2 vl;go_wp2;refine mD_ ⟨trivial,sT_ rfl ?_⟩;go_wp2;go_ret;exact⟨by rw [HQ.o];rfl,(H4.o.step (Fr.t)).fr⟩
def fitsE (r:Rule) (p:List PC):Int:=if C1 r then (if Cn p then (if p.all fun c=>decide (c.st<r.S) then 0 else 10) else 2) else 11
theorem RFits_calls (hr:RuleAt w (.slice ha r.hood.length hc) (.slice na r.nodes.length nc) r) (hlh:r.hood.length≤1000000) (hln:r.nodes.length≤1000000)
  {p:List PC} {a:Option Addr} (hp:CellsAt w (.slice a p.length c) p) (hpl:p.length≤60000) :
  Calls Tryz.prog 10 #[.agg #[.int .i64 r.S,.slice ha r.hood.length hc,.slice na r.nodes.length nc],.slice a p.length c] w fun e w'=>e=.returned (.int .i64 (fitsE r p))∧Fr [] w w':=by
 have H0:=q_ ((Has.nil (Fr.refl [] w)).newBlk (.cells #[.int .i64 r.S,.slice ha r.hood.length hc,.slice na r.nodes.length nc] 25 (0,0)));have HRT:=q_ (fun w' (hf:Fr [] w w')=>RQuiet_calls (hr.fr hf) hlh hln);have HRR:=q_ (fun w' (hf:Fr [] w w')=>RRight_p (hp.fr hf) o_);have HP:=q_ hp;obtain⟨bq,hbq⟩:∃ b,C1 r=b:=⟨_,rfl⟩;rw [hbq] at HRT;obtain⟨br,hbr⟩:∃ b,Cn p=b:=⟨_,rfl⟩;rw [hbr] at HRR;have HB:=q_ (And.intro hbq hbr);obtain⟨l,hl⟩:∃ m,p.length=m:=⟨_,rfl⟩;rw [hl] at hpl HP HRR ⊢;have HL:=q_ hl;obtain⟨m,hm⟩:∃ m,r.hood.length=m:=⟨_,rfl⟩;obtain⟨n,hn⟩:∃ m,r.nodes.length=m:=⟨_,rfl⟩;rw [hm,hn] at H0 HRT ⊢;clear hr hp hbq hbr hl hm hn hlh hln;go_enter Tryz.func10,Tryz.ntmps10;go_wp2_with fail;refine (HRT.o _ (Fr.t)).mono ?_;rintro e w1 ⟨rfl,hf1⟩;obtain⟨tb,htb⟩:∃ t,w.heap.size=t:=⟨_,rfl⟩;have h1:=H0.o.step (Fr.trans0 (Fr.t) hf1);rw [htb] at h1 ⊢;have H1:=q_ h1;clear h1 hf1 htb H0 HRT;cases bq with
 | false =>have HQ:=q_ (show fitsE r p=11 from by unfold fitsE;rw [HB.o.1];rfl);go_wp2;go_ret;exact⟨by rw [HQ.o];rfl,(H1.o.step (Fr.t)).fr⟩
 | true =>
  have HRQ:=q_ (fun w' (hf:Fr [] w1 w')=>HRR.o w' (H1.o.step hf).fr);clear HRR;go_wp2_with fail;refine (HRQ.o _ (Fr.t)).mono ?_;rintro e w2 ⟨rfl,hf2⟩;have H2:=q_ (H1.o.step (Fr.trans0 (Fr.t) hf2));clear hf2 HRQ H1;cases br with
  | false =>have HQ:=q_ (show fitsE r p=2 from by unfold fitsE;rw [HB.o.1,HB.o.2];rfl);go_wp2;go_ret;exact⟨by rw [HQ.o];rfl,(H2.o.step (Fr.t)).fr⟩
  | true =>
   go_wp2;go_loopg [5] l (fun gg z wr=>∃ i:Nat,i≤l∧l - i≤gg∧z=.int .i64 (i:Int)∧Hid ((p.take i).all (fun c=>decide (c.st<r.S))=true)∧Hid (Has w wr [Hp.blk tb (.cells #[.int .i64 r.S,.slice ha m hc,.slice na n nc] 25 (0,0))]));case atStart=>exact⟨0,Nat.zero_le _,o_,rfl,q_ i_,q_ (H2.o.step (Fr.t))⟩
   case round =>
    obtain⟨i,hi,hg,rfl,HA,HH⟩:=hrel;clear H2;have hb:=HH.o.blk;(try clear v0 v1 v2 vl);obtain⟨v0,v1,v2,vl⟩:=l3_ hb;clear hb;by_cases hin:i<l;·
     obtain⟨⟨cx,cy,st⟩,hp⟩:∃ c,p[i]?=some c:=⟨_,List.getElem?_eq_getElem (by rw [HL.o];exact hin)⟩;obtain⟨g,off,rfl,hgl,e0,e1,e2⟩:=CellsAt.cell (HP.o.fr HH.o.fr) hp;simp only at e0 e1 e2;have htk:p.take (i+1)=p.take i++[⟨cx,cy,st⟩]:=(by rw [List.take_add_one,hp];rfl);have HTK:=q_ htk;have HPI:=q_ hp;clear hp htk e0 e1;by_cases hs:r.S≤st
     ·have HQ:=q_ (show fitsE r p=10 from by
       unfold fitsE
       rw [HB.o.1,HB.o.2]
       simp only [if_true]
       rw [if_neg]
       rw [List.all_eq_true]
       intro hh
       have:=hh _ (List.mem_of_getElem? HPI.o)
       simp at this
       omega)
      go_wp2;(refine wT ?_);go_wp2;refine sT_ rfl ?_;go_wp2;go_ret;exact⟨by rw [HQ.o];rfl,(HH.o.step (Fr.t)).fr⟩
     ·go_wp2;(refine wT ?_);go_wp2;refine sT_ rfl ?_;go_wp2;go_roundg (l - (i+1));case measure=>omega
      case rel=>exact⟨i+1,hin,Nat.le_refl _,i_,q_ (by rw [HTK.o,List.all_append,HA.o];simp;omega),q_ (HH.o.step (Fr.t))⟩
    ·obtain rfl:l=i:=o_;have h2:=HA.o;rw [List.take_of_length_le (by rw [HL.o];exact Nat.le_refl _)] at h2;have HQ:=q_ (show fitsE r p=0 from by unfold fitsE;rw [HB.o.1,HB.o.2,h2];rfl);clear h2 HA;go_wp2;go_ret;exact⟨by rw [HQ.o];rfl,(HH.o.step (Fr.t)).fr⟩
end Go.Proofs.YtebolidfbflkmaaGreat
namespace Go.Proofs.Pt
theorem insP_done {c:PC}:∀ {l m:List PC},(∃ x∈l,Cf c x=true)→Qk c (l++m)=Qk c l++m
 | [],_,h=>by obtain⟨x,hx,_⟩:=h;cases hx
 | d::l,m,h=>by
  rw [List.cons_append,Qk,Qk];split;·rfl
  ·rename_i hd;rw [insP_done (by
    obtain⟨x,hx,hb⟩:=h
    rw [List.mem_cons] at hx
    rcases hx with rfl|hx
    ·exact absurd hb hd
    ·exact⟨x,hx,hb⟩)]
   rfl
theorem insP_not {c:PC}:∀ {l m:List PC},(∀ x∈l,Cf c x=false)→Qk c (l++m)=l++Qk c m
 | [],_,_=>rfl
 | d::l,m,h=>by rw [List.cons_append,Qk,if_neg (by rw [h d i_];simp),insP_not fun x hx=>h x (by simp [hx])];rfl
def insS (c:PC) (dn:Bool) (l:List PC):List PC:=if dn then Qk c l else l
def insD (c:PC) (dn:Bool) (l:List PC):Prop:=(dn=true→∃ x∈l,Cf c x=true)∧(dn=false→∀ x∈l,Cf c x=false)
variable {c d:PC}{l:List PC}
theorem insS_old (h:insD c true l):insS c true l++[d]=insS c true (l++[d])∧insD c true (l++[d]):=by refine⟨by simp only [insS,if_true];rw [insP_done (h.1 rfl)],fun _=>?_,i_⟩;obtain⟨x,hx,hb⟩:=h.1 rfl;exact⟨x,by simp [hx],hb⟩
theorem insS_new (h:insD c false l) (hb:Cf c d=true):(insS c false l++[c])++[d]=insS c true (l++[d])∧insD c true (l++[d]):=by refine⟨?_,fun _=>⟨d,i_,hb⟩,i_⟩;simp only [insS,if_true,Bool.false_eq_true,if_false];rw [insP_not (h.2 rfl),Qk,if_pos hb,List.append_assoc];rfl
theorem insS_keep (h:insD c false l) (hb:Cf c d=false):insS c false l++[d]=insS c false (l++[d])∧insD c false (l++[d]):=by
 refine⟨by simp [insS],i_,fun _ x hx=>?_⟩;rw [List.mem_append] at hx;rcases hx with hx|hx
 ·exact h.2 rfl x hx
 ·rw [List.mem_singleton] at hx;rw [hx];exact hb
theorem insS_end (h:insD c false l):insS c false l++[c]=Qk c l:=by have:=insP_not (m:=[]) (h.2 rfl);rw [List.append_nil] at this;simp [insS,this,Qk]
theorem insS_len {dn:Bool}:(insS c dn l).length≤l.length+1:=by
 unfold insS;split;·rw [(N7 c l).length_eq];simp
 ·omega
end Go.Proofs.Pt
namespace Go.Proofs.YtebolidfbflkmaaGreat
open Go Go.RowKit Rg Mp Hp Pt
variable {w:World}{a:Option Addr}{c:Nat}
theorem Rinsert_h {p:List PC} (hl:CellsAt w (.slice a p.length c) p) (hlen:p.length≤100000) (q:PC) :
  Calls Tryz.prog 143 #[.slice a p.length c,pcV q] w fun e w'=>∃ v,e=.returned v∧Has w w' [Hp.row 41 3 v (Qk q p).length (pcs (Qk q p))]:=by
 obtain⟨qx,qy,qs⟩:=q;have HL:=q_ hl;obtain⟨m,hm⟩:∃ m,p.length=m:=⟨_,rfl⟩;have HM:=q_ hm;have hm1:m≤100000:=o_
 obtain⟨R,hR⟩:∃ R,Qk ⟨qx,qy,qs⟩ p=R:=⟨_,rfl⟩;rw [hm,hR];have HR:=q_ hR;have h1:=(hAL (Has.nil (Fr.refl [] w)) #[.int .i64 qx,.int .i64 qy,.int .i64 qs] 41).newRow (T:=41) (size:=3) (Fr.refl [] _) (Ee _ _ _ _);obtain⟨x3,hx3⟩:∃ x,w.heap.size=x:=⟨_,rfl⟩;rw [hx3] at h1;have H1:=q_ h1;clear hl hlen hm hR h1;simp only [pcV];go_enter Tryz.func143,Tryz.ntmps143;go_wp2;clear hx3;go_loopw [5,6,7] (fun x5 x6 x7 wr=>∃ (i:Nat) (v:Value) (dn:Bool),(v=x5∧x6=.bool dn∧x7=.int .i64 (i:Nat))∧i≤m∧insD ⟨qx,qy,qs⟩ dn (p.take i)∧Has w wr [Hp.row 41 3 v (insS ⟨qx,qy,qs⟩ dn (p.take i)).length (pcs (insS ⟨qx,qy,qs⟩ dn (p.take i))),Hp.blk x3 (.cells #[.int .i64 qx,.int .i64 qy,.int .i64 qs] 41 (0,0))]) (fun _ _ x _=>m - (intOf x).toNat);case atStart=>exact⟨0,_,false,⟨rfl,rfl,rfl⟩,o_,⟨i_,i_⟩,H1.o⟩
 case round =>
  clear H1;obtain⟨i,v5,dn,⟨rfl,rfl,rfl⟩,him,hd,h⟩:=hrel;have H:=q_ h;have HD:=q_ hd;have HLE:=q_ (show (insS ⟨qx,qy,qs⟩ dn (p.take i)).length≤100001 from by
   have h1:=insS_len (c:=⟨qx,qy,qs⟩) (dn:=dn) (l:=p.take i)
   have h2:(p.take i).length≤i:=by rw [List.length_take];omega
   omega)
  clear h hd;have hb:=H.o.swap.blk;obtain⟨b0,b1,b2,bl⟩:=l3_ hb;clear hb;obtain⟨T,hT⟩:∃ T,p.take i=T:=⟨_,rfl⟩;rw [hT] at HD HLE H;have HT:=q_ hT;clear hT;by_cases hlt:i<m;·
   obtain⟨⟨cx,cy,st⟩,hpi⟩:∃ c,p[i]?=some c:=⟨_,List.getElem?_eq_getElem (by rw [HM.o];exact hlt)⟩;have HTK:=q_ (show p.take (i+1)=T++[⟨cx,cy,st⟩] by rw [List.take_add_one,hpi,HT.o];rfl);obtain⟨g,off,rfl,hg,e0,e1,e2⟩:=(HL.o.fr H.o.fr).cell hpi;simp only at e0 e1 e2;have HPI:=q_ hpi;clear hpi;cases dn with
   | true =>
    obtain⟨I,hI⟩:∃ I,insS ⟨qx,qy,qs⟩ true T=I:=⟨_,rfl⟩;rw [hI] at H HLE;have HI:=q_ hI;clear hI;go_wp2;(refine wT ?_);go_wp2;refine sT_ rfl ?_;have hrow:=H.o.row;have HO:=q_ hrow;clear hrow;go_wp2_with (at_builtin;refine append_pp (n:=I.length) (base:=0) (xs:=pcs I) (y:=⟨cx,cy,st⟩) rfl rfl rfl ?e11 rfl ?e21 ?e31 ?e41 ?_);case e11=>exact oOB HO.o fun g hg=>hAE _ _ _ (oLT HO.o hg)
    case e21=>first|(first|(rw [hAC,if_pos rfl];done)|exact (Array.getElem?_eq_some_iff.1 ((hAC _ _ _).trans (if_pos rfl))).2|(simp only [hDR,hDN];rw [hAC,if_pos rfl];done))|(refine (Array.getElem?_eq_some_iff.1 ?_).2;(repeat first|rw [if_pos o_]|rw [if_neg o_]|rw [hDR]|rw [hDN]|rw [hAz]|rw [hSz]|rw [hAC]|rw [hSC]|rw [oMS]|rw [uPC]|rw [lSZ]|rw [lSS]|rfl))
    case e31=>have:=HLE.o;omega
    case e41=>omega
    intro g21 cap1 w10 hown1 hW1 hF1 hloc1 hg1;rw [Ta _ ⟨cx,cy,st⟩] at hown1;have h9:=hAP (n':=(I++([⟨cx,cy,st⟩]:List PC)).length) (H.o.step (Fr.t)) (by first|(rw [List.length_append];exact hown1)|(rw [List.length_append,List.length_append];exact hown1)) rfl hF1 (by rcases hloc1 with h|h;exact .inl h;exact .inr (by rw [h];simp));clear hown1 hW1 hF1 hloc1 hg1 HO;have HE:=q_ (show I++[⟨cx,cy,st⟩]=insS ⟨qx,qy,qs⟩ true (T++[⟨cx,cy,st⟩])∧insD ⟨qx,qy,qs⟩ true (T++[⟨cx,cy,st⟩]) from by rw [← HI.o];exact insS_old (d:=⟨cx,cy,st⟩) HD.o);rw [HE.o.1] at h9;have H9:=q_ h9;clear h9 b0 b1 b2 bl e0 e1 e2 hg;go_wp2;go_roundw;case rel=>exact⟨i+1,_,true,⟨rfl,rfl,by go_num⟩,o_,by rw [HTK.o];exact HE.o.2,by rw [HTK.o];exact H9.o.step (Fr.t)⟩
    case measure=>simp [intOf];omega
   | false =>
    obtain⟨pb,hpb⟩:∃ b,Cf ⟨qx,qy,qs⟩ ⟨cx,cy,st⟩=b:=⟨_,rfl⟩;have HB:=q_ (show ∀ w1,_ from fun w1=>hpb▸before_p ⟨qx,qy,qs⟩ ⟨cx,cy,st⟩ w1);simp only [pcV] at HB;have HPB:=q_ hpb;obtain⟨I,hI⟩:∃ I,insS ⟨qx,qy,qs⟩ false T=I:=⟨_,rfl⟩;rw [hI] at H HLE;have HI:=q_ hI;clear hI hpb;go_wp2;(refine wT ?_);go_wp2_with fail;refine (HB.o _).mono ?_;rintro e w5 ⟨rfl,hf5⟩;have H5:=q_ (H.o.step (Fr.trans0 (Fr.t) hf5));clear hf5 b0 b1 b2 bl e0 e1 e2 hg;have hb:=H5.o.swap.blk;obtain⟨b0,b1,b2,bl⟩:=l3_ hb;clear hb;obtain⟨g8,of8,he8,hg,e0,e1,e2⟩:=CellsAt.cell (HL.o.fr H5.o.fr) HPI.o;cases he8;simp only at e0 e1 e2;cases pb with
    | true =>
     go_wp2;refine sT_ rfl ?_;have hrow:=H5.o.row;have HO:=q_ hrow;clear hrow;go_wp2_with (at_builtin;refine append_pp (n:=I.length) (base:=0) (xs:=pcs I) (y:=⟨qx,qy,qs⟩) rfl rfl rfl ?e12 rfl ?e22 ?e32 ?e42 ?_);case e12=>exact oOB HO.o fun g hg=>hAE _ _ _ (oLT HO.o hg)
     case e22=>first|(first|(rw [hAC,if_pos rfl];done)|exact (Array.getElem?_eq_some_iff.1 ((hAC _ _ _).trans (if_pos rfl))).2|(simp only [hDR,hDN];rw [hAC,if_pos rfl];done))|(refine (Array.getElem?_eq_some_iff.1 ?_).2;(repeat first|rw [if_pos o_]|rw [if_neg o_]|rw [hDR]|rw [hDN]|rw [hAz]|rw [hSz]|rw [hAC]|rw [hSC]|rw [oMS]|rw [uPC]|rw [lSZ]|rw [lSS]|rfl))
     case e32=>have:=HLE.o;omega
     case e42=>omega
     intro g22 cap2 w10 hown1 hW1 hF1 hloc1 hg1;rw [Ta _ ⟨qx,qy,qs⟩] at hown1;have h9:=hAP (n':=(I++([⟨qx,qy,qs⟩]:List PC)).length) (H5.o.step (Fr.t)) (by first|(rw [List.length_append];exact hown1)|(rw [List.length_append,List.length_append];exact hown1)) rfl hF1 (by rcases hloc1 with h|h;exact .inl h;exact .inr (by rw [h];simp));clear hown1 hW1 hF1 hloc1 hg1 HO;have H6:=q_ h9;clear h9 b0 b1 b2 bl e0 e1 e2 hg;have hb:=H6.o.swap.blk;obtain⟨b0,b1,b2,bl⟩:=l3_ hb;clear hb;obtain⟨g8,of8,he8,hg,e0,e1,e2⟩:=CellsAt.cell (HL.o.fr H6.o.fr) HPI.o;cases he8;simp only at e0 e1 e2;have hrow:=H6.o.row;have HO:=q_ hrow;clear hrow;go_wp2_with (at_builtin;refine append_pp (n:=(I++([⟨qx,qy,qs⟩]:List PC)).length) (base:=0) (xs:=pcs (I++([⟨qx,qy,qs⟩]:List PC))) (y:=⟨cx,cy,st⟩) rfl rfl rfl ?e13 rfl ?e23 ?e33 ?e43 ?_);case e13=>exact oOB HO.o fun g hg=>hAE _ _ _ (oLT HO.o hg)
     case e23=>first|(first|(rw [hAC,if_pos rfl];done)|exact (Array.getElem?_eq_some_iff.1 ((hAC _ _ _).trans (if_pos rfl))).2|(simp only [hDR,hDN];rw [hAC,if_pos rfl];done))|(refine (Array.getElem?_eq_some_iff.1 ?_).2;(repeat first|rw [if_pos o_]|rw [if_neg o_]|rw [hDR]|rw [hDN]|rw [hAz]|rw [hSz]|rw [hAC]|rw [hSC]|rw [oMS]|rw [uPC]|rw [lSZ]|rw [lSS]|rfl))
     case e33=>have:=HLE.o;simp;omega
     case e43=>omega
     intro g23 cap3 w10 hown1 hW1 hF1 hloc1 hg1;rw [Ta _ ⟨cx,cy,st⟩] at hown1;have h9:=hAP (n':=((I++([⟨qx,qy,qs⟩]:List PC))++([⟨cx,cy,st⟩]:List PC)).length) (H6.o.step (Fr.t)) (by first|(rw [List.length_append];exact hown1)|(rw [List.length_append,List.length_append];exact hown1)) rfl hF1 (by rcases hloc1 with h|h;exact .inl h;exact .inr (by rw [h];simp));clear hown1 hW1 hF1 hloc1 hg1 HO;have HE:=q_ (show (I++([⟨qx,qy,qs⟩]:List PC))++[⟨cx,cy,st⟩]=insS ⟨qx,qy,qs⟩ true (T++[⟨cx,cy,st⟩])∧insD ⟨qx,qy,qs⟩ true (T++[⟨cx,cy,st⟩]) from by rw [← HI.o];exact insS_new HD.o HPB.o);rw [HE.o.1] at h9;have H9:=q_ h9;clear h9 b0 b1 b2 bl e0 e1 e2 hg;go_wp2;go_roundw;case rel=>exact⟨i+1,_,true,⟨rfl,rfl,by go_num⟩,o_,by rw [HTK.o];exact HE.o.2,by rw [HTK.o];exact H9.o.step (Fr.t)⟩
     case measure=>simp [intOf];omega
    | false =>
     go_wp2;refine sT_ rfl ?_;have hrow:=H5.o.row;have HO:=q_ hrow;clear hrow;go_wp2_with (at_builtin;refine append_pp (n:=I.length) (base:=0) (xs:=pcs I) (y:=⟨cx,cy,st⟩) rfl rfl rfl ?e14 rfl ?e24 ?e34 ?e44 ?_);case e14=>exact oOB HO.o fun g hg=>hAE _ _ _ (oLT HO.o hg)
     case e24=>first|(first|(rw [hAC,if_pos rfl];done)|exact (Array.getElem?_eq_some_iff.1 ((hAC _ _ _).trans (if_pos rfl))).2|(simp only [hDR,hDN];rw [hAC,if_pos rfl];done))|(refine (Array.getElem?_eq_some_iff.1 ?_).2;(repeat first|rw [if_pos o_]|rw [if_neg o_]|rw [hDR]|rw [hDN]|rw [hAz]|rw [hSz]|rw [hAC]|rw [hSC]|rw [oMS]|rw [uPC]|rw [lSZ]|rw [lSS]|rfl))
     case e34=>have:=HLE.o;omega
     case e44=>omega
     intro g24 cap4 w10 hown1 hW1 hF1 hloc1 hg1;rw [Ta _ ⟨cx,cy,st⟩] at hown1;have h9:=hAP (n':=(I++([⟨cx,cy,st⟩]:List PC)).length) (H5.o.step (Fr.t)) (by first|(rw [List.length_append];exact hown1)|(rw [List.length_append,List.length_append];exact hown1)) rfl hF1 (by rcases hloc1 with h|h;exact .inl h;exact .inr (by rw [h];simp));clear hown1 hW1 hF1 hloc1 hg1 HO;have HE:=q_ (show I++[⟨cx,cy,st⟩]=insS ⟨qx,qy,qs⟩ false (T++[⟨cx,cy,st⟩])∧insD ⟨qx,qy,qs⟩ false (T++[⟨cx,cy,st⟩]) from by rw [← HI.o];exact insS_keep HD.o HPB.o);rw [HE.o.1] at h9;have H9:=q_ h9;clear h9 b0 b1 b2 bl e0 e1 e2 hg;go_wp2;go_roundw;case rel=>exact⟨i+1,_,false,⟨rfl,rfl,by go_num⟩,o_,by rw [HTK.o];exact HE.o.2,by rw [HTK.o];exact H9.o.step (Fr.t)⟩
     case measure=>simp [intOf];omega
  ·obtain rfl:i=m:=o_;have HTP:=q_ (show T=p by rw [← HT.o];exact List.take_of_length_le (by rw [HM.o];exact Nat.le_refl _));cases dn with
   | true =>go_wp2;go_ret;refine⟨_,rfl,?_⟩;have h:=H.o.ord 2 [0];simp only [List.filterMap_cons,List.filterMap_nil,List.getElem?_cons_zero,List.getElem?_cons_succ,List.drop_succ_cons,List.drop_zero,List.cons_append,List.nil_append,List.take_succ_cons,List.take_zero,List.eraseIdx_cons_succ,List.eraseIdx_zero,List.eraseIdx_cons_zero,List.tail_cons,Option.toList_some] at h;rw [HTP.o,show insS ⟨qx,qy,qs⟩ true p=R from HR.o] at h;exact h.step (Fr.t)
   | false =>
    obtain⟨I,hI⟩:∃ I,insS ⟨qx,qy,qs⟩ false T=I:=⟨_,rfl⟩;have HIE:=q_ (show I++[⟨qx,qy,qs⟩]=R from by rw [← hI,insS_end HD.o,HTP.o,HR.o]);rw [hI] at H HLE;clear hI;have hrow:=H.o.row;have HO:=q_ hrow;clear hrow;go_wp2_with (at_builtin;refine append_pp (n:=I.length) (base:=0) (xs:=pcs I) (y:=⟨qx,qy,qs⟩) rfl rfl rfl ?e15 rfl ?e25 ?e35 ?e45 ?_);case e15=>exact oOB HO.o fun g hg=>hAE _ _ _ (oLT HO.o hg)
    case e25=>first|(first|(rw [hAC,if_pos rfl];done)|exact (Array.getElem?_eq_some_iff.1 ((hAC _ _ _).trans (if_pos rfl))).2|(simp only [hDR,hDN];rw [hAC,if_pos rfl];done))|(refine (Array.getElem?_eq_some_iff.1 ?_).2;(repeat first|rw [if_pos o_]|rw [if_neg o_]|rw [hDR]|rw [hDN]|rw [hAz]|rw [hSz]|rw [hAC]|rw [hSC]|rw [oMS]|rw [uPC]|rw [lSZ]|rw [lSS]|rfl))
    case e35=>have:=HLE.o;omega
    case e45=>omega
    intro g25 cap5 w10 hown1 hW1 hF1 hloc1 hg1;rw [Ta _ ⟨qx,qy,qs⟩] at hown1;have h9:=hAP (n':=(I++([⟨qx,qy,qs⟩]:List PC)).length) (H.o.step (Fr.t)) (by first|(rw [List.length_append];exact hown1)|(rw [List.length_append,List.length_append];exact hown1)) rfl hF1 (by rcases hloc1 with h|h;exact .inl h;exact .inr (by rw [h];simp));clear hown1 hW1 hF1 hloc1 hg1 HO;rw [HIE.o] at h9;have h9:=h9.ord 2 [0];simp only [List.filterMap_cons,List.filterMap_nil,List.getElem?_cons_zero,List.getElem?_cons_succ,List.drop_succ_cons,List.drop_zero,List.cons_append,List.nil_append,List.take_succ_cons,List.take_zero,List.eraseIdx_cons_succ,List.eraseIdx_zero,List.eraseIdx_cons_zero,List.tail_cons,Option.toList_some] at h9;have H9:=q_ h9;clear h9;go_wp2;go_ret;exact⟨_,rfl,H9.o.step (Fr.t)⟩
theorem RFrom5_h {l:List PC} (hl:CellsAt w (.slice a l.length c) l) (hlen:l.length≤60000) :
  Calls Tryz.prog 121 #[.slice a l.length c] w fun e w'=>∃ v,e=.returned (.tuple #[v,.int .i64 (Ky l).2])∧Has w w' [Hp.row 41 3 v (Ky l).1.length (pcs (Ky l).1)]:=by
 have HL:=q_ hl;obtain⟨m,hm⟩:∃ m,l.length=m:=⟨_,rfl⟩;have HM:=q_ hm;have hm6:m≤60000:=o_
 obtain⟨R,hR⟩:∃ R,Ky l=R:=⟨_,rfl⟩;have HR:=q_ hR;rw [hm,hR];clear hl hlen hm hR;go_enter Tryz.func121,Tryz.ntmps121;go_wp2;go_loopw [5] (fun x5 wr=>∃ (i:Nat),x5=.int .i64 (i:Nat)∧i≤m∧Dg (l.take i)=0∧Fr [] w wr) (fun x _=>m - (intOf x).toNat);case atStart=>exact⟨0,rfl,o_,rfl,Fr.refl _ _⟩
 case round =>
  obtain⟨i,rfl,him,hb,hf⟩:=hrel;have HBD:=q_ hb;have HF:=q_ hf;clear hb hf;by_cases hlt:i<m;·
   obtain⟨⟨cx,cy,st⟩,hpi⟩:∃ c,l[i]?=some c:=⟨_,List.getElem?_eq_getElem (by rw [HM.o];exact hlt)⟩;obtain⟨g,off,rfl,hg,e0,e1,e2⟩:=(HL.o.fr HF.o).cell hpi;simp only at e0 e1 e2;have HPI:=q_ hpi;clear hpi;go_wp2;(refine wT ?_);go_wp2_with fail;refine (place_p cx cy _).mono ?_;obtain⟨pb,hpb⟩:∃ b,Ir cx cy=b:=⟨_,rfl⟩;rw [hpb];rintro e w5 ⟨rfl,rfl⟩;have HPB:=q_ hpb;clear hpb;cases pb with
   | false =>
    have HE:=q_ (show R=([],5) by
     have hb5:Dg [⟨cx,cy,st⟩]=5:=by unfold Dg;rw [if_pos HPB.o]
     have hb:Dg l=5:=by rw [bad_here HBD.o HPI.o (by rw [hb5];decide),hb5]
     rw [← HR.o,N9 (by rw [hb];decide),hb])
    go_wp2;refine sT_ rfl ?_;go_wp2;go_ret2;rw [HE.o];refine⟨_,rfl,?_⟩;exact (Has.nil (Fr.trans0 HF.o (Fr.t))).newRow (T:=41) (size:=3) (Fr.refl [] _) (Ee _ _ _ _)
   | true =>
   go_wp2;refine sT_ rfl ?_;by_cases hs0:st<0;·
    have hd0:decide (st<0)=true:=(by simpa using hs0);have HE:=q_ (show R=([],10) by
     have hb5:Dg [⟨cx,cy,st⟩]=10:=by unfold Dg;rw [if_neg (by simp [HPB.o]),if_pos (.inl hs0)]
     have hb:Dg l=10:=by rw [bad_here HBD.o HPI.o (by rw [hb5];decide),hb5]
     rw [← HR.o,N9 (by rw [hb];decide),hb])
    clear hs0;go_wp2;go_ret2;rw [HE.o];refine⟨_,rfl,?_⟩;exact (Has.nil (Fr.trans0 HF.o (Fr.t))).newRow (T:=41) (size:=3) (Fr.refl [] _) (Ee _ _ _ _)
   have hd0:decide (st<0)=false:=(by simpa using hs0);by_cases hs8:8≤st;·
    have hd8:decide (st ≥ 8)=true:=(by simpa using hs8);have HE:=q_ (show R=([],10) by
     have hb5:Dg [⟨cx,cy,st⟩]=10:=by unfold Dg;rw [if_neg (by simp [HPB.o]),if_pos (.inr hs8)]
     have hb:Dg l=10:=by rw [bad_here HBD.o HPI.o (by rw [hb5];decide),hb5]
     rw [← HR.o,N9 (by rw [hb];decide),hb])
    clear hs0 hs8;go_wp2;go_ret2;rw [HE.o];refine⟨_,rfl,?_⟩;exact (Has.nil (Fr.trans0 HF.o (Fr.t))).newRow (T:=41) (size:=3) (Fr.refl [] _) (Ee _ _ _ _)
   have hd8:decide (st ≥ 8)=false:=(by simpa using hs8);have HN:=q_ (bad_next HBD.o HPI.o (show Dg [⟨cx,cy,st⟩]=0 by unfold Dg;rw [if_neg (by simp [HPB.o]),if_neg (by dsimp only;omega)];rfl));clear hs0 hs8;go_wp2;go_roundw;case rel=>exact⟨i+1,by go_num,o_,HN.o,Fr.trans0 HF.o (Fr.t)⟩
   case measure=>simp [intOf];omega
  ·obtain rfl:i=m:=o_;have HB0:=q_ (show Dg l=0 from by have:=HBD.o;rwa [List.take_of_length_le (by rw [HM.o];exact Nat.le_refl _)] at this);have H0:=q_ (show Has w wr [Hp.row 41 3 (.slice none 0 0) (Sz (Ez (l.take 0))).length (pcs (Sz (Ez (l.take 0))))] from (Has.nil HF.o).newRow (T:=41) (size:=3) (Fr.refl [] _) (Ee _ _ _ _));clear HBD HF;go_wp2;go_loopw [4,6] (fun x4 x6 wr=>∃ (k:Nat) (v:Value),(v=x4∧x6=.int .i64 (k:Nat))∧k≤i∧Has w wr [Hp.row 41 3 v (Sz (Ez (l.take k))).length (pcs (Sz (Ez (l.take k))))]) (fun _ x _=>i - (intOf x).toNat);case atStart=>exact⟨0,_,⟨rfl,rfl⟩,o_,H0.o⟩
   case round =>
    clear H0;obtain⟨k,v4,⟨rfl,rfl⟩,hkm,h⟩:=hrel;have H:=q_ h;clear h;by_cases hlt:k<i;·
     obtain⟨⟨cx,cy,st⟩,hpi⟩:∃ c,l[k]?=some c:=⟨_,List.getElem?_eq_getElem (by rw [HM.o];exact hlt)⟩;obtain⟨g,off,rfl,hg,e0,e1,e2⟩:=(HL.o.fr H.o.fr).cell hpi;simp only at e0 e1 e2;have HSN:=q_ (some_next hpi);clear hpi;obtain⟨Q,hQ⟩:∃ Q,Sz (Ez (l.take k))=Q:=⟨_,rfl⟩;have HQ:=q_ hQ;have HQL:=q_ (show Q.length≤60000 from by
      rw [← hQ,(sortP_perm _).length_eq]
      unfold Ez
      refine Nat.le_trans (List.length_filter_le _ _) ?_
      rw [List.length_take];omega)
     have h:=H.o;rw [hQ] at h;have H:=q_ h;clear h hQ;by_cases hs:st=0;·
      have hd:(st != 0)=false:=(by simp [hs]);have hd2:(st == 0)=true:=(by simp [hs]);have HNX:=q_ (show Sz (Ez (l.take (k+1)))=Q by rw [HSN.o,if_neg (by simpa using hs),List.append_nil,HQ.o]);clear hs;go_wp2;go_roundw;case rel=>exact⟨k+1,_,⟨rfl,by go_num⟩,o_,by rw [HNX.o];exact H.o.step (Fr.t)⟩
      case measure=>simp [intOf];omega
     ·have hd:(st != 0)=true:=(by simp [hs]);have HNX:=q_ (show Sz (Ez (l.take (k+1)))=Qk ⟨cx,cy,st⟩ Q by rw [HSN.o,if_pos hs,sortP_snoc,HQ.o]);obtain⟨av,cv,rfl,_,_⟩:=oFM H.o.row;have HIN:=q_ (show ∀ w1,Fr [] wr w1→_ from fun w1 hf=>Rinsert_h ((CellsAt.fr (Reads.of_owns H.o.row) hf)) (by have:=HQL.o;omega) ⟨cx,cy,st⟩);simp only [pcV] at HIN;clear hs;go_wp2_with fail;refine (HIN.o _ (Fr.t)).mono ?_;rintro e w6 ⟨v6,rfl,h6⟩;have h7:=has_join (H.o.step (Fr.t)) h6;have h7:=h7.ord 2 [0];simp only [List.filterMap_cons,List.filterMap_nil,List.getElem?_cons_zero,List.getElem?_cons_succ,List.drop_succ_cons,List.drop_zero,List.cons_append,List.nil_append,List.take_succ_cons,List.take_zero,List.eraseIdx_cons_succ,List.eraseIdx_zero,List.eraseIdx_cons_zero,List.tail_cons,Option.toList_some] at h7;have H7:=q_ h7;clear h6 h7 e0 e1 e2 hg;go_wp2;go_roundw;case rel=>exact⟨k+1,_,⟨rfl,by go_num⟩,o_,by rw [HNX.o];exact H7.o.step (Fr.t)⟩
      case measure=>simp [intOf];omega
    ·obtain rfl:k=i:=o_;obtain⟨Q,hQ⟩:∃ Q,Sz (Ez l)=Q:=⟨_,rfl⟩;have h:=H.o;rw [List.take_of_length_le (by rw [HM.o];exact Nat.le_refl _),hQ] at h;have HQL:=q_ (show Q.length≤60000 from by
      rw [← hQ,(sortP_perm _).length_eq]
      unfold Ez
      refine Nat.le_trans (List.length_filter_le _ _) ?_
      rw [HM.o];omega)
     have HW:=q_ (show R=if Al Q=false then ([],8) else if 5000<Q.length then ([],6) else (Q,0) by
      rw [← HR.o]
      exact U4 HB0.o (by rw [← hQ];exact sortP_weak _) (by rw [← hQ];exact sortP_perm _))
     obtain⟨av,cv,rfl,_,_⟩:=oFM h.row;have HCA:=q_ (show ∀ w1,Fr [] wr w1→CellsAt w1 (.slice av Q.length cv) Q from fun w1 hf=>CellsAt.fr (Reads.of_owns h.row) hf);obtain⟨q,hq⟩:∃ n,Q.length=n:=⟨_,rfl⟩;have HQ:=q_ hq;have hq6:q≤60000:=(by have:=HQL.o;omega);rw [hq] at HCA h ⊢;have H1:=q_ h;have HF1:=q_ h.fr;clear h hQ hq H HQL;obtain⟨W0,hW0⟩:∃ W0,W0=wr:=⟨_,rfl⟩;subst hW0;go_wp2;go_loopw [7] (fun x7 wr=>∃ (j:Nat),x7=.int .i64 ((j:Int)+1)∧j≤q∧(∀ t,t<j→t+1<q→Cf (Q.getD t z3) (Q.getD (t+1) z3)=true)∧Fr [] W0 wr) (fun x _=>q+1 - (intOf x).toNat);case atStart=>exact⟨0,rfl,o_,i_,Fr.refl _ _⟩
     case round =>
      obtain⟨j,rfl,hjq,hs,hf⟩:=hrel;have HS:=q_ hs;have HF:=q_ hf;clear hs hf;by_cases hlt:j+1<q;·
       obtain⟨⟨ax,ay,sa⟩,hp1⟩:∃ c,Q[j]?=some c:=⟨_,List.getElem?_eq_getElem (by rw [HQ.o];omega)⟩;obtain⟨⟨bx,yb,sb⟩,hp2⟩:∃ c,Q[j+1]?=some c:=⟨_,List.getElem?_eq_getElem (by rw [HQ.o];omega)⟩;obtain⟨g,off,rfl,hg,e0,e1,e2⟩:=(HCA.o _ HF.o).cell hp1;obtain⟨g2,of2,he,_,f0,f1,f2⟩:=(HCA.o _ HF.o).cell hp2;cases he;simp only at e0 e1 e2 f0 f1 f2;have HG:=q_ (show Q.getD j z3=⟨ax,ay,sa⟩∧Q.getD (j+1) z3=⟨bx,yb,sb⟩ from ⟨by rw [List.getD_eq_getElem?_getD,hp1];rfl,by rw [List.getD_eq_getElem?_getD,hp2];rfl⟩);obtain⟨pb,hpb⟩:∃ b,Cf ⟨ax,ay,sa⟩ ⟨bx,yb,sb⟩=b:=⟨_,rfl⟩;have HB:=q_ (show ∀ w1,_ from fun w1=>hpb▸before_p ⟨ax,ay,sa⟩ ⟨bx,yb,sb⟩ w1);simp only [pcV] at HB;have HPB:=q_ hpb;clear hp1 hp2 hpb;go_wp2;(refine wT ?_);go_wp2_with fail;refine (HB.o _).mono ?_;rintro e w8 ⟨rfl,hf8⟩;have HF8:=q_ (HF.o.trans0 (Fr.trans0 (Fr.t) hf8));clear hf8 e0 e1 e2 f0 f1 f2 hg;cases pb with
       | false =>
        have HE:=q_ (show R=([],8) by
         have hsf:Al Q=false:=by
          cases hq:Al Q with
          | false=>rfl
          | true =>
           have:=Mw hq (k:=j) (by rw [HQ.o];omega)
           rw [HG.o.1,HG.o.2,HPB.o] at this
           cases this
         rw [HW.o,if_pos hsf])
        go_wp2;refine sT_ rfl ?_;go_wp2;go_ret2;rw [HE.o];refine⟨_,rfl,?_⟩;exact (Has.nil (Fr.trans0 (HF1.o.trans0 HF8.o) (Fr.t))).newRow (T:=41) (size:=3) (Fr.refl [] _) (Ee _ _ _ _)
       | true =>
        have HN:=q_ (show ∀ t,t<j+1→t+1<q→Cf (Q.getD t z3) (Q.getD (t+1) z3)=true from fun t ht h2=>by
         by_cases e:t=j
         ·subst e;rw [HG.o.1,HG.o.2];exact HPB.o
         ·exact HS.o t o_ h2)
        go_wp2;refine sT_ rfl ?_;go_wp2;go_roundw;case rel=>exact⟨j+1,by go_num,o_,HN.o,HF8.o.trans0 (Fr.t)⟩
        case measure=>simp [intOf];omega
      ·have HST:=q_ (show Al Q=true from Mv fun t ht=>HS.o t (by rw [HQ.o] at ht;omega) (by rw [HQ.o] at ht;exact ht));by_cases h5:5000<q;·
        have hd5:decide ((q:Int) > 5000)=true:=(by rw [decide_eq_true_eq];omega);have HE:=q_ (show R=([],6) by rw [HW.o,if_neg (by rw [HST.o];simp),if_pos (by rw [HQ.o];exact h5)]);clear h5;go_wp2;go_ret2;rw [HE.o];refine⟨_,rfl,?_⟩;exact (Has.nil (Fr.trans0 (HF1.o.trans0 HF.o) (Fr.t))).newRow (T:=41) (size:=3) (Fr.refl [] _) (Ee _ _ _ _)
       ·have hd5:decide ((q:Int) > 5000)=false:=(by rw [decide_eq_false_iff_not];omega);have HE:=q_ (show R=(Q,0) by rw [HW.o,if_neg (by rw [HST.o];simp),if_neg (by rw [HQ.o];exact h5)]);clear h5;go_wp2;go_ret2;rw [HE.o];refine⟨_,rfl,?_⟩;have h:=H1.o.step HF.o;rw [← HQ.o] at h ⊢;exact h.step (Fr.t)
end Go.Proofs.YtebolidfbflkmaaGreat
namespace Go.Proofs.YtebolidfbflkmaaGreat
open Go Go.RowKit Rg Mp Hp Qs Ev Pt
variable {w:World}{n c:Nat}{a:Option Addr}
theorem owns_some27 {base e size:Nat} {xs:List Value} (h:w.ownsRow base e size (.slice a n c) n xs) (hn:0<n):∃ g,a=some ⟨g,0,none⟩:=by
 obtain⟨a2,c2,he,hz,hg⟩:=owns_form2 h;obtain⟨rfl,_,rfl⟩:=Value.slice.inj he;cases a with
 | none=>have:=(hz rfl).1;omega
 | some ad=>obtain⟨g,rfl⟩:=hg ad rfl;exact⟨g,rfl⟩
theorem pcs_one (l:List PC) (c:PC):pcs (l++[c])=pcs l++[.int .i64 c.x,.int .i64 c.y,.int .i64 c.st]:=by simp [pcs]
structure FitP (r:Rule) (B:Int) (p:List PC):Prop where
 right:Cn p=true
 wi:Wi B p
 st:∀ c∈p,c.st<r.S
variable {r:Rule}{B:Int}{p:List PC}
theorem FitP.fits (h:FitP r B p) (hq:C1 r=true):fitsE r p=0:=by unfold fitsE;rw [hq,h.right,if_pos rfl,if_pos rfl,if_pos];rw [List.all_eq_true];exact fun c hc=>decide_eq_true (h.st c hc)
theorem FitP.pos (h:FitP r B p):∀ c∈p,0≤c.st∧c.st<r.S:=fun c hc=>by have:=(Cx h.right).2.1 c hc;simp only [Ig,Bool.and_eq_true,decide_eq_true_eq] at this;have:=h.st c hc;omega
def StepRPost (W:World) (Ps:List Res) (r:Rule) (B:Int) (p:List PC) (e:Ending) (w':World):Prop :=
 ∃ (q:List PC) (va:Option Addr) (vc:Nat),e=.returned (.tuple #[.slice va q.length vc,.int .i64 0])∧FitP r (B+2) q∧Bl q=gen r (Bl p)∧Has W w' (Hp.row 41 3 (.slice va q.length vc) q.length (pcs q)::Ps)
variable {W:World}{Ps:List Res}{ha na:Option Addr}{hc nc:Nat}
theorem RStep20_calls (h:Has W w Ps) (hQ:C1 r=true) (hsrc:RuleSrc W (.slice ha r.hood.length hc) (.slice na r.nodes.length nc) r Ps)
 (hp:PatSrc W Ps a c p) (hB:0≤B∧B≤30) (hf:FitP r B p) :
  Calls Tryz.prog 79 #[.agg #[.int .i64 r.S,.slice ha r.hood.length hc,.slice na r.nodes.length nc],.slice a p.length c] w (StepRPost W Ps r B p):=by
 obtain⟨hR,_⟩:=Ch hQ;have hhl:=G3 hR;have hnl:=K8 hR;have hpl:=(Cx hf.right).1;have hFT:=fun w' (hff:Fr [] w w')=>RFits_calls (hsrc w' Ps (h.step hff) fun P hP=>hP) o_ o_ (hp w' Ps (h.step hff) fun P hP=>hP) o_;rw [hf.fits hQ] at hFT;have H0:=q_ (h.newBlk (.cells #[.int .i64 r.S,.slice ha r.hood.length hc,.slice na r.nodes.length nc] 25 (0,0)));have HQ:=q_ (And.intro hQ hR);have HSRC:=q_ hsrc;have HP:=q_ hp;have HFIT:=q_ hf;obtain⟨m,hm⟩:∃ m,r.hood.length=m:=⟨_,rfl⟩;obtain⟨n,hn⟩:∃ m,r.nodes.length=m:=⟨_,rfl⟩;obtain⟨l,hl⟩:∃ m,p.length=m:=⟨_,rfl⟩;rw [hm,hn,hl] at hFT;rw [hm,hn] at H0 ⊢;rw [hl] at hpl ⊢;have HFT:=q_ hFT;have HM:=q_ (And.intro hm (And.intro hn hl));clear h hQ hR hsrc hp hf hm hn hl hFT hhl hnl;go_enter Tryz.func79,Tryz.ntmps79;go_wp2_with fail;refine (HFT.o _ (Fr.t)).mono ?_;rintro e w1 ⟨rfl,hf1⟩;obtain⟨tb,htb⟩:∃ t,w.heap.size=t:=⟨_,rfl⟩;have h1:=H0.o.step (Fr.trans0 (Fr.t) hf1);rw [htb] at h1 ⊢;have H1:=q_ h1;have hST:=fun w' (hff:Fr [] w1 w')=>RStates_calls (H1.o.step hff) (HP.o.more fun P hP=>List.mem_cons_of_mem _ hP) HFIT.o.right (B:=B) o_ HFIT.o.wi;rw [HM.o.2.2] at hST;have HST:=q_ hST;clear h1 hf1 htb H0 HFT hST;go_wp2_with fail;refine (HST.o _ (Fr.t)).mono ?_;rintro e w2 ⟨b,cb,rfl,hbo,h2⟩;rw [HM.o.2.2];have HBO:=q_ hbo;have hlow:=hbo.low;have hbl:-100≤b.x∧b.x+b.w≤100∧-100≤b.y∧b.y+b.h≤100:=o_
 have HBL:=q_ hbl;unfold fieldV;have h3:=h2.newBlk (.cells #[.bool true,.int .i64 b.x,.int .i64 b.y,.int .i64 (b.w:Int),.int .i64 (b.h:Int),.slice (some ⟨cb,0,none⟩) (b.w*b.h) (b.w*b.h),.slice a l c] 178 (0,0));have H3:=q_ h3;have HNE:=q_ (fun w' (hw:Has W w' (Hp.blk w2.heap.size (.cells #[.bool true,.int .i64 b.x,.int .i64 b.y,.int .i64 (b.w:Int),.int .i64 (b.h:Int),.slice (some ⟨cb,0,none⟩) (b.w*b.h) (b.w*b.h),.slice a l c] 178 (0,0))::Hp.row 3 1 (.slice (some ⟨cb,0,none⟩) (b.w*b.h) (b.w*b.h)) (b.w*b.h) (iv (arrA (Bl p) b))::Hp.blk tb (.cells #[.int .i64 r.S,.slice ha m hc,.slice na n nc] 25 (0,0))::Ps))=>RNear_calls hw HBL.o (ca:=some ⟨cb,0,none⟩) (n:=b.w*b.h) (la:=a) (lm:=l) (lc:=c));unfold fieldV at HNE;clear h2 h3 HST H1 hbo hlow hbl;obtain⟨bx,hbx⟩:∃ t,b.x=t:=⟨_,rfl⟩;obtain⟨by',hby⟩:∃ t,b.y=t:=⟨_,rfl⟩;obtain⟨bw,hbw⟩:∃ t,b.w=t:=⟨_,rfl⟩;obtain⟨bh,hbh⟩:∃ t,b.h=t:=⟨_,rfl⟩;have HBE:=q_ (And.intro hbx (And.intro hby (And.intro hbw hbh)));obtain⟨A,hA⟩:∃ A,arrA (Bl p) b=A:=⟨_,rfl⟩;obtain⟨N,hN⟩:∃ N,M2 b=N:=⟨_,rfl⟩;have HAN:=q_ (And.intro hA hN);have hNl:=nearL_length b;rw [hN] at hNl;rw [hA] at H3 HNE;rw [hbw,hbh,hbx,hby] at H3;rw [hbw,hbh,hbx,hby,hN] at HNE;rw [hbw,hbh] at hNl;rw [hbw,hbh,hbx,hby];obtain⟨nn,hnn⟩:∃ n,bw*bh=n:=⟨_,rfl⟩;rw [hnn] at H3 HNE ⊢;obtain⟨L,hL⟩:∃ n,(bh+4)*(bw+4)=n:=⟨_,rfl⟩;rw [hL] at HNE hNl;have hL5:L≤5000:=by have h1:=HBO.o.low;rw [hbx,hby,hbw,hbh] at h1;have:(bh+4)*(bw+4)≤64*64:=Nat.mul_le_mul o_ o_;omega
 have HNL:=q_ hNl;have HNN:=q_ hnn;clear hbx hby hbw hbh hA hN hnn hL hNl;have hb:=H3.o.blk;obtain⟨v0,v1,v2,v3,v4,v5,v6,vl⟩:=l7_ hb;clear hb;go_wp2_with fail;refine (HNE.o _ (H3.o.step (Fr.t))).mono ?_;rintro e w4 ⟨na4,nc4,rfl,h4⟩;have H4:=q_ (h4.nilRow 41 3);clear h4 HNE H3 v0 v1 v2 v3 v4 v5 v6 vl;have hRN:=fun (w':World) (Qs:List Res) (hw:Has W w' Qs) (hs:∀ P∈(Hp.row 116 2 (.slice na4 L nc4) L (pts N)::Hp.blk w2.heap.size (.cells #[.bool true,.int .i64 bx,.int .i64 by',.int .i64 (bw:Int),.int .i64 (bh:Int),.slice (some ⟨cb,0,none⟩) nn nn,.slice a l c] 178 (0,0))::Hp.row 3 1 (.slice (some ⟨cb,0,none⟩) nn nn) nn (iv A)::Hp.blk tb (.cells #[.int .i64 r.S,.slice ha m hc,.slice na n nc] 25 (0,0))::Ps),P∈Qs) (x y:Int) (hx:-200≤x∧x≤200) (hy:-200≤y∧y≤200)=>RNext20_calls hw HQ.o.2 (HSRC.o.more fun P hP=>hs P (by simp [hP])) (HBO.o.hold) HBL.o (cb:=cb) (hs _ (by rw [HBE.o.2.2.1,HBE.o.2.2.2,HNN.o,HAN.o.1];simp)) (fun x y=>fld_range (by have:=Oh HQ.o.2;omega) HFIT.o.pos x y) (la:=a) (lm:=l) (lc:=c) hx hy;unfold fieldV at hRN;rw [HBE.o.1,HBE.o.2.1,HBE.o.2.2.1,HBE.o.2.2.2,HNN.o,HM.o.1,HM.o.2.1] at hRN;have HRN:=q_ hRN;clear hRN;have hpos:∀ q∈N,-100≤q.1∧q.1≤100∧-100≤q.2∧q.2≤100:=fun q hq=>by rw [← HAN.o.2] at hq;have:=mem_near.1 hq;have:=HBO.o.low;omega
 have HPOS:=q_ hpos;clear hpos;obtain⟨F,hF⟩:∃ F,Bl p=F:=⟨_,rfl⟩;have HF:=q_ hF;rw [hF] at HRN;clear hF;go_wp2;go_loopg [9,10,11] L (fun gg z9 z10 z11 wr=>∃ (i k:Nat) (va:Option Addr) (vc:Nat),i≤L∧k≤i∧L - i≤gg∧z11=.int .i64 (i:Int)∧z10=.bool false∧z9=.slice va k vc∧Hid ((Ns r F (N.take i)).length=k)∧Hid (Has W wr (Hp.row 41 3 (.slice va k vc) k (pcs (Ns r F (N.take i)))::Hp.row 116 2 (.slice na4 L nc4) L (pts N)::Hp.blk w2.heap.size (.cells #[.bool true,.int .i64 bx,.int .i64 by',.int .i64 (bw:Int),.int .i64 (bh:Int),.slice (some ⟨cb,0,none⟩) nn nn,.slice a l c] 178 (0,0))::Hp.row 3 1 (.slice (some ⟨cb,0,none⟩) nn nn) nn (iv A)::Hp.blk tb (.cells #[.int .i64 r.S,.slice ha m hc,.slice na n nc] 25 (0,0))::Ps)));case atStart=>exact⟨0,0,none,0,Nat.zero_le _,Nat.le_refl _,o_,rfl,rfl,rfl,q_ (by rw [List.take_zero];rfl),q_ (by rw [List.take_zero];exact H4.o.step (Fr.t))⟩
 case round =>
  obtain⟨i,k,va,vc,hi,hki,hg,rfl,rfl,rfl,HK,HH⟩:=hrel;clear H4;have hb:=(HH.o.bring 2).blk;obtain⟨v0,v1,v2,v3,v4,v5,v6,vl⟩:=l7_ hb;have hb:=(HH.o.bring 4).blk;obtain⟨x0,x1,x2,xl⟩:=l3_ hb;clear hb;by_cases hin:i<L;·
   obtain⟨⟨qx,qy⟩,hq⟩:∃ q,N[i]?=some q:=⟨_,List.getElem?_eq_getElem (by rw [HNL.o];exact hin)⟩;have hqp:=HPOS.o _ (List.mem_of_getElem? hq);simp only at hqp;obtain⟨hg0,hg1⟩:=pts_get hq;have hr:=(HH.o.bring 1).row;obtain⟨ng,rfl⟩:=owns_some27 hr o_;have p0:=An hr rfl hg0;have p1:=An hr rfl hg1;have pl:=oLT hr rfl;simp only at p0 p1;have HNX:=q_ (nextL_snoc r F (N.take i) (qx,qy));have htk:N.take (i+1)=N.take i++[(qx,qy)]:=(by rw [List.take_add_one,hq];rfl);have HTK:=q_ htk;obtain⟨s,hs⟩:∃ s,gen r F qx qy=s:=⟨_,rfl⟩;have HSS:=q_ hs;have H2:=q_ (HH.o.newBlk (.cells #[.int .i64 qx,.int .i64 qy] 116 (0,0)));have HQB:=q_ (fun w' (hf:Fr [] (wr.alloc (.cells #[.int .i64 qx,.int .i64 qy] 116 (0,0))) w')=>HRN.o w' _ (H2.o.step hf) (fun P hP=>List.mem_cons_of_mem _ (List.mem_cons_of_mem _ hP)) qx qy o_ o_);rw [hs] at HQB;have hmaxl:(5001:Nat)≤maxLen:=(by decide);have HLL:=q_ (show k+1≤maxLen∧(k+1)*24≤140737488355328 from by omega);clear hq hg0 hg1 hr htk hs hmaxl;go_wp2_with fail;refine (HQB.o _ (Fr.t)).mono ?_;rintro e w5 ⟨rfl,h5⟩;obtain⟨qb,hqb⟩:∃ t,wr.heap.size=t:=⟨_,rfl⟩;rw [hqb] at h5 ⊢;have hb:=h5.blk;obtain⟨q0,q1,ql⟩:=l2_ hb;have H5:=q_ h5;clear h5 hqb hb HQB H2 HH v0 v1 v2 v3 v4 v5 v6 vl x0 x1 x2 xl p0 p1 pl;by_cases hs0:s=0;·
    subst hs0;have hnx:Ns r F (N.take (i+1))=Ns r F (N.take i):=by rw [HTK.o,HNX.o,HSS.o];simp
    have HNY:=q_ hnx;clear hnx;go_wp2;go_roundg (L - (i+1));case measure=>exact Nat.lt_of_lt_of_le (Nat.sub_succ_lt_self _ _ hin) hg
    case rel=>exact⟨i+1,k,va,vc,hin,o_,Nat.le_refl _,i_,rfl,rfl,q_ (by rw [HNY.o];exact HK.o),q_ (by rw [HNY.o];exact H5.o.drop.step (Fr.t))⟩
   ·have hb0:(s != 0)=true:=(by simpa using hs0);have hnx:Ns r F (N.take (i+1))=Ns r F (N.take i)++[⟨qx,qy,s⟩]:=by
     rw [HTK.o,HNX.o];(try simp only);rw [HSS.o,if_neg hs0]
    have HNY:=q_ hnx;have HVA:=q_ (fun w=>Rvalid20_calls (w:=w) (x:=qx) (y:=qy) o_ o_);have H6:=q_ (H5.o.swap);clear hnx;go_wp2_with (at_builtin;refine append_has (W:=W) (size:=3) (bytes:=24) (z:=.agg #[.int .i64 0,.int .i64 0,.int .i64 0]) (e:=41) (n:=k) (xs:=pcs (Ns r F (N.take i))) (news:=[.int .i64 qx,.int .i64 qy,.int .i64 s]) rfl rfl Tryz.underlying26 k_ rfl (by decide) rfl rfl (H6.o.step (Fr.t)) hpT rfl (by simp [Value.oneCell']) HLL.o.1 HLL.o.2 ?_);intro g2 cap2 w7 h7 hf7 hg7;rw [show pcs (Ns r F (N.take i))++[.int .i64 qx,.int .i64 qy,.int .i64 s]=pcs (Ns r F (N.take (i+1))) from by rw [HNY.o,pcs_one]] at h7;clear q0 q1 ql;have hb:=(h7.bring 1).blk;obtain⟨q0,q1,ql⟩:=l2_ hb;have H7:=q_ h7;clear h7 hb hf7 hg7 H5 H6;go_wp2_with fail;refine (HVA.o _).mono ?_;rintro e w8 ⟨rfl,hw8⟩;subst hw8;go_wp2;go_roundg (L - (i+1));case measure=>exact Nat.lt_of_lt_of_le (Nat.sub_succ_lt_self _ _ hin) hg
    case rel=>exact⟨i+1,k+1,some ⟨g2,0,none⟩,cap2,hin,o_,Nat.le_refl _,i_,rfl,rfl,q_ (by rw [HNY.o,List.length_append,HK.o];rfl),q_ ((H7.o.ord 2 [0]).step (Fr.t))⟩
  ·obtain rfl:L=i:=o_;have h5:=HH.o;have hk:=HK.o;rw [List.take_of_length_le (by rw [HNL.o];exact Nat.le_refl _)] at h5 hk;have hlow:=HBO.o.low;obtain⟨hso,hlen⟩:=step_ok HQ.o.1 (B:=B) hB.1 hB.2 HFIT.o.pos HBO.o.hold hlow;rw [HAN.o.2,HF.o] at hso hlen;have HSO:=q_ hso;obtain⟨Q,hQe⟩:∃ Q,Ns r F N=Q:=⟨_,rfl⟩;rw [hQe] at h5 hk hlen HSO;have hca:CellsAt wr (.slice va Q.length vc) Q:=by
    have:=h5.rowReads;rw [← hk] at this;exact this
   have hFR:=fun w' (hf:Fr [] wr w')=>RFrom5_h (hca.fr hf) o_;rw [from_right HSO.o.right (List.Perm.refl _),hk] at hFR;have HFR:=q_ hFR;have H5:=q_ h5;have HKL:=q_ hk;rw [hk] at hlen;clear h5 hk hca hFR hso hlow hQe HH HK v0 v1 v2 v3 v4 v5 v6 vl x0 x1 x2 xl;go_wp2_with fail;refine (HFR.o _ (Fr.t)).mono ?_;rintro e w6 ⟨v6,rfl,h6⟩;(try rw [HKL.o] at h6);obtain⟨qa,qc,rfl,_,_⟩:=owns_form2 h6.row;have H6:=q_ (has_join (H5.o.step (Fr.t)) h6);clear h6 HFR H5;go_wp2;go_ret2;refine⟨Q,qa,qc,by rw [HKL.o];rfl,⟨HSO.o.right,HSO.o.wi,HSO.o.st⟩,by rw [HSO.o.fld,HF.o],?_⟩;rw [HKL.o];exact ((H6.o.ord 6 [0]).step (Fr.t))
theorem has_one27 (h:Has W w Ps) (T:Nat) (v:Value):Has W (w.alloc (.cells #[v] T (0,0))) (Hp.row T 1 (.slice (some ⟨w.heap.size,0,none⟩) 1 1) 1 [v]::Ps):=by
 refine h.newRow ((Fr.refl [] w).alloc _) ?_;have hm:(1:Nat)≤maxLen:=by decide
 exact⟨i_,.inr ⟨w.heap.size,1,#[v],rfl,Nat.le_refl _,by rw [hAC,if_pos rfl],o_,o_,i_,i_⟩⟩
structure HistI (W:World) (Ps X:List Res) (r:Rule) (B:Int) (p:List PC) (i:Nat) (q:List PC) (qa:Option Addr) (qc:Nat):Prop where
 sub:∀ P∈Ps,P∈X
 src:PatSrc W X qa qc q
 fit:FitP r (B+2*(i:Int)) q
 fld:Bl q=it (gen r) i (Bl p)
def HistPost (W:World) (Ps:List Res) (r:Rule) (B:Int) (p:List PC) (n:Nat) (e:Ending) (w':World):Prop :=
 ∃ (X:List Res) (q:List PC) (qa:Option Addr) (qc:Nat) (us:List Value) (va:Option Addr) (vc:Nat),e=.returned (.tuple #[.slice va (n+1) vc,.int .i64 0])∧us.length=n∧HistI W Ps X r B p n q qa qc ∧
  Has W w' (Hp.row 27 1 (.slice va (n+1) vc) (n+1) (us++[.slice qa q.length qc])::X)
theorem RHistory_calls (h:Has W w Ps) (hQ:C1 r=true) (hsrc:RuleSrc W (.slice ha r.hood.length hc) (.slice na r.nodes.length nc) r Ps)
 (hp:PatSrc W Ps a c p) (hB:0≤B∧B+2*(n:Int)≤32) (hf:FitP r B p) :
  Calls Tryz.prog 36 #[.agg #[.int .i64 r.S,.slice ha r.hood.length hc,.slice na r.nodes.length nc],.slice a p.length c,.int .i64 (n:Int)] w (HistPost W Ps r B p n):=by
 obtain⟨hR,_⟩:=Ch hQ;have hhl:=G3 hR;have hnl:=K8 hR;have hpl:=(Cx hf.right).1;have hFT:=fun w' (hff:Fr [] w w')=>RFits_calls (hsrc w' Ps (h.step hff) fun P hP=>hP) o_ o_ (hp w' Ps (h.step hff) fun P hP=>hP) o_;rw [hf.fits hQ] at hFT;have H0:=q_ (h.newBlk (.cells #[.int .i64 r.S,.slice ha r.hood.length hc,.slice na r.nodes.length nc] 25 (0,0)));have HST:=q_ (fun (w':World) (X:List Res) (q:List PC) (qa:Option Addr) (qc:Nat) (B':Int) (hw:Has W w' X) (hs:∀ P∈Ps,P∈X) (hq:PatSrc W X qa qc q) (hB':0≤B'∧B'≤30) (hfq:FitP r B' q)=>RStep20_calls hw hQ (hsrc.more hs) hq hB' hfq);have HI0:=q_ (show HistI W Ps Ps r B p 0 p a c from ⟨fun P hP=>hP,hp,by simpa using hf,rfl⟩);obtain⟨m,hm⟩:∃ m,r.hood.length=m:=⟨_,rfl⟩;obtain⟨k,hk⟩:∃ m,r.nodes.length=m:=⟨_,rfl⟩;obtain⟨l,hl⟩:∃ m,p.length=m:=⟨_,rfl⟩;rw [hm,hk,hl] at hFT;rw [hm,hk] at H0 HST ⊢;rw [hl] at hpl ⊢;have HFT:=q_ hFT;have HL:=q_ hl;clear h hQ hR hsrc hp hf hm hk hl hFT hhl hnl;go_enter Tryz.func36,Tryz.ntmps36;go_wp2_with fail;refine (HFT.o _ (Fr.t)).mono ?_;rintro e w1 ⟨rfl,hf1⟩;obtain⟨tb,htb⟩:∃ t,w.heap.size=t:=⟨_,rfl⟩;have h1:=H0.o.step (Fr.trans0 (Fr.t) hf1);rw [htb] at h1 ⊢;have H1:=q_ (has_one27 h1 27 (.slice a l c));clear h1 hf1 htb H0 HFT;go_wp2;go_loopg [9,10] n (fun gg z9 z10 wr=>∃ (i:Nat) (X:List Res) (q:List PC) (qa:Option Addr) (qc:Nat) (us:List Value) (va:Option Addr) (vc:Nat),i≤n∧n - i≤gg∧z10=.int .i64 (i:Int)∧z9=.slice va (i+1) vc∧Hid (us.length=i)∧Hid (HistI W Ps X r B p i q qa qc)∧Hid (Has W wr (Hp.row 27 1 (.slice va (i+1) vc) (i+1) (us++[.slice qa q.length qc])::Hp.blk tb (.cells #[.int .i64 r.S,.slice ha m hc,.slice na k nc] 25 (0,0))::X)))
 case atStart=>exact⟨0,Ps,p,a,c,[],_,1,Nat.zero_le _,o_,rfl,rfl,q_ rfl,HI0,q_ (by rw [HL.o];exact H1.o.step (Fr.t))⟩
 case round =>
  obtain⟨i,X,q,qa,qc,us,va,vc,hi,hg,rfl,rfl,HU,HQI,HH⟩:=hrel;clear H1 HI0;have hb:=(HH.o.bring 1).blk;obtain⟨v0,v1,v2,vl⟩:=l3_ hb;clear hb;have hr:=HH.o.row;obtain⟨g,rfl⟩:=owns_some27 hr o_;by_cases hin:i<n;·
   have p0:=An hr rfl (show (us++[Value.slice qa q.length qc])[i]?=some (.slice qa q.length qc) from by rw [List.getElem?_append_right (by rw [HU.o];exact Nat.le_refl _),HU.o,Nat.sub_self];rfl);have pl:=oLT hr rfl;have HSQ:=q_ (fun w' (hf:Fr [] wr w')=>HST.o w' _ q qa qc (B+2*(i:Int)) (HH.o.step hf) (fun P hP=>List.mem_cons_of_mem _ (List.mem_cons_of_mem _ (HQI.o.sub P hP))) (HQI.o.src.more fun P hP=>List.mem_cons_of_mem _ (List.mem_cons_of_mem _ hP)) o_ HQI.o.fit);have hmaxl:(50:Nat)≤maxLen:=(by decide);have HLL:=q_ (show i+1+1≤maxLen∧(i+1+1)*24≤140737488355328 from by omega);clear hr hmaxl;go_wp2;(refine wT ?_);go_wp2_with fail;refine (HSQ.o _ (Fr.t)).mono ?_;rintro e w3 ⟨q2,qa2,qc2,rfl,hfit,hfld,h3⟩;have HF2:=q_ (And.intro hfit hfld);have h4:=h3.ord 3 [1,2,0];simp only [List.filterMap_cons,List.filterMap_nil,List.getElem?_cons_zero,List.getElem?_cons_succ,List.drop_succ_cons,List.drop_zero,List.cons_append,List.nil_append,List.take_succ_cons,List.take_zero,List.eraseIdx_cons_succ,List.eraseIdx_zero,List.eraseIdx_cons_zero,List.tail_cons,Option.toList_some] at h4;have H3:=q_ h4;clear h3 h4 hfit hfld HSQ HH v0 v1 v2 vl p0 pl;go_wp2;refine sT_ rfl ?_;go_wp2_with (at_builtin;refine append_has (W:=W) (size:=1) (bytes:=24) (z:=.slice none 0 0) (e:=27) (n:=i+1) (xs:=us++[.slice qa q.length qc]) (news:=[.slice qa2 q2.length qc2]) rfl rfl Tryz.underlying79 k_ rfl (by decide) rfl rfl (H3.o.step (Fr.t)) hpT rfl (by simp [Value.oneCell']) HLL.o.1 HLL.o.2 ?_);intro g5 cap5 w5 h5 hf5 hg5;have H5:=q_ h5;clear h5 hf5 hg5 H3;go_wp2;go_roundg (n - (i+1));case measure=>exact Nat.lt_of_lt_of_le (Nat.sub_succ_lt_self _ _ hin) hg
   case rel =>
    refine⟨i+1,Hp.row 41 3 (.slice qa2 q2.length qc2) q2.length (pcs q2)::X,q2,qa2,qc2,us++[.slice qa q.length qc],some ⟨g5,0,none⟩,cap5,hin,Nat.le_refl _,i_,rfl,q_ (by rw [List.length_append,HU.o];rfl),q_ ⟨fun P hP=>List.mem_cons_of_mem _ (HQI.o.sub P hP),PatSrc.row rfl (List.mem_cons_self ..),?_,?_⟩,q_ (by rw [List.append_assoc];exact H5.o.step (Fr.t))⟩;·
     have:=HF2.o.1;rw [show B+2*((i+1:Nat):Int)=B+2*(i:Int)+2 from by omega];exact this
    ·rw [HF2.o.2,HQI.o.fld];rfl
  ·obtain rfl:n=i:=o_;clear hr;go_wp2;go_ret2;have h9:=HH.o.swap.drop;exact⟨X,q,qa,qc,us,some ⟨g,0,none⟩,vc,rfl,HU.o,HQI.o,h9.step (Fr.t)⟩
def RunPost (W:World) (Ps:List Res) (r:Rule) (B:Int) (p:List PC) (n:Nat) (e:Ending) (w':World):Prop :=
 ∃ (X:List Res) (q:List PC) (qa:Option Addr) (qc:Nat),e=.returned (.tuple #[.slice qa q.length qc,.int .i64 0])∧HistI W Ps X r B p n q qa qc∧Has W w' X
theorem RRun_calls (h:Has W w Ps) (hQ:C1 r=true) (hsrc:RuleSrc W (.slice ha r.hood.length hc) (.slice na r.nodes.length nc) r Ps)
 (hp:PatSrc W Ps a c p) (hB:0≤B∧B+2*(n:Int)≤32) (hf:FitP r B p) :
  Calls Tryz.prog 12 #[.agg #[.int .i64 r.S,.slice ha r.hood.length hc,.slice na r.nodes.length nc],.slice a p.length c,.int .i64 (n:Int)] w (RunPost W Ps r B p n):=by
 have H0:=q_ (h.newBlk (.cells #[.int .i64 r.S,.slice ha r.hood.length hc,.slice na r.nodes.length nc] 25 (0,0)));have HHI:=q_ (fun w' (hff:Fr [] w w')=>RHistory_calls (h.step hff) hQ hsrc hp hB hf);obtain⟨m,hm⟩:∃ m,r.hood.length=m:=⟨_,rfl⟩;obtain⟨k,hk⟩:∃ m,r.nodes.length=m:=⟨_,rfl⟩;obtain⟨l,hl⟩:∃ m,p.length=m:=⟨_,rfl⟩;rw [hm,hk,hl] at HHI;rw [hm,hk,hl];clear h hQ hsrc hp hf hm hk hl H0;go_enter Tryz.func12,Tryz.ntmps12;go_wp2_with fail;refine (HHI.o _ (Fr.t)).mono ?_;rintro e w1 ⟨X,q,qa,qc,us,va,vc,rfl,hu,hi,h1⟩;have hr:=h1.row;obtain⟨g,rfl⟩:=owns_some27 hr o_;have p0:=An hr rfl (show (us++[Value.slice qa q.length qc])[n]?=some (.slice qa q.length qc) from by rw [List.getElem?_append_right (by rw [hu];exact Nat.le_refl _),hu,Nat.sub_self];rfl);have pl:=oLT hr rfl;have H1:=q_ h1.drop;have HI:=q_ hi;clear h1 hr hu hi HHI;go_wp2;go_ret2;exact⟨X,q,qa,qc,rfl,HI.o,H1.o.step (Fr.t)⟩
def shP (q:List PC):List PC:=q.map fun c=>⟨c.x+32,c.y+32,c.st⟩
theorem RShiftP_calls {q:List PC} {qa:Option Addr} {qc:Nat} (h:Has W w Ps) (hs:PatSrc W Ps qa qc q) (hr:Cn q=true) (hw:Wi 100 q) :
  Calls Tryz.prog 19 #[.slice qa q.length qc,.int .i64 32,.int .i64 32] w fun e w'=>∃ va vc,e=.returned (.tuple #[.slice va q.length vc,.int .i64 0])∧Has W w' (Hp.row 41 3 (.slice va q.length vc) q.length (pcs (shP q))::Ps):=by
 have hlen:=(Cx hr).1;have hRR:=fun w1 (hf:Fr [] w w1)=>RRight_p (hs w1 Ps (h.step hf) fun P hP=>hP) o_;rw [hr] at hRR;have HS:=q_ hs;have HW:=q_ hw;have H:=q_ (h.nilRow 41 3);obtain⟨L,hL⟩:∃ L,q.length=L:=⟨_,rfl⟩;rw [hL] at hRR hlen ⊢;have HRR:=q_ hRR;have HL:=q_ hL;clear h hs hr hw hRR hL;go_enter Tryz.func19,Tryz.ntmps19;go_wp2_with fail;refine (HRR.o _ (Fr.t)).mono ?_;rintro e w1 ⟨rfl,hf⟩;have H1:=q_ (H.o.step (Fr.trans0 (Fr.t) hf));clear hf H HRR;go_wp2;go_loopg [8,9] L (fun gg z8 z9 wr=>∃ (i:Nat) (va:Option Addr) (vc:Nat),i≤L∧L - i≤gg∧z9=.int .i64 (i:Int)∧z8=.slice va i vc∧Hid (Has W wr (Hp.row 41 3 (.slice va i vc) i (pcs (shP (q.take i)))::Ps)));case atStart=>exact⟨0,none,0,Nat.zero_le _,o_,rfl,rfl,q_ (by rw [List.take_zero];exact H1.o)⟩
 case round =>
  obtain⟨i,va,vc,hi,hg,rfl,rfl,HH⟩:=hrel;clear H1;by_cases hin:i<L;·
   obtain⟨c,hc⟩:∃ c,q[i]?=some c:=⟨_,List.getElem?_eq_getElem (by rw [HL.o];exact hin)⟩;have hb:=HW.o c (List.mem_of_getElem? hc);obtain⟨g,off,hga,hgl,c0,c1,c2⟩:=CellsAt.cell (HS.o wr _ HH.o fun P hP=>List.mem_cons_of_mem _ hP) hc;have hsn:pcs (shP (q.take (i+1)))=pcs (shP (q.take i))++[.int .i64 (c.x+32),.int .i64 (c.y+32),.int .i64 c.st]:=by rw [List.take_add_one,hc];simp [shP,pcs]
   have HSN:=q_ hsn;have hpl:Ir (c.x+32) (c.y+32)=true:=(by unfold Ir;exact decide_eq_true o_);have HPL:=q_ (fun w=>place_p (c.x+32) (c.y+32) w);rw [hpl] at HPL;have hmaxl:(5001:Nat)≤maxLen:=(by decide);have HLL:=q_ (show i+1≤maxLen∧(i+1)*24≤140737488355328 from by omega);subst hga;clear hc hsn hpl hmaxl;go_wp2;(refine wT ?_);go_wp2_with fail;refine (HPL.o _).mono ?_;rintro e w8 ⟨rfl,hw8⟩;subst hw8;go_wp2;refine sT_ rfl ?_;go_wp2;(refine wT ?_);go_wp2_with (at_builtin;refine append_has (W:=W) (size:=3) (bytes:=24) (z:=.agg #[.int .i64 0,.int .i64 0,.int .i64 0]) (e:=41) (n:=i) (xs:=pcs (shP (q.take i))) (news:=[.int .i64 (c.x+32),.int .i64 (c.y+32),.int .i64 c.st]) rfl rfl Tryz.underlying27 k_ rfl (by decide) rfl rfl (HH.o.step (Fr.t)) hpT rfl (by simp [Value.oneCell']) HLL.o.1 HLL.o.2 ?_);intro g2 cap2 w7 h7 hf7 hg7;rw [← HSN.o] at h7;have H7:=q_ h7;clear h7 hf7 hg7 HH;go_wp2;refine sT_ rfl ?_;go_wp2;go_roundg (L - (i+1));case measure=>exact Nat.lt_of_lt_of_le (Nat.sub_succ_lt_self _ _ hin) hg
   case rel=>exact⟨i+1,some ⟨g2,0,none⟩,cap2,hin,Nat.le_refl _,i_,rfl,H7⟩
  ·obtain rfl:L=i:=o_;have h5:=HH.o;rw [List.take_of_length_le (by rw [HL.o];exact Nat.le_refl _)] at h5;have H5:=q_ h5;clear h5 HH;go_wp2;go_ret2;exact⟨va,vc,rfl,H5.o⟩
end Go.Proofs.YtebolidfbflkmaaGreat
namespace Go.Proofs.YtebolidfbflkmaaGreat
open Go Go.RowKit Rg Mp Hp Qs Ev Bn Uni Pt
variable {X:Int}
theorem far_ (h:X.natAbs<2 ^ 160):-p2 200+100<X∧X<p2 200 - 100:=by
 have e:(2 ^ 160:Nat)+(100:Nat)<(2 ^ 200:Nat):=by decide +kernel
 have e3:p2 200=((2 ^ 200:Nat):Int):=rfl;generalize (2 ^ 200:Nat)=N at *
 generalize (2 ^ 160:Nat)=M at *
 omega
variable {W:World}{a:Option Addr}{c:Nat}
theorem big_src {neg:Bool} {ds:List Nat} (h:BigIn W neg ds a c) (hR:A7 neg ds=true) (h5:ds.length≤5) :
  ∃ X,X.natAbs<2 ^ 160∧(∀ w,Fr [] W w→BigZ w (fun _=>True) (.agg #[.bool neg,.slice a ds.length c]) X)∧Zok X∧(zd X).length≤5:=by
 obtain⟨z,h1,rfl,rfl,h2⟩:=h.z hR;refine⟨z,?_,fun w hf=>⟨a,c,rfl,h.len,fun _ _=>trivial,h.rd.fr hf⟩,h1,h5⟩;have:=(Az (B:=4294967296) o_ (n:=z.natAbs) 5).1 h5;exact Nat.lt_of_lt_of_le this (by decide +kernel)
variable {w:World}
theorem RAddR_z {A B:Nat→Prop} {va vb:Value} {x y:Int} (ha:BigZ w A va x) (hb:BigZ w B vb y) (hx:Zok x) (hy:Zok y) (hs:Zok (x+y)) (h1:(zd x).length≤10) (h2:(zd y).length≤10) :
  Calls Tryz.prog 17 #[va,vb] w fun e w'=>∃ v,e=.returned (.tuple #[v,.int .i64 0])∧BigZ w' (w.heap.size≤·) v (x+y)∧(∀ b n c,v=.agg #[b,.slice none n c]→c=0)∧Fr [] w w':=by
 obtain⟨a,c,rfl,_,_,h3⟩:=ha;obtain⟨a',c',rfl,_,_,k3⟩:=hb;refine (RAddR_calls h3 k3 (E8 x) (E8 y) (Ct hx) (Ct hy) h1 h2).mono ?_;rw [addS_z hx hy hs];rintro e w' ⟨a,c,h0,⟨h1,h2⟩,rfl,h3,hf⟩;exact⟨_,rfl,⟨a,c,rfl,h1,h2,h3⟩,fun b n c2 e=>by cases e;exact h0 rfl,hf⟩
variable {p:List PC}
theorem fits_zero {r:Rule} (h:fitsE r p=0):C1 r=true∧Cn p=true∧∀ c∈p,c.st<r.S:=by
 unfold fitsE at h;cases h1:C1 r with
 | false=>rw [h1] at h;cases h
 | true =>
  cases h2:Cn p with
  | false=>rw [h1,h2] at h;cases h
  | true =>
   rw [h1,h2,if_pos rfl,if_pos rfl] at h;cases h3:p.all fun c=>decide (c.st<r.S) with
   | false=>rw [h3] at h;cases h
   | true=>exact⟨rfl,rfl,fun c hc=>by simpa using List.all_eq_true.1 h3 c hc⟩
variable {q:List PC}
theorem dir_right (hr:Cn q=true) (hw:Wi 100 q):Cn (shP q)=true:=by
 obtain⟨h1,h2,h3⟩:=Cx hr;refine right_make (by unfold shP;rw [List.length_map];exact h1) (fun c hc=>?_) (Dw ?_);·
  obtain⟨d,hd,rfl⟩:=List.mem_map.1 hc;have h4:=h2 d hd;have h5:=hw d hd;simp only [Ig,Ir,Bool.and_eq_true,decide_eq_true_eq] at h4 ⊢;omega
 ·exact List.pairwise_map.2 ((C6 h3).imp fun {a b} h=>by simp only [Cf,decide_eq_true_eq] at h ⊢;omega)
variable {Y:Int}
theorem dir_view (hr:Cn q=true) (hw:Wi 30 q) (hX:X.natAbs<2 ^ 160) (hY:Y.natAbs<2 ^ 160) (c:PC):c∈shP q↔InV ⟨X+-32,Y+-32,64,64⟩ 201 (C8 (Bl q) X Y) (-p2 200) (-p2 200) c:=by
 have e:=far_ hX;have e1:=far_ hY;have e2:=It;have em:C8 (Bl q) X Y (c.x+(X+-32)) (c.y+(Y+-32))=Bl q (c.x - 32) (c.y - 32):=by show Bl q (c.x+(X+-32) - X) (c.y+(Y+-32) - Y)=_;congr 1<;>omega
 unfold InV;simp only;rw [em];constructor;·
  intro hc;obtain⟨d,hd,rfl⟩:=List.mem_map.1 hc;have h1:=hw d hd;have h2:=(Cx hr).2.1 d hd;simp only [Ig,Bool.and_eq_true,decide_eq_true_eq] at h2;have h3:=Vt (Cx hr).2.2 hd;simp only;rw [show d.x+32 - 32=d.x by omega,show d.y+32 - 32=d.y by omega,h3];refine⟨?_,?_,rfl,?_⟩<;>omega
 ·rintro⟨_,_,h1,h2⟩;obtain⟨d,hd,hx,hy,h3⟩:=fld_some (p:=q) (x:=c.x - 32) (y:=c.y - 32) (by rw [← h1];exact h2);refine List.mem_map.2 ⟨d,hd,?_⟩;rw [h3] at h1;cases c;simp only at hx hy h1 ⊢;simp only [PC.mk.injEq];omega
theorem dir_pop {s:Int} (hr:Cn q=true) (hw:Wi 30 q) (hs:∀ c∈q,c.st<s) (hX:X.natAbs<2 ^ 160) (hY:Y.natAbs<2 ^ 160):B0 (mid 200 (C8 (Bl q) X Y))=q.length:=by have e:=far_ hX;have e1:=far_ hY;have e2:=It;unfold mid;rw [mk_mov];refine pop_fld (s:=s) (p:=q) hr (fun c hc=>?_) hs;have:=hw c hc;unfold inSq;rw [show 200+1=201 from rfl];omega
theorem hold_fld {B:Int} {w:Nat} (hw:Wi B q) (h:2*B≤w):Ln ⟨-B,-B,w,w⟩ (Bl q):=fun x y hn=>Pu fun c hc he=>hn (by have:=hw c hc;simp only;omega)
theorem hold_ins {F:Fld} {a b:Int} {w:Nat} (h:Ln ⟨a+X,b+Y,w,w⟩ F) (hX:X.natAbs<2 ^ 160) (hY:Y.natAbs<2 ^ 160) (ha:-64≤a∧a+w≤64) (hb:-64≤b∧b+w≤64):Inside 200 F:=fun i j hn=>h i j fun hc=>hn (by
 have e:=far_ hX
 have e1:=far_ hY
 simp only at hc
 omega)
theorem zok_near (h:X.natAbs<2 ^ 160):Zok (X+-32):=by
 have e:(2 ^ 160:Nat)+32<4294967296 ^ 64:=by decide +kernel
 unfold Zok;generalize (4294967296 ^ 64:Nat)=N at *
 generalize (2 ^ 160:Nat)=M at *
 omega
structure DirOk (r:Rule) (p q:List PC) (n:Nat) (X Y:Int):Prop where
 quiet:C1 r=true
 fit:FitP r 9 p
 n10:n≤10
 fit2:FitP r (9+2*(n:Int)) q
 fld:Bl q=it (gen r) n (Bl p)
 len:p.length≤60
 hX:X.natAbs<2 ^ 160
 hY:Y.natAbs<2 ^ 160
theorem DirOk.wi {r:Rule} {p q:List PC} {n:Nat} {X Y:Int} (h:DirOk r p q n X Y):Wi 30 q:=fun c hc=>by have:=h.fit2.wi c hc;have:=h.n10;omega
variable {U:UP}{ns:List K4}{Ps:List Res}{n:Nat}{vx vy:Value}
theorem put_D (h:Has W w (A6 U ns [] Ps)) (hl:ns.length≤201) (hi:Is U.r.S ns 201 U.root (mid 200 fun _ _=>0)) (ok:DirOk U.r p q n X Y) (hp:CellsAt W (.slice a p.length c) p)
  (hx:bZ_ W Ps vx X) (hy:bZ_ W Ps vy Y) (zX:Zok X) (zY:Zok Y) :
  Calls Tryz.prog 14 #[.pointer (some ⟨U.ub,0,none⟩),.slice a p.length c,vx,vy] w fun e w'=>e=.returned (.int .i64 0)∧∃ root ns',Has W w' (A6 ⟨U.r,U.hv,U.nv,U.ub,U.mb,U.sb,U.rb,root,U.G,U.ga,U.gc⟩ ns' [] Ps)∧ns'.length≤13000∧Is U.r.S ns' 201 root (mid 200 (C8 (Bl p) X Y)):=by
 have hlp:=ok.len;have hXY:=And.intro ok.hX ok.hY;refine (put_u (R:=p2 200) h hi (fun w1 Qs h1 hm=>hp.fr h1.fr) ok.fit.right ok.fit.st (Oh (Ch ok.quiet).1).1 hx hy zX zY rfl (fun c hc=>by
  have:=ok.fit.wi c hc
  have e:=far_ hXY.1
  have e1:=far_ hXY.2
  unfold inV
  omega) o_).mono ?_
 rintro e w' ⟨rfl,root2,ns2,h6,h7,h8,h9⟩;rw [putF_zero X Y (Cx ok.fit.right).2.2] at h9;exact⟨rfl,root2,ns2,h6,o_,h9⟩
theorem run_D {w1:World} {ha na:Option Addr} {hc nc:Nat} {v:Value} (h:Has W w (A6 U ns [] Ps)) (hl:ns.length≤13000) (hi:Is U.r.S ns 201 U.root (mid 200 (C8 (Bl p) X Y))) (ok:DirOk U.r p q n X Y) (hru:RuleAt W U.hv U.nv U.r)
  (e1:U.hv=.slice ha U.r.hood.length hc) (e2:U.nv=.slice na U.r.nodes.length nc) (hb:BigZ w1 (w.heap.size≤·) v (n:Int)) (hf:Fr [] w w1) (hG:U.G=0) :
  Calls Tryz.prog 15 #[.pointer (some ⟨U.ub,0,none⟩),v] w1 fun e w'=>e=.returned (.int .i64 0)∧∃ root ga gc ns' mm',Has W w' (A6 ⟨U.r,U.hv,U.nv,U.ub,U.mb,U.sb,U.rb,root,U.G+n,ga,gc⟩ ns' mm' Ps)∧Is U.r.S ns' 201 root (mid 200 (C8 (Bl q) X Y)):=by
 have h10:=ok.n10;have hz:=ui_ (zm_ (Ah h) hf hb (Bb o_ o_));have hF:Ln ⟨-10+X,-10+Y,21,21⟩ (C8 (Bl p) X Y):=hold_mov (R8 (hold_fld (B:=9) (w:=18) ok.fit.wi o_) o_ o_ o_ o_) X Y;have hG':Ln ⟨-30+X,-30+Y,60,60⟩ (C8 (Bl q) X Y):=hold_mov (hold_fld (B:=30) (w:=60) ok.wi o_) X Y;have hfl:it (gen U.r) n (C8 (Bl p) X Y)=C8 (Bl q) X Y:=by rw [it_mov,← ok.fld]
 refine (run_u hz ok.quiet e1 e2 (RuleSrc.base hru) hi (hold_ins hF ok.hX ok.hY o_ o_) o_ (fun w2 Qs h2 hm=>zi_ (e:=(v,(n:Int))) h2 (hm (zp_ [(v,(n:Int))]) i_) i_) (by rw [hfl];exact hold_ins hG' ok.hX ok.hY o_ o_)
  (fun k hk hb u hu=>run_need ok.quiet o_ hF hk hb u hu) (roomC_of (by have:=runL_le U.r (C8 (Bl p) X Y) (-10+X) (-10+Y) h10;omega)) (fun id k v h=>by simp [get?] at h) (by rw [hG];exact Nat.lt_of_le_of_lt (show 0+n≤110 by omega) (by decide +kernel))).mono ?_
 rintro e w' ⟨rfl,root2,ga2,gc2,ns2,mm2,h6,_,_,_,h9⟩;rw [hfl] at h9;exact⟨rfl,root2,ga2,gc2,ns2,mm2,(Rt h6).drop,h9⟩
theorem view_D {mm:List ((Int×Int)×Int)} (h:Has W w (A6 U ns mm Ps)) (hi:Is U.r.S ns 201 U.root (mid 200 (C8 (Bl q) X Y))) (ok:DirOk U.r p q n X Y)
  (hx:bZ_ W Ps vx (X+-32)) (hy:bZ_ W Ps vy (Y+-32)) (nx:∀ b n c,vx=.agg #[b,.slice none n c]→c=0) (ny:∀ b n c,vy=.agg #[b,.slice none n c]→c=0) :
  Calls Tryz.prog 18 #[.pointer (some ⟨U.ub,0,none⟩),vx,vy,.int .i64 64,.int .i64 64] w fun e w'=>∃ v,e=.returned (.tuple #[v,.int .i64 0])∧Has W w' (Hp.row 41 3 v q.length (pcs (shP q))::A6 U ns mm Ps):=by
 have hr:=dir_right ok.fit2.right (fun c hc=>by have:=ok.wi c hc;omega);have hv:=fun c=>dir_view ok.fit2.right ok.wi ok.hX ok.hY c;have hlen:=(Cx hr).1;have hvl:=vis_len hr hv;have hXY:=And.intro ok.hX ok.hY;have e:=far_ ok.hX;have e1:=far_ ok.hY;have e2:=It;have b1:(-p2 201≤X+-32∧X+-32<p2 200)∧(-p2 201≤Y+-32∧Y+-32<p2 200):=by clear hvl hv;omega
 have hl:(shP q).length=q.length:=List.length_map _;have:=view_u h hi hx hy b1.1 b1.2 nx ny o_ o_ (from_vis hr hv) (by rw [hvl];omega);rwa [hl] at this
end Go.Proofs.YtebolidfbflkmaaGreat
namespace Go.Proofs.YtebolidfbflkmaaGreat
open Go Go.RowKit Rg Hp Bn
theorem RIntN_calls {w:World} {neg:Bool} {ds:List Nat} {v:Value} (hv:Reads w v ds.length 1 (Aw ds)) (hD:Dig 4294967296 ds) (hl:ds.length≤9223372036854775807) :
  Calls Tryz.prog 7 #[.agg #[.bool neg,v]] w fun e w'=>∃ (n:Int) (b:Bool),e=.returned (.tuple #[.int .i64 n,.bool b])∧Fr [] w w':=by
 have hra:=fun w1 (hf:Fr [] w w1)=>Mo (neg:=neg) (hv.fr hf) o_;by_cases h2:2<ds.length;·
  obtain⟨_,a,c,rfl,hav⟩:=hv;obtain⟨n,hn⟩:∃ n,ds.length=n:=⟨_,rfl⟩;rw [hn] at hra hl h2 ⊢;obtain⟨R,hR⟩:∃ R,A7 neg ds=R:=⟨_,rfl⟩;rw [hR] at hra;have Hra:=q_ hra;clear hra hav hn hD hR;have hd:decide ((2:Int)<n)=true:=by rw [decide_eq_true_eq];omega
  cases R;·
   go_enter Tryz.func7,Tryz.ntmps7;go_wp2_with fail;refine (Hra.o _ (Fr.t)).mono ?_;rintro e w1 ⟨rfl,hf⟩;have ha_:=(hf.block (w.heap.size) f_' i_).trans (show _=some (.cells #[.bool neg,.slice a n c] 30 (0,0)) from hpT);obtain⟨a0,a1,al⟩:=l2_ ha_;have Ha:=q_ ha_;clear ha_;have Hf:=q_ (Fr.trans0 (Fr.t:Fr [] w _) hf);clear hf;go_wp2;go_ret2;first|exact⟨_,_,rfl,Hf.o⟩|exact⟨_,rfl,_,Hf.o⟩|exact⟨_,rfl,Hf.o⟩
  ·go_enter Tryz.func7,Tryz.ntmps7;go_wp2_with fail;refine (Hra.o _ (Fr.t)).mono ?_;rintro e w1 ⟨rfl,hf⟩;have ha_:=(hf.block (w.heap.size) f_' i_).trans (show _=some (.cells #[.bool neg,.slice a n c] 30 (0,0)) from hpT);obtain⟨a0,a1,al⟩:=l2_ ha_;have Ha:=q_ ha_;clear ha_;have Hf:=q_ (Fr.trans0 (Fr.t:Fr [] w _) hf);clear hf;go_wp2;go_ret2;first|exact⟨_,_,rfl,Hf.o⟩|exact⟨_,rfl,_,Hf.o⟩|exact⟨_,rfl,Hf.o⟩
 ·have hby:=fun w1 (hf:Fr [] w w1)=>O6 (neg:=neg) (hv.fr hf) hD o_;have hl8:(dg 256 (val 4294967296 ds)).length≤8:=by
   rw [Az o_];exact Nat.lt_of_lt_of_le (Ce hD) (Nat.le_trans (Nat.pow_le_pow_right (show 0<4294967296 by omega) (show ds.length≤2 by omega)) (by decide))
  obtain⟨X,hX⟩:∃ X,dg 256 (val 4294967296 ds)=X:=⟨_,rfl⟩;rw [hX] at hby hl8;obtain⟨_,a,c,rfl,hav⟩:=hv;obtain⟨n,hn⟩:∃ n,ds.length=n:=⟨_,rfl⟩;rw [hn] at hra hby hl h2 ⊢;obtain⟨R,hR⟩:∃ R,A7 neg ds=R:=⟨_,rfl⟩;rw [hR] at hra;have Hra:=q_ hra;have Hby:=q_ hby
  obtain⟨m,hm⟩:∃ m,X.length=m:=⟨_,rfl⟩;have Hm:=q_ hm;rw [hm] at hl8;clear hra hby hav hn hD hX hR hm;have hd:decide ((2:Int)<n)=false:=by rw [decide_eq_false_iff_not];omega
  cases R;·
   go_enter Tryz.func7,Tryz.ntmps7;go_wp2_with fail;refine (Hra.o _ (Fr.t)).mono ?_;rintro e w1 ⟨rfl,hf⟩;have ha_:=(hf.block (w.heap.size) f_' i_).trans (show _=some (.cells #[.bool neg,.slice a n c] 30 (0,0)) from hpT);obtain⟨a0,a1,al⟩:=l2_ ha_;have Ha:=q_ ha_;clear ha_;have Hf:=q_ (Fr.trans0 (Fr.t:Fr [] w _) hf);clear hf;go_wp2;go_ret2;first|exact⟨_,_,rfl,Hf.o⟩|exact⟨_,rfl,_,Hf.o⟩|exact⟨_,rfl,Hf.o⟩
  ·go_enter Tryz.func7,Tryz.ntmps7;go_wp2_with fail;refine (Hra.o _ (Fr.t)).mono ?_;rintro e w1 ⟨rfl,hf⟩;have ha_:=(hf.block (w.heap.size) f_' i_).trans (show _=some (.cells #[.bool neg,.slice a n c] 30 (0,0)) from hpT);obtain⟨a0,a1,al⟩:=l2_ ha_;have Ha:=q_ ha_;clear ha_;have Hf:=q_ (Fr.trans0 (Fr.t:Fr [] w _) hf);clear hf;go_wp2_with fail;refine (Hby.o _ Hf.o).mono ?_;rintro e w2 ⟨xa,xc,hlo,rfl,hr,hf⟩;rw [Hm.o] at hr ⊢;(try clear a0 a1 al);have ha_:=tk hf Ha;clear Ha;obtain⟨a0,a1,al⟩:=l2_ ha_;have Ha:=q_ ha_;clear ha_;have Hf:=q_ (Hf.o.trans0 hf);obtain⟨_,xa2,xc2,he,hxa⟩:=hr;cases he;have Hxa:=q_ hxa;clear hf hlo hxa;go_wp2_with fail;go_loopw [4,6] (fun x4 x6 wl=>∃ (u:Int) (k:Nat) (z:Int),x4=.int .u64 u∧x6=.int .i64 z∧z=(k:Int) - 1∧k≤m∧wl=w2) (fun _ x6 _=>(intOf x6+1).toNat);case atStart=>exact⟨0,m,_,rfl,rfl,rfl,o_,rfl⟩
   case round =>
    obtain⟨u,k,z,rfl,rfl,hz,hk,rfl⟩:=hrel;cases k with
    | zero =>
     obtain rfl:z=-1:=o_;clear hz;cases neg;all_goals
      go_wp2;all_goals
       go_ret2;first|exact⟨_,_,rfl,Hf.o⟩|exact⟨_,rfl,_,Hf.o⟩|exact⟨_,rfl,Hf.o⟩
    | succ k =>
     obtain rfl:z=(k:Int):=o_;obtain⟨g,off,rfl,hg,hc⟩:=Hxa.o o_;have e1:=hc k _ (Pn (by have:=Hm.o;omega));clear hz hc;generalize X.getD k 0=x at *
     go_wp2;go_roundw;case rel=>exact⟨_,k,(k:Int) - 1,rfl,by go_num,rfl,o_,trivial⟩
     case measure=>simp [intOf]
end Go.Proofs.YtebolidfbflkmaaGreat
namespace Go.Proofs.YtebolidfbflkmaaGreat
open Go Go.RowKit Rg Mp Hp Qs Ev Bn Uni Pt
variable {w:World}
theorem pop_N {W:World} {U:UP} {ns:List K4} {mm:List ((Int×Int)×Int)} {Ps:List Res} {F:Fld} {P:Nat} (h:Has W w (A6 U ns mm Ps)) (hi:Is U.r.S ns 201 U.root (mid 200 F)) (hP:B0 (mid 200 F)=P) :
  Calls Tryz.prog 22 #[.pointer (some ⟨U.ub,0,none⟩)] w fun e w'=>∃ a c,e=.returned (.agg #[.bool false,.slice a (zd (P:Int)).length c])∧Has W w' (B4 false (zd (P:Int)) a c::A6 U ns mm Ps):=by
 have:=pop_u h hi;rw [hP] at this;exact this
theorem zd32:(zd (-32)).length≤10:=(Az o_ 10).2 (by decide)
theorem ob_ {b:Nat} {cs:Array Value} {t:TypeId} {fr:Nat×Nat} (h:w.heap[b]?=some (.cells cs t fr)):w.cell? ⟨b,4,none⟩=cs[4]?∧w.cell? ⟨b,5,none⟩=cs[5]?∧w.cell? ⟨b,6,none⟩=cs[6]?∧w.cell? ⟨b,7,none⟩=cs[7]?∧b<w.heap.size :=
 ⟨hEC h 4,hEC h 5,hEC h 6,hEC h 7,lBk h⟩
theorem UniverseDirect_calls {r:Rule} {ha na:Option Addr} {hc nc:Nat} (hru:RuleAt w (.slice ha r.hood.length hc) (.slice na r.nodes.length nc) r) {p:List PC} {a:Option Addr} {c:Nat} (hp:CellsAt w (.slice a p.length c) p)
  {k0 k1 k2 k3 kz:Value} {xs ys zs:Bool} {xa ya za:Option Addr} {xc yc zc:Nat} {xl yl zl:List Nat} (bx:BigIn w xs xl xa xc) (by':BigIn w ys yl ya yc) (bz:BigIn w zs zl za zc) :
  Calls Tryz.prog 3 #[.agg #[.int .i64 r.S,.slice ha r.hood.length hc,.slice na r.nodes.length nc],.slice a p.length c,.agg #[k0,k1,k2,k3,.bool xs,.slice xa xl.length xc,.bool ys,.slice ya yl.length yc,.bool zs,.slice za zl.length zc,kz]] w fun e w'=>e=.returned (.bool true)∧Fr [] w w':=by
 have HRU:=q_ hru;have HP:=q_ hp;have HBX:=q_ (And.intro bx by');have HIN:=q_ (fun w1 (hf:Fr [] w w1)=>RIntN_calls (neg:=zs) (bz.fr hf).rd bz.dig bz.big);have hsm:=fun w1 (hf:Fr [] w w1)=>LSmall_calls (p:=p) (a:=a) (c:=c) (hru.fr hf);have hrx:=fun w1 (hf:Fr [] w w1)=>Mo (neg:=xs) (bx.fr hf).rd bx.big;have hry:=fun w1 (hf:Fr [] w w1)=>Mo (neg:=ys) (by'.fr hf).rd by'.big;have h0:=((Has.nil (Fr.refl [] w)).newBlk (.cells #[.int .i64 r.S,.slice ha r.hood.length hc,.slice na r.nodes.length nc] 25 (0,0))).newBlk (.cells #[k0,k1,k2,k3,.bool xs,.slice xa xl.length xc,.bool ys,.slice ya yl.length yc,.bool zs,.slice za zl.length zc,kz] 32 (0,0));simp only [hAz] at h0;have H0:=q_ h0;obtain⟨T,hT⟩:∃ T,smallP r p=T:=⟨_,rfl⟩;obtain⟨RX,hRX⟩:∃ T,A7 xs xl=T:=⟨_,rfl⟩;obtain⟨RY,hRY⟩:∃ T,A7 ys yl=T:=⟨_,rfl⟩;rw [hT] at hsm;rw [hRX] at hrx;rw [hRY] at hry;have HSM:=q_ hsm;have HRX:=q_ hrx;have HRY:=q_ hry;have HT:=q_ (And.intro hT (And.intro hRX hRY));clear hru hp bx by' bz hsm hrx hry h0 hT hRX hRY;go_enter Tryz.func3,Tryz.ntmps3;go_wp2_with fail;refine (HIN.o _ (Fr.t)).mono ?_;rintro e w1 ⟨n,okb,rfl,hf1⟩;have h1:=H0.o.step (Fr.trans0 (Fr.t) hf1);obtain⟨tb,htb⟩:∃ t,w.heap.size=t:=⟨_,rfl⟩;rw [htb] at h1 ⊢;have H1:=q_ h1;clear h1 hf1 htb H0 HIN;(try clear t0 t1 t2 tl);have ht_:w1.heap[tb]?=some (.cells #[.int .i64 r.S,.slice ha r.hood.length hc,.slice na r.nodes.length nc] 25 (0,0)):=A5 H1.o i_;obtain⟨t0,t1,t2,tl⟩:=l3_ ht_;clear ht_;go_wp2_with fail;refine (HSM.o _ H1.o.fr).mono ?_;rintro e w2 ⟨rfl,hf⟩;have H2:=q_ (H1.o.step hf);clear hf H1 HSM;(try clear t0 t1 t2 tl);have ht_:w2.heap[tb]?=some (.cells #[.int .i64 r.S,.slice ha r.hood.length hc,.slice na r.nodes.length nc] 25 (0,0)):=A5 H2.o i_;obtain⟨t0,t1⟩:=e2_ ht_
 have t2:=hEC ht_ 2;have tl:=lBk ht_;clear ht_;(try clear o4 o5 o6 o7 ol);obtain⟨o4,o5,o6,o7,ol⟩:=ob_ (show w2.heap[tb+1]?=some (.cells #[k0,k1,k2,k3,.bool xs,.slice xa xl.length xc,.bool ys,.slice ya yl.length yc,.bool zs,.slice za zl.length zc,kz] 32 (0,0)) from A5 H2.o i_);rcases (by cases T<;>simp<;>omega:T=false∨(T=true∧5<xl.length)∨((T=true∧¬ 5<xl.length)∧5<yl.length)∨(T=true∧¬ 5<xl.length)∧¬ 5<yl.length) with rfl|⟨rfl,hx5⟩|⟨⟨rfl,hx5⟩,hy5⟩|⟨⟨rfl,hx5⟩,hy5⟩
 iterate 3
  ·go_wp2_with fail;refine (awake_calls _).mono ?_;rintro e wz ⟨rfl,hfz⟩;have Hfz:=q_ (Fr.trans0 H2.o.fr (Fr.trans0 (Fr.t) hfz));clear hfz;go_wp2;go_ret;exact⟨rfl,by have:=Hfz.o;exact Fr.t⟩
 go_wp2_with fail;refine (HRX.o _ H2.o.fr).mono ?_;rintro e w3 ⟨rfl,hf⟩;have H3:=q_ (H2.o.step hf);clear hf H2 HRX;(try clear t0 t1 t2 tl);have ht_:w3.heap[tb]?=some (.cells #[.int .i64 r.S,.slice ha r.hood.length hc,.slice na r.nodes.length nc] 25 (0,0)):=A5 H3.o i_;obtain⟨t0,t1,t2,tl⟩:=l3_ ht_;clear ht_;(try clear o4 o5 o6 o7 ol);obtain⟨o4,o5,o6,o7,ol⟩:=ob_ (show w3.heap[tb+1]?=some (.cells #[k0,k1,k2,k3,.bool xs,.slice xa xl.length xc,.bool ys,.slice ya yl.length yc,.bool zs,.slice za zl.length zc,kz] 32 (0,0)) from A5 H3.o i_);cases RX with
 | false =>go_wp2_with fail;refine (awake_calls _).mono ?_;rintro e wz ⟨rfl,hfz⟩;have Hfz:=q_ (Fr.trans0 H3.o.fr (Fr.trans0 (Fr.t) hfz));clear hfz;go_wp2;go_ret;exact⟨rfl,by have:=Hfz.o;exact Fr.t⟩
 | true =>
 go_wp2_with fail;refine (HRY.o _ H3.o.fr).mono ?_;rintro e w4 ⟨rfl,hf⟩;have H4:=q_ (H3.o.step hf);clear hf H3 HRY;(try clear t0 t1 t2 tl);have ht_:w4.heap[tb]?=some (.cells #[.int .i64 r.S,.slice ha r.hood.length hc,.slice na r.nodes.length nc] 25 (0,0)):=A5 H4.o i_;obtain⟨t0,t1,t2,tl⟩:=l3_ ht_;clear ht_;(try clear o4 o5 o6 o7 ol);obtain⟨o4,o5,o6,o7,ol⟩:=ob_ (show w4.heap[tb+1]?=some (.cells #[k0,k1,k2,k3,.bool xs,.slice xa xl.length xc,.bool ys,.slice ya yl.length yc,.bool zs,.slice za zl.length zc,kz] 32 (0,0)) from A5 H4.o i_);rcases (by cases RY<;>cases okb<;>simp<;>omega:RY=false∨(RY=true∧okb=false)∨((RY=true∧okb=true)∧n<0)∨((RY=true∧okb=true)∧¬ n<0∧10<n)∨(RY=true∧okb=true)∧¬ n<0∧¬ 10<n) with rfl|⟨rfl,rfl⟩|⟨⟨rfl,rfl⟩,hn0⟩|⟨⟨rfl,rfl⟩,hn0,hn10⟩|⟨⟨rfl,rfl⟩,hn0,hn10⟩
 iterate 4
  ·go_wp2_with fail;refine (awake_calls _).mono ?_;rintro e wz ⟨rfl,hfz⟩;have Hfz:=q_ (Fr.trans0 H4.o.fr (Fr.trans0 (Fr.t) hfz));clear hfz;go_wp2;go_ret;exact⟨rfl,by have:=Hfz.o;exact Fr.t⟩
 obtain⟨N,rfl⟩:∃ N:Nat,n=N:=⟨n.toNat,o_⟩;have hsm:=HT.o.1;unfold smallP at hsm;rw [Bool.and_eq_true,decide_eq_true_eq] at hsm;obtain⟨hfew,hp60⟩:=hsm;have hlen2:r.hood.length≤1000000∧r.nodes.length≤1000000:=by unfold few12 at hfew;simp only [Bool.and_eq_true,decide_eq_true_eq] at hfew;omega
 obtain⟨hlh,hln⟩:=hlen2;have hft:=RFits_calls (HRU.o.fr H4.o.fr) hlh hln (HP.o.fr H4.o.fr) (Nat.le_trans hp60 o_);obtain⟨E,hE⟩:∃ E,fitsE r p=E:=⟨_,rfl⟩;rw [hE] at hft;have HFT:=q_ hft;have HE:=q_ hE;clear hfew hft hE;go_wp2_with fail;refine (HFT.o).mono ?_;rintro e w5 ⟨rfl,hf⟩;have H5:=q_ (H4.o.step hf);clear hf H4 HFT;(try clear t0 t1 t2 tl);have ht_:w5.heap[tb]?=some (.cells #[.int .i64 r.S,.slice ha r.hood.length hc,.slice na r.nodes.length nc] 25 (0,0)):=A5 H5.o i_;obtain⟨t0,t1,t2,tl⟩:=l3_ ht_;clear ht_;(try clear o4 o5 o6 o7 ol);obtain⟨o4,o5,o6,o7,ol⟩:=ob_ (show w5.heap[tb+1]?=some (.cells #[k0,k1,k2,k3,.bool xs,.slice xa xl.length xc,.bool ys,.slice ya yl.length yc,.bool zs,.slice za zl.length zc,kz] 32 (0,0)) from A5 H5.o i_);by_cases hE0:E=0;case neg =>
  have b0:(E != 0)=true:=by simpa using hE0
  go_wp2_with fail;refine (awake_calls _).mono ?_;rintro e wz ⟨rfl,hfz⟩;have Hfz:=q_ (Fr.trans0 H5.o.fr (Fr.trans0 (Fr.t) hfz));clear hfz;go_wp2;go_ret;exact⟨rfl,by have:=Hfz.o;exact Fr.t⟩
 subst hE0;have HQ:=q_ (fits_zero HE.o);go_wp2;go_loopw [80] (fun x wr=>∃ i:Nat,x=.int .i64 i∧i≤p.length∧Hid (∀ j q,j<i→p[j]?=some q→-8≤q.x∧q.x≤8∧-8≤q.y∧q.y≤8)∧wr=w5) (fun z _=>p.length - (intOf z).toNat);case atStart=>exact⟨0,rfl,o_,q_ (fun j q hj=>by omega),rfl⟩
 case round =>
  obtain⟨i,rfl,hi,HEE,rfl⟩:=hrel;by_cases hlt:i<p.length;·
   obtain⟨q,hq⟩:∃ q,p[i]?=some q:=⟨_,List.getElem?_eq_getElem hlt⟩;obtain⟨g,off,hga,hg,c0,c1,c2⟩:=CellsAt.cell (HP.o.fr H5.o.fr) hq;have HQQ:=q_ hq;have HGA:=q_ hga;clear hq hga;rw [HGA.o];rcases (by omega:q.x < -8∨(¬ q.x < -8∧8<q.x)∨((¬ q.x < -8∧¬ 8<q.x)∧q.y < -8)∨((¬ q.x < -8∧¬ 8<q.x)∧¬ q.y < -8∧8<q.y)∨(¬ q.x < -8∧¬ 8<q.x)∧¬ q.y < -8∧¬ 8<q.y) with b1|⟨b1,b2⟩|⟨⟨b1,b2⟩,b3⟩|⟨⟨b1,b2⟩,b3,b4⟩|⟨⟨b1,b2⟩,b3,b4⟩
   iterate 4
    ·go_wp2_with fail;refine (awake_calls _).mono ?_;rintro e wz ⟨rfl,hfz⟩;have Hfz:=q_ (Fr.trans0 H5.o.fr (Fr.trans0 (Fr.t) hfz));clear hfz;go_wp2;go_ret;exact⟨rfl,by have:=Hfz.o;exact Fr.t⟩
   have HE':=q_ (show ∀ j q,j<i+1→p[j]?=some q→-8≤q.x∧q.x≤8∧-8≤q.y∧q.y≤8 from fun j s hj hs=>by
    by_cases e:j=i
    ·subst e
     rw [HQQ.o] at hs
     obtain rfl:=Option.some.inj hs
     omega
    ·exact HEE.o j s o_ hs)
   clear HEE;go_wp2;go_roundw;case rel=>exact⟨i+1,by go_num,o_,HE',trivial⟩
   case measure=>simp [intOf];omega
  ·obtain rfl:i=p.length:=o_;have hwi:Wi 9 p:=fun q hq=>by
    obtain⟨j,hj⟩:=List.getElem?_of_mem hq;have:=HEE.o j q (List.getElem?_eq_some_iff.1 hj).1 hj;omega
   have hfit:FitP r 9 p:=⟨HQ.o.2.1,hwi,HQ.o.2.2⟩;have HFI:=q_ hfit;have HRR:=q_ (RRun_calls H5.o HQ.o.1 (RuleSrc.base HRU.o) (PatSrc.base HP.o) (B:=9) (n:=N) ⟨o_,o_⟩ hfit);clear HEE hwi hfit;go_wp2_with fail;refine (HRR.o).mono ?_;rintro e w6 ⟨XX,q,qa,qc,rfl,hHI,h6⟩;have HHI:=q_ hHI;have H6:=q_ h6;clear hHI h6 HRR H5;(try clear t0 t1 t2 tl);have ht_:w6.heap[tb]?=some (.cells #[.int .i64 r.S,.slice ha r.hood.length hc,.slice na r.nodes.length nc] 25 (0,0)):=A5 H6.o (HHI.o.sub _ i_);obtain⟨t0,t1,t2,tl⟩:=l3_ ht_;clear ht_;have hn:Calls Tryz.prog 13 #[.agg #[.int .i64 r.S,.slice ha r.hood.length hc,.slice na r.nodes.length nc]] w6 _:=new_u (RuleSrc.base HRU.o) hlh hln H6.o;have HN:=q_ hn;clear hn;go_wp2_with fail;refine (HN.o).mono ?_;rintro e w7 (⟨hq',_⟩|⟨_,ub,mb,sb,rb,root,ns,rfl,h7,hl7,hi7⟩);·rw [HQ.o.1] at hq';cases hq'
   obtain⟨X,hX,hxs,zX,lX⟩:=big_src HBX.o.1 HT.o.2.1 o_;obtain⟨Y,hY,hys,zY,lY⟩:=big_src HBX.o.2 HT.o.2.2 o_;have OK:=q_ (show DirOk r p q N X Y from ⟨HQ.o.1,HFI.o,o_,HHI.o.fit,HHI.o.fld,hp60,hX,hY⟩);have HXS:=q_ hxs;have HYS:=q_ hys;have HZ:=q_ (And.intro (And.intro zX lX) (And.intro zY lY));have H7:=q_ h7;have HPT:=q_ (put_D h7 hl7 hi7 OK.o HP.o (fun w1 Qs h1 _=>hxs w1 h1.fr) (fun w1 Qs h1 _=>hys w1 h1.fr) zX zY);clear h7 hl7 hi7 HN H6 t0 t1 t2 tl hX hY hxs hys zX zY lX lY HQ HFI;(try clear o4 o5 o6 o7 ol);obtain⟨o4,o5,o6,o7,ol⟩:=ob_ (show w7.heap[tb+1]?=some (.cells #[k0,k1,k2,k3,.bool xs,.slice xa xl.length xc,.bool ys,.slice ya yl.length yc,.bool zs,.slice za zl.length zc,kz] 32 (0,0)) from A5 H7.o (um_ (HHI.o.sub _ i_)));go_wp2_with fail;refine (HPT.o).mono ?_;rintro e w8 ⟨rfl,root1,ns1,h8,hl8,hi8⟩;have H8:=q_ h8;have HI8:=q_ (fun (_:Unit)=>And.intro hl8 hi8);clear h8 hl8 hi8 HPT H7 o4 o5 o6 o7 ol;go_wp2_with fail;refine (Ko (x:=(N:Int)) o_ o_).mono ?_;rintro e w9 ⟨v1,rfl,hb,hf⟩;have HRN:=q_ (run_D (w:=w8) H8.o (HI8.o ()).1 (HI8.o ()).2 OK.o HRU.o rfl rfl hb hf rfl);clear hb hf H8 HI8;go_wp2_with fail;refine (HRN.o).mono ?_;rintro e w10 ⟨rfl,root2,ga,gc,ns2,mm2,h10,hi10⟩;have H10:=q_ h10;have HI:=q_ (fun (_:Unit)=>hi10);clear h10 hi10 HRN;go_wp2_with fail;refine (Ko (x:=-32) o_ o_).mono ?_;rintro e w11 ⟨v2,rfl,hb,hf⟩;obtain⟨ss,sa,sn,sc,rfl⟩:∃ b a n c,v2=.agg #[.bool b,.slice a n c]:=(by obtain⟨a,c,hv,_⟩:=hb;exact⟨_,_,_,_,hv⟩);have h12:=ui_ (hAL (ui_ (zm_ (Ah H10.o) hf hb (Bb o_ o_))) #[.bool ss,.slice sa sn sc] 30);obtain⟨db,hdb⟩:∃ t,w11.heap.size=t:=⟨_,rfl⟩;obtain⟨w12,hw12⟩:∃ t,w11.alloc (.cells #[.bool ss,.slice sa sn sc] 30 (0,0))=t:=⟨_,rfl⟩
   rw [hdb,hw12] at h12;have H12:=q_ h12;clear h12 hb hf H10;(try clear o4 o5 o6 o7 ol);obtain⟨o4,o5,o6,o7,ol⟩:=ob_ (show w12.heap[tb+1]?=some (.cells #[k0,k1,k2,k3,.bool xs,.slice xa xl.length xc,.bool ys,.slice ya yl.length yc,.bool zs,.slice za zl.length zc,kz] 32 (0,0)) from A5 H12.o (um_ (by simp [HHI.o.sub])));(try clear d0 d1 dl);have h_:w12.heap[db]?=some (.cells #[.bool ss,.slice sa sn sc] 30 (0,0)):=A5 H12.o (um_ i_);obtain⟨d0,d1,dl⟩:=l2_ h_;clear h_;have HZ2:=q_ (show Zok (X+-32)∧Zok (Y+-32) from ⟨zok_near OK.o.hX,zok_near OK.o.hY⟩);have HAD:=q_ (RAddR_z (HXS.o w12 H12.o.fr) (zi_ (L:=[(.agg #[.bool ss,.slice sa sn sc],-32)]) (e:=(.agg #[.bool ss,.slice sa sn sc],-32)) H12.o (um_ i_) i_) HZ.o.1.1 (Bb o_ o_) HZ2.o.1 (by have:=HZ.o.1.2;omega) zd32);go_wp2_with fail;refine (HAD.o).mono ?_;clear hdb hw12;rintro e w13 ⟨v3,rfl,hb,hn3,hf⟩;obtain⟨fs,fa,fn,fc,rfl⟩:∃ b a n c,v3=.agg #[.bool b,.slice a n c]:=(by obtain⟨a,c,hv,_⟩:=hb;exact⟨_,_,_,_,hv⟩);have HN3:=q_ hn3;have h14:=ui_ (hAL (ui_ (zm_ (Ah H12.o) hf hb HZ2.o.1)) #[.bool fs,.slice fa fn fc] 30);obtain⟨fb,hfb⟩:∃ t,w13.heap.size=t:=⟨_,rfl⟩;obtain⟨w14,hw14⟩:∃ t,w13.alloc (.cells #[.bool fs,.slice fa fn fc] 30 (0,0))=t:=⟨_,rfl⟩;rw [hfb,hw14] at h14;have H14:=q_ h14;clear h14 hb hf hn3 H12 HAD o4 o5 o6 o7 ol d0 d1 dl;(try clear o4 o5 o6 o7 ol);obtain⟨o4,o5,o6,o7,ol⟩:=ob_ (show w14.heap[tb+1]?=some (.cells #[k0,k1,k2,k3,.bool xs,.slice xa xl.length xc,.bool ys,.slice ya yl.length yc,.bool zs,.slice za zl.length zc,kz] 32 (0,0)) from A5 H14.o (um_ (by simp [HHI.o.sub])));(try clear d0 d1 dl);have h_:w14.heap[db]?=some (.cells #[.bool ss,.slice sa sn sc] 30 (0,0)):=A5 H14.o (um_ i_);obtain⟨d0,d1,dl⟩:=l2_ h_
   clear h_;have HAD:=q_ (RAddR_z (HYS.o w14 H14.o.fr) (zi_ (L:=[(.agg #[.bool ss,.slice sa sn sc],-32)]) (e:=(.agg #[.bool ss,.slice sa sn sc],-32)) H14.o (um_ i_) i_) HZ.o.2.1 (Bb o_ o_) HZ2.o.2 (by have:=HZ.o.2.2;omega) zd32);go_wp2_with fail;refine (HAD.o).mono ?_;clear hfb hw14;rintro e w15 ⟨v4,rfl,hb,hn4,hf⟩;obtain⟨gs,ga9,gn,gc9,rfl⟩:∃ b a n c,v4=.agg #[.bool b,.slice a n c]:=by obtain⟨a,c,hv,_⟩:=hb;exact⟨_,_,_,_,hv⟩
   have h16:=ui_ (hAL (ui_ (zm_ (Ah H14.o) hf hb HZ2.o.2)) #[.bool gs,.slice ga9 gn gc9] 30);obtain⟨gb,hgb⟩:∃ t,w15.heap.size=t:=⟨_,rfl⟩;obtain⟨w16,hw16⟩:∃ t,w15.alloc (.cells #[.bool gs,.slice ga9 gn gc9] 30 (0,0))=t:=⟨_,rfl⟩;rw [hgb,hw16] at h16;have H16:=q_ h16;have HVW:=q_ (view_D h16 (HI.o ()) OK.o (fun w1 Qs h1 hm=>zi_ (e:=(.agg #[.bool fs,.slice fa fn fc],X+-32)) h1 (hm (zp_ [(.agg #[.bool fs,.slice fa fn fc],X+-32)]) i_) i_) (fun w1 Qs h1 hm=>zi_ (e:=(.agg #[.bool gs,.slice ga9 gn gc9],Y+-32)) h1 (hm (zp_ [(.agg #[.bool gs,.slice ga9 gn gc9],Y+-32)]) i_) i_) HN3.o hn4);clear h16 hb hf hn4 HN3 H14 HAD o4 o5 o6 o7 ol d0 d1 dl;(try clear f0 f1 fl);have h_:w16.heap[fb]?=some (.cells #[.bool fs,.slice fa fn fc] 30 (0,0)):=A5 H16.o (um_ i_);obtain⟨f0,f1,fl⟩:=l2_ h_;clear h_;(try clear g0 g1 gl);have h_:w16.heap[gb]?=some (.cells #[.bool gs,.slice ga9 gn gc9] 30 (0,0)):=A5 H16.o (um_ i_);obtain⟨g0,g1,gl⟩:=l2_ h_;clear h_;go_wp2_with fail;refine (HVW.o).mono ?_;clear hgb hw16;rintro e w17 ⟨va,rfl,h17⟩;have H17:=q_ h17;have HSH:=q_ (RShiftP_calls h17 (HHI.o.src.more fun P hP=>by simp [A6,A9,hP]) OK.o.fit2.right (fun c hc=>by have:=OK.o.wi c hc;omega));clear h17 HVW H16 f0 f1 fl g0 g1 gl;go_wp2_with fail;refine (HSH.o).mono ?_;rintro e w18 ⟨sa2,sc2,rfl,h18⟩;have hlq:(shP q).length=q.length:=List.length_map _;have h5:=(Cx OK.o.fit2.right).1;have hr1:=h18.swap.row;have hr2:=h18.row;rw [← hlq] at hr1 hr2;have hra:CellsAt w18 va (shP q):=Reads.of_owns hr1;have hrb:CellsAt w18 (.slice sa2 (shP q).length sc2) (shP q):=Reads.of_owns hr2;obtain⟨_,pa,pc,rfl,_⟩:=_root_.id hra;have hsm:=Same_p hra hrb o_ o_;rw [decide_eq_true rfl,hlq] at hsm;have HSM:=q_ hsm;have H18:=q_ h18;rw [hlq]
   clear hlq hr1 hr2 hra hrb hsm h18 H17 HSH;go_wp2_with fail;refine (HSM.o).mono ?_;rintro e w19 ⟨rfl,hf⟩;have HPO:=q_ (pop_N (H18.o.step hf).drop.drop (HI.o ()) (dir_pop OK.o.fit2.right OK.o.wi OK.o.fit2.st OK.o.hX OK.o.hY));clear hf HSM H18;go_wp2_with fail;refine (HPO.o).mono ?_;rintro e w20 ⟨pa1,pc1,rfl,h20⟩;have H20:=q_ h20;clear h20 HPO;go_wp2_with fail;refine (Ko (x:=(q.length:Int)) o_ o_).mono ?_;rintro e w21 ⟨v5,rfl,hb,hf⟩;have h21:=H20.o.step hf;have HB:=q_ (S4 (O8 (z:=(q.length:Int)) (a:=pa1) (c:=pc1) (ng:=false) h21 (decide_eq_false o_) List.mem_cons_self) hb (Bb o_ o_));have HF:=q_ h21.fr;clear h21 hb hf H20;go_wp2_with fail;refine (HB.o).mono ?_;rintro e w22 ⟨rfl,hf⟩;have HF:=q_ (HF.o.trans0 hf);clear hf HB;go_wp2_with fail;refine (awake_calls _).mono ?_;rintro e wz ⟨rfl,hfz⟩;have Hfz:=q_ (Fr.trans0 HF.o (Fr.trans0 (Fr.t) hfz));clear hfz;go_wp2;go_ret;exact⟨rfl,by have:=Hfz.o;exact Fr.t⟩
end Go.Proofs.YtebolidfbflkmaaGreat
namespace Go.Proofs.Lw
open Go Go.ChangeShapes Go.WideShapes Go.ChangeAt Go.RowKit Hp
theorem map_of_all {α β:Type} {f:β→α}:∀ {xs:List α},(∀ x∈xs,∃ k,x=f k)→∃ ks:List β,xs=ks.map f
 | [],_=>⟨[],rfl⟩
 | x::xs,h=>by obtain⟨k,rfl⟩:=h x i_;obtain⟨ks,rfl⟩:=map_of_all (xs:=xs) fun y hy=>h y (by simp [hy]);exact⟨k::ks,rfl⟩
end Go.Proofs.Lw
namespace Go.Proofs.YtebolidfbflkmaaGreat
open Go Go.ChangeShapes Go.WideShapes Go.ChangeAt Go.RowKit Hp Lw Ev Pt
section
variable {H:Type} {enc:TypeId×Value→H} {W:World} {fuel n c base:Nat} {a:Option Addr} {v:Value} {cs:List Value} {x:DataW H×List MemPlace} {d:DataW H} {ps:List MemPlace}
theorem open_pt (h:DataW.trod enc Tryz.prog W 0 (fun _=>true) true fuel 116 cs=some x):∃ p:Int×Int,cs=[.int .i64 p.1,.int .i64 p.2]:=by
 obtain⟨xs,n,rfl,rfl,hl,hn,hf⟩:=DataW.trod_struct Tryz.underlying116 h;have hl2:cs.length=2:=hl.trans k_;have hx2:xs.length=2:=hn;have h0:=hf 0 _ rfl;have h1:=hf 1 _ rfl;rw [List.getElem?_eq_getElem o_] at h0 h1;obtain⟨a,ha,_,_⟩:=DataW.trod_int Tryz.underlying3 h0;obtain⟨b,hb,_,_⟩:=DataW.trod_int Tryz.underlying3 h1
 match cs,hl2 with
 | [c0,c1],_ =>
  replace ha:[c0]=_:=ha
  replace hb:[c1]=_:=hb
  simp at ha hb;exact⟨(a,b),by rw [ha,hb]⟩
theorem open_pts (h:DataW.trod enc Tryz.prog W 0 (fun _=>true) true fuel 22 [.slice a n c]=some x):∃ l:List (Int×Int),l.length=n∧PtsAt W (.slice a l.length c) l:=by
 obtain⟨_,_,xs,hxl,hxs,_,hcell⟩:=open_rows Tryz.underlying22 (sz:=2) k_ o_ h;obtain⟨l,rfl⟩:=map_of_all (f:=fun p:Int×Int=>[Value.int .i64 p.1,.int .i64 p.2]) fun x hx=>by obtain⟨_,fuel,y,hy⟩:=hxs x hx;exact open_pt hy
 obtain rfl:l.length=n:=by simpa using hxl
 rw [← List.flatMap_def] at hcell;exact⟨l,rfl,pts_length l,a,c,rfl,hcell⟩
theorem sl_form {t e:TypeId} {v:Value} (hu:Tryz.prog.underlying t=some (.slice e)) (h:DataW.trod enc Tryz.prog W 0 (fun _=>true) true fuel t [v]=some x):∃ a n c,v=.slice a n c:=by rcases DataW.trod_slice hu h with ⟨h,_⟩|⟨a,len,cap,_,_,_,_,h,_⟩<;>(simp only [List.cons.injEq,and_true] at h;exact⟨_,_,_,h⟩)
theorem open_ints (h:DataW.trod enc Tryz.prog W 0 (fun _=>true) true fuel 72 [v]=some x):∃ l,IntsAt W v l:=by
 obtain⟨a,n,c,rfl⟩:=sl_form Tryz.underlying72 h;obtain⟨_,_,xs,hxl,hxs,_,hcell⟩:=open_rows Tryz.underlying72 (sz:=1) k_ o_ h;obtain⟨l,rfl⟩:=map_of_all (f:=fun n:Int=>[Value.int .i64 n]) fun x hx=>by obtain⟨_,fuel,y,hy⟩:=hxs x hx;obtain⟨z,rfl,_⟩:=DataW.trod_int Tryz.underlying3 hy;exact⟨z,rfl⟩
 obtain rfl:l.length=n:=by simpa using hxl
 have e:∀ l:List Int,(l.map fun x:Int=>[Value.int .i64 x]).flatten=iv l:=fun l=>by
  induction l with
  | nil=>rfl
  | cons x l ih=>rw [List.map_cons,List.flatten_cons,ih];rfl
 rw [e] at hcell;exact⟨l,by simp [iv],a,c,rfl,hcell⟩
theorem open_nd (h:DataW.trod enc Tryz.prog W 0 (fun _=>true) true fuel 118 cs=some x):∃ q:{q:(Int×List Int)×Value // IntsAt W q.2 q.1.2},cs=[.int .i64 q.1.1.1,q.1.2]:=by
 obtain⟨xs,n,rfl,rfl,hl,hn,hf⟩:=DataW.trod_struct Tryz.underlying118 h;have hl2:cs.length=2:=hl.trans k_;have hx2:xs.length=2:=hn;have h0:=hf 0 _ rfl;have h1:=hf 1 _ rfl;rw [List.getElem?_eq_getElem o_] at h0 h1;obtain⟨a,ha,_,_⟩:=DataW.trod_int Tryz.underlying3 h0
 match cs,hl2 with
 | [c0,c1],_ =>
  replace ha:[c0]=_:=ha
  simp at ha;obtain⟨l,hr⟩:=open_ints (v:=c1) h1;exact⟨⟨((a,l),c1),hr⟩,by rw [ha]⟩
theorem open_nds (h:DataW.trod enc Tryz.prog W 0 (fun _=>true) true fuel 23 [.slice a n c]=some x):∃ l:List (Int×List Int),l.length=n∧NodesAt W (.slice a l.length c) l:=by
 obtain⟨_,_,xs,hxl,hxs,_,hcell⟩:=open_rows Tryz.underlying23 (sz:=2) k_ o_ h;obtain⟨L,rfl⟩:=map_of_all (f:=fun q:{q:(Int×List Int)×Value // IntsAt W q.2 q.1.2}=>[Value.int .i64 q.1.1.1,q.1.2]) fun x hx=>by obtain⟨_,fuel,y,hy⟩:=hxs x hx;exact open_nd hy
 obtain rfl:L.length=n:=by simpa using hxl
 have e:∀ L:List {q:(Int×List Int)×Value // IntsAt W q.2 q.1.2},(L.map fun q=>[Value.int .i64 q.1.1.1,q.1.2]).flatten=S0 (L.map fun q=>q.1.1) (L.map fun q=>q.1.2)∧(S0 (L.map fun q=>q.1.1) (L.map fun q=>q.1.2)).length=L.length*2:=fun L=>by
  induction L with
  | nil=>exact⟨rfl,rfl⟩
  | cons q L ih=>exact⟨by rw [List.map_cons,List.flatten_cons,ih.1];rfl,by have:=ih.2;simp only [S0,List.map_cons,List.zip_cons_cons,List.flatMap_cons,List.length_append,List.length_cons,List.length_nil] at this ⊢;omega⟩
 rw [(e L).1] at hcell;refine⟨L.map fun q=>q.1.1,i_,L.map fun q=>q.1.2,⟨by rw [(e L).2,List.length_map],a,c,by rw [List.length_map],by rw [List.length_map];exact hcell⟩,fun i x hi=>?_⟩;rw [List.getElem?_map,Option.map_eq_some_iff] at hi;obtain⟨q,hq,rfl⟩:=hi;exact⟨q.1.2,by rw [List.getElem?_map,hq];rfl,q.2⟩
theorem arr3 {α:Type} {cs:Array α} (h:cs.size=3):∃ a b c,cs=#[a,b,c]:=⟨cs[0],cs[1],cs[2],by apply Array.ext<;>simp [h];intro i hi;match i,hi with|0,_=>intro _;rfl|1,_=>intro _;rfl|2,_=>intro _;rfl⟩
theorem open_tr (hval:Value.okWide Tryz.prog W .any base 25 v) (h:DataW.Trod enc Tryz.prog W 0 (fun _=>true) true 25 v d ps) :
  ∃ (r:Rule) (ha na:Option Addr) (hc nc:Nat),v=.agg #[.int .i64 r.S,.slice ha r.hood.length hc,.slice na r.nodes.length nc]∧RuleAt W (.slice ha r.hood.length hc) (.slice na r.nodes.length nc) r:=by
 obtain⟨cs,rfl,hsz⟩:=okWide_struct Tryz.underlying25 hval;obtain⟨fuel,hf⟩:=h;obtain⟨xs,n,rfl,_,_,hn,hf⟩:=DataW.trod_struct Tryz.underlying25 hf;obtain⟨c0,c1,c2,rfl⟩:=arr3 (hsz.trans k_);have hx3:xs.length=3:=hn;have h0:=hf 0 _ rfl;have h1:=hf 1 _ rfl;have h2:=hf 2 _ rfl;rw [List.getElem?_eq_getElem o_] at h0 h1 h2;obtain⟨s,hs,_,_⟩:=DataW.trod_int Tryz.underlying3 h0
 replace hs:[c0]=_:=hs
 simp only [List.cons.injEq,and_true] at hs;subst hs;obtain⟨a1,n1,k1,rfl⟩:=sl_form (v:=c1) Tryz.underlying22 h1;obtain⟨a2,n2,k2,rfl⟩:=sl_form (v:=c2) Tryz.underlying23 h2;obtain⟨hood,rfl,hp⟩:=open_pts (a:=a1) (c:=k1) h1;obtain⟨nodes,rfl,hq⟩:=open_nds (a:=a2) (c:=k2) h2;exact⟨⟨s,hood,nodes⟩,a1,a2,k1,k2,rfl,hp,hq⟩
theorem open_cl (h:DataW.trod enc Tryz.prog W 0 (fun _=>true) true fuel 41 cs=some x):∃ k:PC,cs=[.int .i64 k.x,.int .i64 k.y,.int .i64 k.st]:=by
 obtain⟨xs,n,rfl,rfl,hl,hn,hf⟩:=DataW.trod_struct Tryz.underlying41 h;have hl3:cs.length=3:=hl.trans k_;have hx3:xs.length=3:=hn
 match cs,hl3 with
 | [c0,c1,c2],_ =>
  have h0:=hf 0 _ rfl;have h1:=hf 1 _ rfl;have h2:=hf 2 _ rfl;rw [List.getElem?_eq_getElem o_] at h0 h1 h2;obtain⟨a,ha,_⟩:=DataW.trod_int Tryz.underlying3 h0;obtain⟨b,hb,_⟩:=DataW.trod_int Tryz.underlying3 h1;obtain⟨c,hc,_⟩:=DataW.trod_int Tryz.underlying3 h2
  replace ha:[c0]=_:=ha
  replace hb:[c1]=_:=hb
  replace hc:[c2]=_:=hc
  simp at ha hb hc;exact⟨⟨a,b,c⟩,by rw [ha,hb,hc]⟩
theorem open_pattern (hval:Value.okWide Tryz.prog W .any base 27 v) (h:DataW.Trod enc Tryz.prog W 0 (fun _=>true) true 27 v d ps):∃ a c p,v=.slice a (List.length p) c∧CellsAt W (.slice a p.length c) p:=by
 obtain⟨fuel,hf⟩:=h;obtain⟨a,len,c,rfl⟩:=okWide_slice Tryz.underlying27 hval;obtain⟨_,_,xs,hxl,hxs,_,hcell⟩:=open_rows Tryz.underlying27 (sz:=3) k_ o_ hf;obtain⟨p,rfl⟩:=map_of_all (f:=fun k:PC=>[Value.int .i64 k.x,.int .i64 k.y,.int .i64 k.st]) fun x hx=>by obtain⟨_,fuel,y,hy⟩:=hxs x hx;exact open_cl hy
 obtain rfl:p.length=len:=by simpa using hxl
 have e:∀ l:List PC,(l.map fun k:PC=>[Value.int .i64 k.x,.int .i64 k.y,.int .i64 k.st]).flatten=pcs l∧(pcs l).length=l.length*3:=fun l=>by
  induction l with
  | nil=>exact⟨rfl,rfl⟩
  | cons k l ih=>exact⟨by rw [List.map_cons,List.flatten_cons,ih.1];rfl,by have:=ih.2;simp only [pcs,List.flatMap_cons,List.length_append,List.length_cons,List.length_nil] at this ⊢;omega⟩
 rw [(e p).1] at hcell;exact⟨a,c,p,rfl,(e p).2,a,c,rfl,hcell⟩
end
end Go.Proofs.YtebolidfbflkmaaGreat
namespace Go.Proofs.YtebolidfbflkmaaGreat
open Go Go.ChangeShapes Go.WideShapes Go.ChangeAt Go.RowKit Hp Lw Bn
section
variable {H:Type} {enc:TypeId×Value→H} {W:World} {fuel n c base:Nat} {a:Option Addr} {v:Value} {cs:List Value} {x:DataW H×List MemPlace} {d:DataW H} {ps:List MemPlace}
theorem open_bg (h:DataW.trod enc Tryz.prog W 0 (fun _=>true) true fuel 30 cs=some x):∃ (neg:Bool) (a:Option Addr) (c:Nat) (L:List Nat),cs=[.bool neg,.slice a L.length c]∧Reads W (.slice a L.length c) L.length 1 (Aw L)∧Dig 4294967296 L∧L.length≤c∧c≤maxLen:=by
 obtain⟨xs,n,rfl,rfl,hl,hn,hf⟩:=DataW.trod_struct Tryz.underlying30 h;have hl2:cs.length=2:=hl.trans k_;have hx2:xs.length=2:=hn
 match cs,hl2 with
 | [c0,c1],_ =>
  have h0:=hf 0 _ rfl;have h1:=hf 1 _ rfl;rw [List.getElem?_eq_getElem o_] at h0 h1;obtain⟨s,hs,_⟩:=DataW.trod_bool Tryz.underlying4 h0
  replace hs:[c0]=_:=hs
  simp only [List.cons.injEq,and_true] at hs;subst hs;obtain⟨a,m,c,rfl⟩:=sl_form (v:=c1) Tryz.underlying28 h1;obtain⟨hlc,hcm,xs,hxl,hxs,_,hcell⟩:=open_rows (a:=a) (n:=m) (c:=c) Tryz.underlying28 (sz:=1) k_ o_ h1;obtain⟨L,rfl⟩:=map_of_all (f:=fun k:{k:Nat // k<4294967296}=>[Value.int .u32 (k.1:Int)]) fun x hx=>by obtain⟨_,fuel,y,hy⟩:=hxs x hx;obtain⟨z,rfl,_,hwf⟩:=DataW.trod_int Tryz.underlying75 hy;have hb:0≤z∧z≤4294967295:=(by simpa [Lit.wf,IntKind.min,IntKind.max,IntKind.signed,IntKind.bits] using hwf);exact⟨⟨z.toNat,o_⟩,by rw [Int.toNat_of_nonneg hb.1]⟩
  obtain rfl:L.length=m:=by simpa using hxl
  have e:∀ L:List {k:Nat // k<4294967296},(L.map fun k=>[Value.int .u32 (k.1:Int)]).flatten=Aw (L.map fun k=>k.1):=fun L=>by
   induction L with
   | nil=>rfl
   | cons k L ih=>rw [List.map_cons,List.flatten_cons,ih];rfl
  rw [e] at hcell;refine⟨s,a,c,L.map fun k=>k.1,by rw [List.length_map],⟨by simp [Aw],a,c,rfl,by rw [List.length_map];exact hcell⟩,fun d hd=>?_,by rw [List.length_map];exact hlc,hcm⟩;obtain⟨k,_,rfl⟩:=List.mem_map.1 hd;exact k.2
theorem open_op (hval:Value.okWide Tryz.prog W .any base 32 v) (h:DataW.Trod enc Tryz.prog W 0 (fun _=>true) true 32 v d ps) :
  ∃ (k0 k1 k2 k3 z:Value) (xs ys zs:Bool) (xa ya za:Option Addr) (xc yc zc:Nat) (xl yl zl:List Nat),v=.agg #[k0,k1,k2,k3,.bool xs,.slice xa xl.length xc,.bool ys,.slice ya yl.length yc,.bool zs,.slice za zl.length zc,z]∧BigIn W xs xl xa xc∧BigIn W ys yl ya yc∧BigIn W zs zl za zc:=by
 obtain⟨cs,rfl,hsz⟩:=okWide_struct Tryz.underlying32 hval;have hs11:cs.size=11:=hsz.trans k_;obtain⟨fuel,hf⟩:=h;obtain⟨xs,n,rfl,_,_,hn,hf⟩:=DataW.trod_struct Tryz.underlying32 hf;have hx8:xs.length=8:=hn;rcases cs with ⟨cs⟩
 match cs,hs11 with
 | [c0,c1,c2,c3,c4,c5,c6,c7,c8,c9,c10],_ =>
  have h4:=hf 4 _ rfl;have h5:=hf 5 _ rfl;have h6:=hf 6 _ rfl;rw [List.getElem?_eq_getElem o_] at h4 h5 h6;obtain⟨xn,xa,xc,xl,ex,x1,x2,x3,x4⟩:=open_bg h4;obtain⟨yn,ya,yc,yl,ey,y1,y2,y3,y4⟩:=open_bg h5;obtain⟨zn,za,zc,zl,ez,z1,z2,z3,z4⟩:=open_bg h6
  replace ex:[c4,c5]=_:=ex
  replace ey:[c6,c7]=_:=ey
  replace ez:[c8,c9]=_:=ez
  simp only [List.cons.injEq,and_true] at ex ey ez;obtain⟨rfl,rfl⟩:=ex;obtain⟨rfl,rfl⟩:=ey;obtain⟨rfl,rfl⟩:=ez;exact⟨_,_,_,_,_,xn,yn,zn,xa,ya,za,xc,yc,zc,xl,yl,zl,rfl,⟨x1,x2,x3,Nat.le_trans x3 x4⟩,⟨y1,y2,y3,Nat.le_trans y3 y4⟩,⟨z1,z2,z3,Nat.le_trans z3 z4⟩⟩
end
end Go.Proofs.YtebolidfbflkmaaGreat
