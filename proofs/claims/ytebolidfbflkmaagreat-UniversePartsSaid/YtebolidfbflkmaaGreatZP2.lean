/- Own texts of this claim, part 42: no condition. -/
import Derived.ProofKit
import Derived.OpenShut
import Derived.Deep.Slices
import Derived.Test.YtebolidfbflkmaaGreatZN36
import Derived.Test.YtebolidfbflkmaaGreatZN37
import Derived.Test.YtebolidfbflkmaaGreatZP1
set_option linter.unusedVariables false
set_option linter.unusedSimpArgs false
set_option maxHeartbeats 16000000
set_option maxRecDepth 100000
section
namespace Go.Proofs.YtebolidfbflkmaaGreat
open Go Go.RowKit Rg Mp Hp Qs Ev Bn Uni Pt
theorem PSt.row {W w:World} {C:List Res} {r:Rule} {hv nv:Value} {ub vb:Nat} {F G:Fld} {m n bu bv:Nat} (h:PSt W w C r hv nv ub vb F G m n bu bv) {v:Value} {q:List PC} (hm:Hp.row 41 3 v q.length (pcs q)∈C):CellsAt w v q:=by obtain⟨mb,sb,rb,root,ga,gc,ns,mm,mb',sb',rb',root',ga',gc',ms,nn,h1,h2⟩:=h;obtain⟨G,h3,_⟩:=has_mem h1 (um_ (um_ hm));exact Reads.of_owns h3
theorem pop_P {W w:World} {U:UP} {ns:List K4} {mm:List ((Int×Int)×Int)} {Ps:List Res} {F:Fld} {P:Nat} (h:Has W w (uniL U ns mm Ps)) (hi:Is U.r.S ns 201 U.root (mid 200 F)) (hP:popT (mid 200 F)=P) :
  Calls Tryz.prog 22 #[.pointer (some ⟨U.ub,0,none⟩)] w fun e w'=>∃ a c,e=.returned (.agg #[.bool false,.slice a (zd (P:Int)).length c])∧Has W w' (bigR false (zd (P:Int)) a c::uniL U ns mm Ps):=by
 have:=pop_u h hi;rw [hP] at this;exact this
theorem pop_ex {s:Int} {ns:List K4} {id:Int} {F:Fld} (hi:Is s ns 201 id (mid 200 F)):∃ P,popT (mid 200 F)=P∧Zok (P:Int):=⟨_,rfl,pop_zok o_ hi.2.2.1⟩
theorem UniverseParts_calls {w:World} {r:Rule} {ha na:Option Addr} {hc nc:Nat} (hru:RuleAt w (.slice ha r.hood.length hc) (.slice na r.nodes.length nc) r) {p:List PC} {a:Option Addr} {c:Nat} (hp:CellsAt w (.slice a p.length c) p) {k l:Nat} (hkl:k≤255∧l≤255) :
  Calls Tryz.prog 5 #[.agg #[.int .i64 r.S,.slice ha r.hood.length hc,.slice na r.nodes.length nc],.slice a p.length c,.agg #[.int .u8 (k:Int),.int .u8 (l:Int)]] w fun e w'=>e=.returned (.bool true)∧Fr [] w w':=by
 have HRU:=q_ hru;have HP:=q_ hp;have HSM:=q_ (fun w' (hf:Fr [] w w')=>LSmall_calls (p:=p) (a:=a) (c:=c) (hru.fr hf));have h0:=((Has.nil (Fr.refl [] w)).newBlk (.cells #[.int .i64 r.S,.slice ha r.hood.length hc,.slice na r.nodes.length nc] 25 (0,0))).newBlk (.cells #[.int .u8 (k:Int),.int .u8 (l:Int)] 61 (0,0));simp only [hAz] at h0;have H0:=q_ h0;obtain⟨T,hT⟩:∃ T,smallP r p=T:=⟨_,rfl⟩;rw [hT] at HSM;have HT:=q_ hT;clear hru hp hT h0;go_enter Tryz.func5,Tryz.ntmps5;go_wp2_with fail;refine (HSM.out _ (Fr.t)).mono ?_;rintro e w1 ⟨rfl,hf1⟩;have h1:=H0.out.step (Fr.trans0 (Fr.t) hf1);obtain⟨tb,htb⟩:∃ t,w.heap.size=t:=⟨_,rfl⟩;rw [htb] at h1 ⊢;have H1:=q_ h1;clear h1 hf1 htb H0 HSM;(try clear t0 t1 t2 tl);have ht_:w1.heap[tb]?=some (.cells #[.int .i64 r.S,.slice ha r.hood.length hc,.slice na r.nodes.length nc] 25 (0,0)):=hBk_ H1.out i_;obtain⟨t0,t1,t2,tl⟩:=l3_ ht_;clear ht_;(try clear n0 n1 nl);have hn_:w1.heap[tb+1]?=some (.cells #[.int .u8 (k:Int),.int .u8 (l:Int)] 61 (0,0)):=hBk_ H1.out i_;obtain⟨n0,n1,nl⟩:=l2_ hn_;clear hn_;cases T with
 | false =>go_wp2_with fail;refine (awake_calls _).mono ?_;rintro e wz ⟨rfl,hfz⟩;have Hfz:=q_ (Fr.trans0 H1.out.fr (Fr.trans0 (Fr.t) hfz));clear hfz;go_wp2;go_ret;exact⟨rfl,by have:=Hfz.out;exact Fr.t⟩
 | true =>
 have hsm:=HT.out;unfold smallP at hsm;rw [Bool.and_eq_true,decide_eq_true_eq] at hsm;obtain⟨hfew,hp60⟩:=hsm;have hlen2:r.hood.length≤1000000∧r.nodes.length≤1000000:=by unfold few12 at hfew;simp only [Bool.and_eq_true,decide_eq_true_eq] at hfew;omega
 obtain⟨hlh,hln⟩:=hlen2;clear hfew;by_cases hk5:5<k;·
  go_wp2_with fail;refine (awake_calls _).mono ?_;rintro e wz ⟨rfl,hfz⟩;have Hfz:=q_ (Fr.trans0 H1.out.fr (Fr.trans0 (Fr.t) hfz));clear hfz;go_wp2;go_ret;exact⟨rfl,by have:=Hfz.out;exact Fr.t⟩
 by_cases hl5:5<l;·
  go_wp2_with fail;refine (awake_calls _).mono ?_;rintro e wz ⟨rfl,hfz⟩;have Hfz:=q_ (Fr.trans0 H1.out.fr (Fr.trans0 (Fr.t) hfz));clear hfz;go_wp2;go_ret;exact⟨rfl,by have:=Hfz.out;exact Fr.t⟩
 go_wp2;go_loopw [34] (fun x wr=>∃ i:Nat,x=.int .i64 i∧i≤p.length∧Hid (∀ j q,j<i→p[j]?=some q→-10≤q.x∧q.x≤10∧-10≤q.y∧q.y≤10)∧wr=w1) (fun z _=>p.length - (intOf z).toNat);case atStart=>exact⟨0,rfl,o_,q_ (fun j q hj=>by omega),rfl⟩
 case round =>
  obtain⟨i,rfl,hi,HE,rfl⟩:=hrel;by_cases hlt:i<p.length;·
   obtain⟨q,hq⟩:∃ q,p[i]?=some q:=⟨_,List.getElem?_eq_getElem hlt⟩;obtain⟨g,off,hga,hg,c0,c1,c2⟩:=CellsAt.cell (HP.out.fr H1.out.fr) hq;have HGA:=q_ hga;have HQ:=q_ hq;clear hq;rw [HGA.out];rcases (by omega:q.x < -10∨(¬ q.x < -10∧10<q.x)∨((¬ q.x < -10∧¬ 10<q.x)∧q.y < -10)∨((¬ q.x < -10∧¬ 10<q.x)∧¬ q.y < -10∧10<q.y)∨(¬ q.x < -10∧¬ 10<q.x)∧¬ q.y < -10∧¬ 10<q.y) with b1|⟨b1,b2⟩|⟨⟨b1,b2⟩,b3⟩|⟨⟨b1,b2⟩,b3,b4⟩|⟨⟨b1,b2⟩,b3,b4⟩
   iterate 4
    ·go_wp2_with fail;refine (awake_calls _).mono ?_;rintro e wz ⟨rfl,hfz⟩;have Hfz:=q_ (Fr.trans0 H1.out.fr (Fr.trans0 (Fr.t) hfz));clear hfz;go_wp2;go_ret;exact⟨rfl,by have:=Hfz.out;exact Fr.t⟩
   have HE':=q_ (show ∀ j q,j<i+1→p[j]?=some q→-10≤q.x∧q.x≤10∧-10≤q.y∧q.y≤10 from fun j s hj hs=>by
    by_cases e:j=i
    ·subst e
     rw [HQ.out] at hs
     obtain rfl:=Option.some.inj hs
     omega
    ·exact HE.out j s o_ hs)
   clear HE;go_wp2;go_roundw;case rel=>exact⟨i+1,by go_num,o_,HE',trivial⟩
   case measure=>simp [intOf];omega
  ·obtain rfl:i=p.length:=o_;have HBX:=q_ (show inT p from fun q hq=>by
    obtain⟨j,hj⟩:=List.getElem?_of_mem hq
    exact HE.out j q (List.getElem?_eq_some_iff.1 hj).1 hj)
   clear HE;have hn:Calls Tryz.prog 13 #[.agg #[.int .i64 r.S,.slice ha r.hood.length hc,.slice na r.nodes.length nc]] wr _:=new_u (RuleSrc.base HRU.out) hlh hln H1.out;have HN:=q_ hn;clear hn;go_wp2_with fail;refine (HN.out).mono ?_;rintro e w2 (⟨hq,rfl,h2⟩|⟨hq,ub,mb,sb,rb,root,ns,rfl,h2,hl2,hi2⟩);·
    have H2:=q_ h2;have hn:Calls Tryz.prog 13 #[.agg #[.int .i64 r.S,.slice ha r.hood.length hc,.slice na r.nodes.length nc]] w2 _:=new_u (RuleSrc.base HRU.out) hlh hln H2.out;have HN2:=q_ hn;have HQ:=q_ hq;clear hn h2 HN H1 hq;(try clear t0 t1 t2 tl);have ht_:w2.heap[tb]?=some (.cells #[.int .i64 r.S,.slice ha r.hood.length hc,.slice na r.nodes.length nc] 25 (0,0)):=hBk_ H2.out i_;obtain⟨t0,t1,t2,tl⟩:=l3_ ht_;clear ht_;go_wp2_with fail;refine (HN2.out).mono ?_;rintro e w3 (⟨_,rfl,h3⟩|⟨hq',_⟩);·
     have H3:=q_ h3;clear h3 HN2 H2;go_wp2_with fail;refine (awake_calls _).mono ?_;rintro e wz ⟨rfl,hfz⟩;have Hfz:=q_ (Fr.trans0 H3.out.fr (Fr.trans0 (Fr.t) hfz));clear hfz;go_wp2;go_ret;exact⟨rfl,by have:=Hfz.out;exact Fr.t⟩
    ·rw [HQ.out] at hq';cases hq'
   ·have H2:=q_ h2;have hn:Calls Tryz.prog 13 #[.agg #[.int .i64 r.S,.slice ha r.hood.length hc,.slice na r.nodes.length nc]] w2 _:=new_u (RuleSrc.base HRU.out) hlh hln H2.out;have HN2:=q_ hn;have HQ:=q_ hq;have HI2:=q_ (fun (_:Unit)=>And.intro hl2 hi2);clear hn h2 HN H1 hq hl2 hi2;(try clear t0 t1 t2 tl);have ht_:w2.heap[tb]?=some (.cells #[.int .i64 r.S,.slice ha r.hood.length hc,.slice na r.nodes.length nc] 25 (0,0)):=hBk_ H2.out (um_ i_);obtain⟨t0,t1,t2,tl⟩:=l3_ ht_;clear ht_;go_wp2_with fail;refine (HN2.out).mono ?_;rintro e w3 (⟨hq',_⟩|⟨_,vb,mb',sb',rb',root',ms,rfl,h3,hl3,hi3⟩);·rw [HQ.out] at hq';cases hq'
    have H3:=q_ h3;have HI3:=q_ (fun (_:Unit)=>And.intro hl3 hi3);clear h3 HN2 H2 hl3 hi3 t0 t1 t2 tl n0 n1 nl;go_wp2_with fail;refine (RFrom_z (x:=0) o_ o_).mono ?_;rintro e w4 ⟨v0,rfl,hb,hf⟩;obtain⟨zs,za,zn,zc,rfl⟩:∃ b a n c,v0=.agg #[.bool b,.slice a n c]:=(by obtain⟨a,c,hv,_⟩:=hb;exact⟨_,_,_,_,hv⟩);have h5:=hAL (zm_ (zpool_nil H3.out) hf hb (zok_int o_ o_)) #[.bool zs,.slice za zn zc] 30;obtain⟨zb,hzb⟩:∃ t,w4.heap.size=t:=⟨_,rfl⟩;rw [hzb] at h5;obtain⟨w5,hw5⟩:∃ t,w4.alloc (.cells #[.bool zs,.slice za zn zc] 30 (0,0))=t:=⟨_,rfl⟩;rw [hw5] at h5;have H5:=q_ (show PSt w w5 [Hp.blk zb (.cells #[.bool zs,.slice za zn zc] 30 (0,0)),zp_ [(.agg #[.bool zs,.slice za zn zc],0)],Hp.blk (tb+1) (.cells #[.int .u8 (k:Int),.int .u8 (l:Int)] 61 (0,0)),Hp.blk tb (.cells #[.int .i64 r.S,.slice ha r.hood.length hc,.slice na r.nodes.length nc] 25 (0,0))] r (.slice ha r.hood.length hc) (.slice na r.nodes.length nc) ub vb (fun _ _=>0) (fun _ _=>0) 0 0 201 201 from
     ⟨_,_,_,_,_,_,_,_,_,_,_,_,_,_,_,_,h5.ord 12 [7,8,9,10,11,2,3,4,5,6,0,1],⟨(HI2.out ()).2,(HI2.out ()).1,fun id k v h=>by simp [get?] at h⟩,(HI3.out ()).2,(HI3.out ()).1,fun id k v h=>by simp [get?] at h⟩)
    clear h5 hb hf H3 HI2 HI3;(try clear z0 z1 zl);have hz_:w5.heap[zb]?=some (.cells #[.bool zs,.slice za zn zc] 30 (0,0)):=H5.out.blk i_;obtain⟨z0,z1,zl⟩:=l2_ hz_;clear hz_;by_cases hgood:rightP p=true∧topP p<r.S;case neg =>have HPQ:=q_ (put_Q (z:=.agg #[.bool zs,.slice za zn zc]) H5.out hp60 (fun hr ht=>hgood ⟨hr,ht⟩) HP.out i_);go_wp2_with fail;refine (HPQ.out).mono ?_;rintro e w6 ⟨x,rfl,hne,hf⟩;have HF6:=q_ hf;have hxx:(x != 0)=true:=(by simpa using hne);clear HPQ H5 z0 z1 zl hf hne hw5 hzb;go_wp2_with fail;refine (awake_calls _).mono ?_;rintro e wz ⟨rfl,hfz⟩;have Hfz:=q_ (Fr.trans0 HF6.out (Fr.trans0 (Fr.t) hfz));clear hfz;go_wp2;go_ret;exact⟨rfl,by have:=Hfz.out;exact Fr.t⟩
    have ok:PartOk r p:=⟨HQ.out,hgood.1,(topP_lt (by have:=right_S (quiet_parts HQ.out).1;omega)).1 hgood.2,HBX.out,hlh,hln,hp60⟩;have OK:=q_ ok;have HPU:=q_ (put_P (z:=.agg #[.bool zs,.slice za zn zc]) H5.out ok HP.out i_);clear hgood ok hlh hln hp60 HBX HQ;go_wp2_with fail;refine (HPU.out).mono ?_;clear hw5 hzb;rintro e w6 ⟨rfl,h6⟩;have H6:=q_ h6;clear h6 HPU H5;(try clear z0 z1 zl);have hz_:w6.heap[zb]?=some (.cells #[.bool zs,.slice za zn zc] 30 (0,0)):=H6.out.blk i_;obtain⟨z0,z1,zl⟩:=l2_ hz_;clear hz_;have HPV:=q_ (put_P (z:=.agg #[.bool zs,.slice za zn zc]) H6.out.swap OK.out HP.out i_);go_wp2_with fail;refine (HPV.out).mono ?_;rintro e w7 ⟨rfl,h7⟩;have H7:=q_ h7.swap;clear h7 HPV H6 z0 z1 zl;(try clear n0 n1 nl);have hn_:w7.heap[tb+1]?=some (.cells #[.int .u8 (k:Int),.int .u8 (l:Int)] 61 (0,0)):=H7.out.blk i_;obtain⟨n0,n1,nl⟩:=l2_ hn_;clear hn_;go_wp2_with fail;refine (RFrom_z (x:=(k:Int)) o_ o_).mono ?_;rintro e w8 ⟨v1,rfl,hb,hf⟩;have HR:=q_ (run_P (w:=w7) H7.out OK.out.quiet HRU.out hb hf (B:=21) (x:=-10) o_ OK.out.hold (OK.out.hold10 (n:=0) o_) (OK.out.hold10 (n:=k) o_) o_ (Nat.le_trans (runL_le5 _ _ _ _ o_) o_) o_ o_);clear hb hf H7 n0 n1 nl;go_wp2_with fail;refine (HR.out).mono ?_;rintro e w9 ⟨rfl,h9⟩;have HC:=q_ (coll_P h9 OK.out o_ HRU.out);clear h9 HR;go_wp2_with fail;refine (HC.out).mono ?_;rintro e w10 ⟨rfl,h10⟩;have H10:=q_ h10;clear h10 HC;(try clear n0 n1 nl);have hn_:w10.heap[tb+1]?=some (.cells #[.int .u8 (k:Int),.int .u8 (l:Int)] 61 (0,0)):=H10.out.blk i_;obtain⟨n0,n1,nl⟩:=l2_ hn_;clear hn_;go_wp2_with fail;refine (RFrom_z (x:=(l:Int)) o_ o_).mono ?_;rintro e w11 ⟨v2,rfl,hb,hf⟩
    have hfl:it (gen r) l (it (gen r) k (fP p))=it (gen r) (k+l) (fP p):=(by rw [← it_add,Nat.add_comm]);have hr2:=run_P (w:=w10) H10.out OK.out.quiet HRU.out hb hf (B:=41) (x:=-20) o_ (OK.out.hold5 (n:=k) o_) (OK.out.hold10 (n:=k) o_) (by rw [hfl];exact OK.out.hold10 (n:=k+l) o_) o_ (runL_le41 _ _ _ _ o_) o_ o_;rw [hfl,show 0+k+l=k+l by omega] at hr2;have HR:=q_ hr2;clear hb hf H10 n0 n1 nl hr2 hfl;go_wp2_with fail;refine (HR.out).mono ?_;rintro e w12 ⟨rfl,h12⟩;have H12:=q_ h12.swap;clear h12 HR;(try clear n0 n1 nl);have hn_:w12.heap[tb+1]?=some (.cells #[.int .u8 (k:Int),.int .u8 (l:Int)] 61 (0,0)):=H12.out.blk i_;obtain⟨n0,n1,nl⟩:=l2_ hn_;clear hn_;go_wp2_with fail;refine (RFrom_z (x:=(k:Int)+l) o_ o_).mono ?_;rintro e w13 ⟨v3,rfl,hb,hf⟩;have hb':BigZ w13 (w12.heap.size≤·) v3 ((k+l:Nat):Int):=(by rw [Int.natCast_add];exact hb);have hr3:=run_P (w:=w12) H12.out OK.out.quiet HRU.out hb' hf (B:=21) (x:=-10) o_ OK.out.hold (OK.out.hold10 (n:=0) o_) (OK.out.hold10 (n:=k+l) o_) o_ (Nat.le_trans (runL_le _ _ _ _ o_) o_) o_ o_;rw [Nat.zero_add] at hr3;have HR:=q_ hr3;clear hb hb' hf H12 n0 n1 nl hr3;go_wp2_with fail;refine (HR.out).mono ?_;rintro e w14 ⟨rfl,h14⟩;have H14:=q_ h14.swap;clear h14 HR;obtain⟨q,hq5,hfrom,hvl⟩:=win_ok (OK.out.hold10 (n:=k+l) o_) (fun x y=>by have:=OK.out.states (k+l) x y;have:=right_S (quiet_parts OK.out.quiet).1;omega);have HQ:=q_ (fun (_:Unit)=>And.intro hfrom hvl);have HQ5:=q_ hq5;clear hfrom hvl hq5;go_wp2_with fail;refine (RFrom_z (x:=-64) o_ o_).mono ?_;rintro e w15 ⟨x1,rfl,hb1,hf1⟩;have HB1:=q_ (And.intro hb1 hf1);clear hb1 hf1;go_wp2_with fail;refine (RFrom_z (x:=-64) o_ o_).mono ?_
    rintro e w16 ⟨x2,rfl,hb2,hf2⟩;have HV:=q_ (view_P (w:=w14) (w1:=w15) H14.out HB1.out.1 HB1.out.2 hb2 hf2 (HQ.out ()).1 (HQ.out ()).2);clear hb2 hf2 HB1 H14;go_wp2_with fail;refine (HV.out).mono ?_;rintro e w17 ⟨va,rfl,h17⟩;have H17:=q_ h17.swap;clear h17 HV;go_wp2_with fail;refine (RFrom_z (x:=-64) o_ o_).mono ?_;rintro e w18 ⟨x1,rfl,hb1,hf1⟩;have HB1:=q_ (And.intro hb1 hf1);clear hb1 hf1;go_wp2_with fail;refine (RFrom_z (x:=-64) o_ o_).mono ?_;rintro e w19 ⟨x2,rfl,hb2,hf2⟩;have HV:=q_ (view_P (w:=w17) (w1:=w18) H17.out HB1.out.1 HB1.out.2 hb2 hf2 (HQ.out ()).1 (HQ.out ()).2);clear hb2 hf2 HB1 H17;go_wp2_with fail;refine (HV.out).mono ?_;rintro e w20 ⟨vb',rfl,h20⟩;have H20:=q_ h20.swap;clear h20 HV HQ;have hra:=H20.out.row (v:=va) (q:=q) i_;have hrb:=H20.out.row (v:=vb') (q:=q) i_;obtain⟨_,pa,pc,rfl,_⟩:=_root_.id hra;obtain⟨_,pa',pc',rfl,_⟩:=_root_.id hrb;have hsm:=Same_p hra hrb (Nat.le_trans HQ5.out o_) (Nat.le_trans HQ5.out o_);rw [decide_eq_true rfl] at hsm;have HSM:=q_ hsm;clear hra hrb hsm;generalize q.length=ql at HSM;go_wp2_with fail;refine (HSM.out).mono ?_;rintro e w21 ⟨rfl,hf⟩;have h21:=H20.out.step hf;have H21:=q_ h21;obtain⟨mb,sb,rb,root,ga,gc,ns,mm,mb',sb',rb',root',ga',gc',ms,nn,h22,hi22,hi22'⟩:=h21;have HG:=q_ (gen_u h22);have HI:=q_ (fun (_:Unit)=>And.intro hi22.1 hi22'.1);clear hf HSM H20 h22 hi22 hi22';go_wp2_with fail;refine (HG.out).mono ?_;rintro e w22 ⟨rfl,h22⟩;have HG:=q_ (gen_u (h22.ord 10 [5,6,7,8,9,0,1,2,3,4]));clear h22;go_wp2_with fail;refine (HG.out).mono ?_;rintro e w23 ⟨rfl,h23⟩;have H23:=q_ (h23.ord 10 [5,6,7,8,9,0,1,2,3,4])
    have HB:=q_ (lbig_z (big_z (z:=((k+l:Nat):Int)) (a:=ga) (c:=gc) (ng:=false) H23.out (decide_eq_false o_) (by simp [uniL,memoL])) (big_z (z:=((k+l:Nat):Int)) (a:=ga') (c:=gc') (ng:=false) H23.out (decide_eq_false o_) (by simp [uniL,memoL])) (zok_int o_ o_));clear h23 HG;go_wp2_with fail;refine (HB.out).mono ?_;rintro e w24 ⟨rfl,hf⟩;obtain⟨P,hP,zP⟩:=pop_ex (HI.out ()).1;have HPP:=q_ (fun (_:Unit)=>hP);have HO:=q_ (pop_P (H23.out.step hf) (HI.out ()).1 hP);clear HB hf H23 hP;go_wp2_with fail;refine (HO.out).mono ?_;rintro e w25 ⟨pa1,pc1,rfl,h25⟩;have HO:=q_ (pop_P (h25.ord 11 [6,7,8,9,10,0,1,2,3,4,5]) (HI.out ()).2 (HPP.out ()));clear h25 HI HPP;go_wp2_with fail;refine (HO.out).mono ?_;rintro e w26 ⟨pa2,pc2,rfl,h26⟩;have HB:=q_ (lbig_z (big_z (z:=(P:Int)) (a:=pa1) (c:=pc1) (ng:=false) h26 (decide_eq_false o_) (by simp [uniL,memoL])) (big_z (z:=(P:Int)) (a:=pa2) (c:=pc2) (ng:=false) h26 (decide_eq_false o_) List.mem_cons_self) zP);have HF:=q_ h26.fr;clear h26 HO;go_wp2_with fail;refine (HB.out).mono ?_;rintro e w27 ⟨rfl,hf⟩;have HF:=q_ (HF.out.trans0 hf);clear hf HB;go_wp2_with fail;refine (awake_calls _).mono ?_;rintro e wz ⟨rfl,hfz⟩;have Hfz:=q_ (Fr.trans0 HF.out (Fr.trans0 (Fr.t) hfz));clear hfz;go_wp2;go_ret;exact⟨rfl,by have:=Hfz.out;exact Fr.t⟩
end Go.Proofs.YtebolidfbflkmaaGreat
end
section
namespace Go.Proofs.Lw
open Go Go.ChangeShapes Go.WideShapes Go.ChangeAt Go.RowKit Hp
theorem map_of_all {α β:Type} {f:β→α}:∀ {xs:List α},(∀ x∈xs,∃ k,x=f k)→∃ ks:List β,xs=ks.map f
 | [],_=>⟨[],rfl⟩
 | x::xs,h=>by obtain⟨k,rfl⟩:=h x i_;obtain⟨ks,rfl⟩:=map_of_all (xs:=xs) fun y hy=>h y (by simp [hy]);exact⟨k::ks,rfl⟩
end Go.Proofs.Lw
end
section
namespace Go.Proofs.YtebolidfbflkmaaGreat
open Go Go.ChangeShapes Go.WideShapes Go.ChangeAt Go.RowKit Hp Lw Ev Pt
section
variable {H:Type} {enc:TypeId×Value→H} {W:World} {fuel n c base:Nat} {a:Option Addr} {v:Value} {cs:List Value} {x:DataW H×List MemPlace} {d:DataW H} {ps:List MemPlace}
theorem open_pt (h:DataW.trod enc Tryz.prog W 0 (fun _=>true) true fuel 116 cs=some x):∃ p:Int×Int,cs=[.int .i64 p.1,.int .i64 p.2]:=by
 obtain⟨xs,n,rfl,rfl,hl,hn,hf⟩:=DataW.trod_struct Tryz.underlying116 h;have hl2:cs.length=2:=hl.trans k_;have hx2:xs.length=2:=hn;have h0:=hf 0 _ rfl;have h1:=hf 1 _ rfl;rw [List.getElem?_eq_getElem o_] at h0 h1;obtain⟨a,ha,_,_⟩:=DataW.trod_int Tryz.underlying3 h0;obtain⟨b,hb,_,_⟩:=DataW.trod_int Tryz.underlying3 h1
 match cs,hl2 with
 | [c0,c1],_ =>
  replace ha:[c0]=_:=ha
  replace hb:[c1]=_:=hb
  simp at ha hb;exact⟨(a,b),by rw [ha,hb]⟩
theorem open_pts (h:DataW.trod enc Tryz.prog W 0 (fun _=>true) true fuel 22 [.slice a n c]=some x):∃ l:List (Int×Int),l.length=n∧PtsAt W (.slice a l.length c) l:=by
 obtain⟨_,_,xs,hxl,hxs,_,hcell⟩:=open_rows Tryz.underlying22 (sz:=2) k_ o_ h;obtain⟨l,rfl⟩:=map_of_all (f:=fun p:Int×Int=>[Value.int .i64 p.1,.int .i64 p.2]) fun x hx=>by obtain⟨_,fuel,y,hy⟩:=hxs x hx;exact open_pt hy
 obtain rfl:l.length=n:=by simpa using hxl
 rw [← List.flatMap_def] at hcell;exact⟨l,rfl,pts_length l,a,c,rfl,hcell⟩
theorem sl_form {t e:TypeId} {v:Value} (hu:Tryz.prog.underlying t=some (.slice e)) (h:DataW.trod enc Tryz.prog W 0 (fun _=>true) true fuel t [v]=some x):∃ a n c,v=.slice a n c:=by rcases DataW.trod_slice hu h with ⟨h,_⟩|⟨a,len,cap,_,_,_,_,h,_⟩<;>(simp only [List.cons.injEq,and_true] at h;exact⟨_,_,_,h⟩)
theorem open_ints (h:DataW.trod enc Tryz.prog W 0 (fun _=>true) true fuel 72 [v]=some x):∃ l,IntsAt W v l:=by
 obtain⟨a,n,c,rfl⟩:=sl_form Tryz.underlying72 h;obtain⟨_,_,xs,hxl,hxs,_,hcell⟩:=open_rows Tryz.underlying72 (sz:=1) k_ o_ h;obtain⟨l,rfl⟩:=map_of_all (f:=fun n:Int=>[Value.int .i64 n]) fun x hx=>by obtain⟨_,fuel,y,hy⟩:=hxs x hx;obtain⟨z,rfl,_⟩:=DataW.trod_int Tryz.underlying3 hy;exact⟨z,rfl⟩
 obtain rfl:l.length=n:=by simpa using hxl
 have e:∀ l:List Int,(l.map fun x:Int=>[Value.int .i64 x]).flatten=iv l:=fun l=>by
  induction l with
  | nil=>rfl
  | cons x l ih=>rw [List.map_cons,List.flatten_cons,ih];rfl
 rw [e] at hcell;exact⟨l,by simp [iv],a,c,rfl,hcell⟩
theorem open_nd (h:DataW.trod enc Tryz.prog W 0 (fun _=>true) true fuel 118 cs=some x):∃ q:{q:(Int×List Int)×Value // IntsAt W q.2 q.1.2},cs=[.int .i64 q.1.1.1,q.1.2]:=by
 obtain⟨xs,n,rfl,rfl,hl,hn,hf⟩:=DataW.trod_struct Tryz.underlying118 h;have hl2:cs.length=2:=hl.trans k_;have hx2:xs.length=2:=hn;have h0:=hf 0 _ rfl;have h1:=hf 1 _ rfl;rw [List.getElem?_eq_getElem o_] at h0 h1;obtain⟨a,ha,_,_⟩:=DataW.trod_int Tryz.underlying3 h0
 match cs,hl2 with
 | [c0,c1],_ =>
  replace ha:[c0]=_:=ha
  simp at ha;obtain⟨l,hr⟩:=open_ints (v:=c1) h1;exact⟨⟨((a,l),c1),hr⟩,by rw [ha]⟩
theorem open_nds (h:DataW.trod enc Tryz.prog W 0 (fun _=>true) true fuel 23 [.slice a n c]=some x):∃ l:List (Int×List Int),l.length=n∧NodesAt W (.slice a l.length c) l:=by
 obtain⟨_,_,xs,hxl,hxs,_,hcell⟩:=open_rows Tryz.underlying23 (sz:=2) k_ o_ h;obtain⟨L,rfl⟩:=map_of_all (f:=fun q:{q:(Int×List Int)×Value // IntsAt W q.2 q.1.2}=>[Value.int .i64 q.1.1.1,q.1.2]) fun x hx=>by obtain⟨_,fuel,y,hy⟩:=hxs x hx;exact open_nd hy
 obtain rfl:L.length=n:=by simpa using hxl
 have e:∀ L:List {q:(Int×List Int)×Value // IntsAt W q.2 q.1.2},(L.map fun q=>[Value.int .i64 q.1.1.1,q.1.2]).flatten=ncells (L.map fun q=>q.1.1) (L.map fun q=>q.1.2)∧(ncells (L.map fun q=>q.1.1) (L.map fun q=>q.1.2)).length=L.length*2:=fun L=>by
  induction L with
  | nil=>exact⟨rfl,rfl⟩
  | cons q L ih=>exact⟨by rw [List.map_cons,List.flatten_cons,ih.1];rfl,by have:=ih.2;simp only [ncells,List.map_cons,List.zip_cons_cons,List.flatMap_cons,List.length_append,List.length_cons,List.length_nil] at this ⊢;omega⟩
 rw [(e L).1] at hcell;refine⟨L.map fun q=>q.1.1,i_,L.map fun q=>q.1.2,⟨by rw [(e L).2,List.length_map],a,c,by rw [List.length_map],by rw [List.length_map];exact hcell⟩,fun i x hi=>?_⟩;rw [List.getElem?_map,Option.map_eq_some_iff] at hi;obtain⟨q,hq,rfl⟩:=hi;exact⟨q.1.2,by rw [List.getElem?_map,hq];rfl,q.2⟩
theorem arr3 {α:Type} {cs:Array α} (h:cs.size=3):∃ a b c,cs=#[a,b,c]:=⟨cs[0],cs[1],cs[2],by apply Array.ext<;>simp [h];intro i hi;match i,hi with|0,_=>intro _;rfl|1,_=>intro _;rfl|2,_=>intro _;rfl⟩
theorem open_tr (hval:Value.okWide Tryz.prog W .any base 25 v) (h:DataW.Trod enc Tryz.prog W 0 (fun _=>true) true 25 v d ps) :
  ∃ (r:Rule) (ha na:Option Addr) (hc nc:Nat),v=.agg #[.int .i64 r.S,.slice ha r.hood.length hc,.slice na r.nodes.length nc]∧RuleAt W (.slice ha r.hood.length hc) (.slice na r.nodes.length nc) r:=by
 obtain⟨cs,rfl,hsz⟩:=okWide_struct Tryz.underlying25 hval;obtain⟨fuel,hf⟩:=h;obtain⟨xs,n,rfl,_,_,hn,hf⟩:=DataW.trod_struct Tryz.underlying25 hf;obtain⟨c0,c1,c2,rfl⟩:=arr3 (hsz.trans k_);have hx3:xs.length=3:=hn;have h0:=hf 0 _ rfl;have h1:=hf 1 _ rfl;have h2:=hf 2 _ rfl;rw [List.getElem?_eq_getElem o_] at h0 h1 h2;obtain⟨s,hs,_,_⟩:=DataW.trod_int Tryz.underlying3 h0
 replace hs:[c0]=_:=hs
 simp only [List.cons.injEq,and_true] at hs;subst hs;obtain⟨a1,n1,k1,rfl⟩:=sl_form (v:=c1) Tryz.underlying22 h1;obtain⟨a2,n2,k2,rfl⟩:=sl_form (v:=c2) Tryz.underlying23 h2;obtain⟨hood,rfl,hp⟩:=open_pts (a:=a1) (c:=k1) h1;obtain⟨nodes,rfl,hq⟩:=open_nds (a:=a2) (c:=k2) h2;exact⟨⟨s,hood,nodes⟩,a1,a2,k1,k2,rfl,hp,hq⟩
theorem open_cl (h:DataW.trod enc Tryz.prog W 0 (fun _=>true) true fuel 41 cs=some x):∃ k:PC,cs=[.int .i64 k.x,.int .i64 k.y,.int .i64 k.st]:=by
 obtain⟨xs,n,rfl,rfl,hl,hn,hf⟩:=DataW.trod_struct Tryz.underlying41 h;have hl3:cs.length=3:=hl.trans k_;have hx3:xs.length=3:=hn
 match cs,hl3 with
 | [c0,c1,c2],_ =>
  have h0:=hf 0 _ rfl;have h1:=hf 1 _ rfl;have h2:=hf 2 _ rfl;rw [List.getElem?_eq_getElem o_] at h0 h1 h2;obtain⟨a,ha,_⟩:=DataW.trod_int Tryz.underlying3 h0;obtain⟨b,hb,_⟩:=DataW.trod_int Tryz.underlying3 h1;obtain⟨c,hc,_⟩:=DataW.trod_int Tryz.underlying3 h2
  replace ha:[c0]=_:=ha
  replace hb:[c1]=_:=hb
  replace hc:[c2]=_:=hc
  simp at ha hb hc;exact⟨⟨a,b,c⟩,by rw [ha,hb,hc]⟩
theorem open_pattern (hval:Value.okWide Tryz.prog W .any base 27 v) (h:DataW.Trod enc Tryz.prog W 0 (fun _=>true) true 27 v d ps):∃ a c p,v=.slice a (List.length p) c∧CellsAt W (.slice a p.length c) p:=by
 obtain⟨fuel,hf⟩:=h;obtain⟨a,len,c,rfl⟩:=okWide_slice Tryz.underlying27 hval;obtain⟨_,_,xs,hxl,hxs,_,hcell⟩:=open_rows Tryz.underlying27 (sz:=3) k_ o_ hf;obtain⟨p,rfl⟩:=map_of_all (f:=fun k:PC=>[Value.int .i64 k.x,.int .i64 k.y,.int .i64 k.st]) fun x hx=>by obtain⟨_,fuel,y,hy⟩:=hxs x hx;exact open_cl hy
 obtain rfl:p.length=len:=by simpa using hxl
 have e:∀ l:List PC,(l.map fun k:PC=>[Value.int .i64 k.x,.int .i64 k.y,.int .i64 k.st]).flatten=pcs l∧(pcs l).length=l.length*3:=fun l=>by
  induction l with
  | nil=>exact⟨rfl,rfl⟩
  | cons k l ih=>exact⟨by rw [List.map_cons,List.flatten_cons,ih.1];rfl,by have:=ih.2;simp only [pcs,List.flatMap_cons,List.length_append,List.length_cons,List.length_nil] at this ⊢;omega⟩
 rw [(e p).1] at hcell;exact⟨a,c,p,rfl,(e p).2,a,c,rfl,hcell⟩
theorem open_two8 (hval:Value.okWide Tryz.prog W .any base 61 v) (h:DataW.Trod enc Tryz.prog W 0 (fun _=>true) true 61 v d ps):∃ k l:Nat,v=.agg #[.int .u8 (k:Int),.int .u8 (l:Int)]∧k≤255∧l≤255:=by
 obtain⟨cs,rfl,hsz⟩:∃ cs,v=.agg cs∧cs.size=Tryz.prog.cellsOf 61:=by simp only [Value.okWide,Tryz.underlying61] at hval;obtain⟨cs,h1,h2,_⟩:=hval;exact⟨cs,h1,h2⟩
 have hs2:cs.size=2:=hsz.trans k_;obtain⟨fuel,hf⟩:=h;obtain⟨xs,n,rfl,_,_,hn,hf⟩:=DataW.trod_array Tryz.underlying61 hf;obtain⟨c0,c1,rfl⟩:∃ c0 c1,cs=#[c0,c1]:=⟨cs[0],cs[1],by apply Array.ext<;>simp [hs2];intro i hi;match i,hi with|0,_=>intro _;rfl|1,_=>intro _;rfl⟩;have e1:Tryz.prog.cellsOf 5=1:=by kernel_rfl
 have h0:=hf 0 o_;have h1:=hf 1 o_;rw [List.getElem?_eq_getElem o_,e1] at h0 h1;obtain⟨k,hk,_,wk⟩:=DataW.trod_int Tryz.underlying5 h0;obtain⟨l,hl,_,wl⟩:=DataW.trod_int Tryz.underlying5 h1
 replace hk:[c0]=_:=hk
 replace hl:[c1]=_:=hl
 simp only [List.cons.injEq,and_true] at hk hl;subst hk hl;have hk:0≤k∧k≤255:=by simpa [Lit.wf,IntKind.min,IntKind.max,IntKind.signed,IntKind.bits] using wk
 have hl:0≤l∧l≤255:=by simpa [Lit.wf,IntKind.min,IntKind.max,IntKind.signed,IntKind.bits] using wl
 exact⟨k.toNat,l.toNat,by rw [Int.toNat_of_nonneg hk.1,Int.toNat_of_nonneg hl.1],o_,o_⟩
end
end Go.Proofs.YtebolidfbflkmaaGreat
end
