/- Own texts of this claim, part 7: no condition. -/
import Derived.Lib.SliceRun
import Derived.Maps.AppendAt
import Derived.Test.YtebolidfbflkmaaGreatZN4
import Derived.Test.YtebolidfbflkmaaGreatZN3
set_option linter.unusedVariables false
set_option linter.unusedSimpArgs false
set_option maxHeartbeats 16000000
set_option maxRecDepth 100000
section
namespace Go.Proofs.YtebolidfbflkmaaGreat
open Go Go.RowKit Rg Hp Bn
theorem Add_calls {w:World} {na nb:Bool} {da db:List Nat} {va vb:Value} (ha:Reads w va da.length 1 (u32s da)) (hb:Reads w vb db.length 1 (u32s db)) (hDa:Dig 4294967296 da) (hDb:Dig 4294967296 db) (hla:da.length≤10000) (hlb:db.length≤10000) :
  Calls Tryz.prog 44 #[.agg #[.bool na,va],.agg #[.bool nb,vb]] w (BigPost w (w.heap.size≤·) (addS na da nb db)):=by
 have hra:=fun w1 (hf:Fr [] w w1)=>Right_calls (neg:=na) (ha.fr hf) o_;have hrb:=fun w1 (hf:Fr [] w w1)=>Right_calls (neg:=nb) (hb.fr hf) o_;have Ha:=q_ ha;have Hb:=q_ hb;obtain⟨_,a,ac,rfl,_⟩:=ha;obtain⟨_,b,bc,rfl,_⟩:=hb;have Hra:=q_ hra;have Hrb:=q_ hrb;have HDa:=q_ hDa;have HDb:=q_ hDb;obtain⟨r,hS⟩:∃ r,r=addS na da nb db:=⟨_,rfl⟩;rw [← hS];unfold addS at hS;clear hDa hDb hra hrb;cases hR1:RightB na da with
 | false =>
  rw [hR1] at hS;simp only [Bool.false_and,if_true] at hS;subst hS;have Hra':=q_ (fun w1 hf=>hR1▸Hra.out w1 hf);clear hR1;go_enter Tryz.func44,Tryz.ntmps44;go_wp2_with fail;refine (Hra'.out _ (Fr.t)).mono ?_;rintro e w1 ⟨rfl,hf⟩;have hc:=(hf.block (w.heap.size+1+1) i_ i_).trans (show _=some (.cells #[.bool false,.slice none 0 0] 30 (0,0)) from hpT);obtain⟨c0,c1⟩:=e2_ hc;have z0:=hEF hc 0;have z1:=hEF hc 1;have cl:=lBk hc;have Hc:=q_ hc;have Hf:=q_ (Fr.trans0 (Fr.t:Fr [] w _) hf);clear hf hc;go_wp2;(try simp only [Exit.inBlock,Exit.then]);refine bodyPost_ret (bRS rfl (b:=w.heap.size+1+1) (x:=.bool false) (y:=.slice none 0 0) rfl ?_ rfl) rfl ⟨_,_,⟨Nat.le_refl _,fun g hg=>(by cases hg)⟩,rfl,reads_nil _,?_⟩;·
   have h:=Hc.out;(repeat first|rw [if_pos o_]|rw [if_neg o_]|rw [hDR]|rw [hDN]|rw [hAz]|rw [hSz]|rw [hAC]|rw [hSC]|rw [oMS]|rw [uPC]|rw [lSZ]|rw [lSS]|rfl);rw [h];exact hpT
  ·exact (Hf.out.setCell (.inr (by simp;try omega)) _).setCell (.inr (by simp;try omega)) _
 | true =>
  have Hra':=q_ (fun w1 hf=>hR1▸Hra.out w1 hf);obtain⟨cA,lA,_⟩:=right_canon hR1;have HcA:=q_ cA;rw [hR1] at hS;clear hR1 cA Hra;cases hR2:RightB nb db with
  | false =>
   rw [hR2] at hS;simp only [Bool.and_false,if_true] at hS;subst hS;have Hrb':=q_ (fun w1 hf=>hR2▸Hrb.out w1 hf);clear hR2;go_enter Tryz.func44,Tryz.ntmps44;go_wp2_with fail;refine (Hra'.out _ (Fr.t)).mono ?_;rintro e w1 ⟨rfl,hf⟩;have hb:=(hf.block (w.heap.size+1) i_ i_).trans (show _=some (.cells #[.bool nb,.slice b db.length bc] 30 (0,0)) from hpT);obtain⟨b0,b1,bl⟩:=l2_ hb;have Hc1:=q_ ((hf.block (w.heap.size+1+1) i_ i_).trans (show _=some (.cells #[.bool false,.slice none 0 0] 30 (0,0)) from hpT));have Hf1:=q_ (Fr.trans0 (Fr.t:Fr [] w _) hf);clear hf hb;go_wp2_with fail;refine (Hrb'.out _ Hf1.out).mono ?_;rintro e w2 ⟨rfl,hf⟩;have hc:=tk hf Hc1;obtain⟨c0,c1⟩:=e2_ hc;have z0:=hEF hc 0;have z1:=hEF hc 1;have cl:=lBk hc;have Hc:=q_ hc;have Hf:=q_ (Hf1.out.trans0 hf);clear hf hc b0 b1;go_wp2;(try simp only [Exit.inBlock,Exit.then]);refine bodyPost_ret (bRS rfl (b:=w.heap.size+1+1) (x:=.bool false) (y:=.slice none 0 0) rfl ?_ rfl) rfl ⟨_,_,⟨Nat.le_refl _,fun g hg=>(by cases hg)⟩,rfl,reads_nil _,?_⟩;·
    have h:=Hc.out;(repeat first|rw [if_pos o_]|rw [if_neg o_]|rw [hDR]|rw [hDN]|rw [hAz]|rw [hSz]|rw [hAC]|rw [hSC]|rw [oMS]|rw [uPC]|rw [lSZ]|rw [lSS]|rfl);rw [h];exact hpT
   ·exact (Hf.out.setCell (.inr (by simp;try omega)) _).setCell (.inr (by simp;try omega)) _
  | true =>
   have Hrb':=q_ (fun w1 hf=>hR2▸Hrb.out w1 hf);obtain⟨cB,lB,_⟩:=right_canon hR2;have HcB:=q_ cB;rw [hR2] at hS;simp only [Bool.and_self,Bool.true_eq_false,if_false] at hS;have HS:=q_ hS;clear hR2 cB Hrb hS;go_enter Tryz.func44,Tryz.ntmps44;go_wp2_with fail;refine (Hra'.out _ (Fr.t)).mono ?_;rintro e w1 ⟨rfl,hf⟩;have hb:=(hf.block (w.heap.size+1) i_ i_).trans (show _=some (.cells #[.bool nb,.slice b db.length bc] 30 (0,0)) from hpT);obtain⟨b0,b1,bl⟩:=l2_ hb;have Hb1:=q_ hb;have Ha1:=q_ ((hf.block w.heap.size (by simp;omega) i_).trans (show _=some (.cells #[.bool na,.slice a da.length ac] 30 (0,0)) from hpT));have Hc1:=q_ ((hf.block (w.heap.size+1+1) i_ i_).trans (show _=some (.cells #[.bool false,.slice none 0 0] 30 (0,0)) from hpT));have Hf1:=q_ (Fr.trans0 (Fr.t:Fr [] w _) hf);clear hf hb;go_wp2_with fail;refine (Hrb'.out _ Hf1.out).mono ?_;rintro e w2 ⟨rfl,hf⟩;have hc2:=tk hf Hc1;have ha2:=tk hf Ha1;have hb2:=tk hf Hb1;clear b0 b1 bl;obtain⟨a0,a1,al⟩:=l2_ ha2;obtain⟨b0,b1,bl⟩:=l2_ hb2;have Hc2:=q_ hc2;have Ha2:=q_ ha2;have Hb2:=q_ hb2;have Hf2:=q_ (Hf1.out.trans0 hf);clear hf hc2 ha2 hb2;by_cases hn:na=nb;·
    subst hn;have hS:=HS.out;rw [if_pos rfl] at hS;have HS1:=q_ hS;clear hS HS;go_wp2;refine wS [([0,1,2,3,4,5,6],[1]),([7,8,9,10,11],[])] ?_;(simp only [wpSegs,pick,aq_,bq_,cq_,dq_,eq_]);go_wp2_with fail;refine (plus_calls (Ha.out.fr (by have:=Hf2.out;exact Fr.t)) (Hb.out.fr (by have:=Hf2.out;exact Fr.t)) HDa.out HDb.out o_ o_).mono ?_;rintro e w3 ⟨pa,pc,ds,rfl,ho,hD,hV,hl,hlc,hf0⟩;have hf:Fr [] w2 w3:=Fr.trans0 (Fr.t) hf0;have ha3:=(hf.block _ al i_).trans Ha2.out;have a0':=hEC ha3 0;have a1':=hEC ha3 1;have al':=lBk ha3;have Ho3:=q_ ho;have HD3:=q_ hD;have HV3:=q_ hV;have Hl3:=q_ hl;have Hlc:=q_ hlc;have Hc3:=q_ (tk hf Hc2);have Hf3:=q_ (Hf2.out.trans0 hf);clear ho hD hV hl hlc hf hf0 ha3 a0 a1 al b0 b1 bl;go_wp2;refine mD_ ⟨⟨ac_ (T:=4) rfl rfl rfl Tryz.underlying4 rfl a0' rfl,trivial⟩,?_⟩;go_wp2_with fail;refine (made_calls (neg:=na) (Reads.of_owns Ho3.out) HD3.out (by have:=Hl3.out;omega) Hlc.out (A:=fun g=>w2.heap.size≤g) (fun g hg=>owns_ge Ho3.out hg)).mono ?_;rintro e w4 ⟨ra,rc,hlo,rfl,hr,hf⟩;rw [HV3.out,← HS1.out] at hlo hr;rw [HV3.out,← HS1.out];have hc4:=tk hf Hc3;obtain⟨c0,c1⟩:=e2_ hc4;have z0:=hEF hc4 0;have z1:=hEF hc4 1;have cl:=lBk hc4;have Hc:=q_ hc4;have Hlo:=q_ hlo;have Hr:=q_ hr;have Hf:=q_ (Hf3.out.trans0 hf);have hcl2:w.heap.size+1+1<w2.heap.size:=lBk Hc2.out;have Hcl2:=q_ hcl2;clear hlo hr hf hc4 a0' a1' al' hcl2;obtain⟨r1,r2,r3⟩:=r;go_wp2;refine mD_ ⟨trivial,sT_ rfl ?_⟩;go_wp2;(try simp only [Exit.inBlock,Exit.then]);refine bodyPost_ret (bRS rfl (b:=w.heap.size+1+1) (x:=.bool r1) (y:=.slice ra r2.length rc) rfl ?_ rfl) rfl ⟨_,_,⟨Hlo.out.1,fun g hg=>(by have:=Hlo.out.2 g hg;have:=Hcl2.out;omega)⟩,rfl,?_,?_⟩;·
     have h:=Hc.out;(repeat first|rw [if_pos o_]|rw [if_neg o_]|rw [hDR]|rw [hDN]|rw [hAz]|rw [hSz]|rw [hAC]|rw [hSC]|rw [oMS]|rw [uPC]|rw [lSZ]|rw [lSS]|rfl);rw [h];exact hpT
    ·refine Hr.out.keep fun x hx hl=>?_;have:=Hlo.out.2 x hx;have hcl:=Hcl2.out;rw [sCE _ _ _ (by simp;omega),sCE _ _ _ (by simp;omega)]
    ·exact (Hf.out.setCell (.inr (by simp;try omega)) _).setCell (.inr (by simp;try omega)) _
   ·have hS:=HS.out;rw [if_neg hn] at hS;have hnb:(na != nb)=true:=(by simpa using hn);have hne:(na == nb)=false:=(by simpa using hn);have HN:=q_ hn;have hag:=fun w3 (hf:Fr [] w w3)=>against_calls (Ha.out.fr hf) (Hb.out.fr hf) HDa.out HDb.out HcA.out HcB.out o_ o_;clear hn HS;by_cases hv:val 4294967296 da<val 4294967296 db;·
     rw [if_pos hv] at hS;have hc:cmpN (val 4294967296 da) (val 4294967296 db)=-1:=(by unfold cmpN;rw [if_pos hv]);rw [hc] at hag;have hlen:da.length≤db.length:=by
      rcases Nat.lt_or_ge db.length da.length with h|h
      ·have:=val_lt_len o_ HDb.out HDa.out HcA.out h;omega
      ·exact h
     have HS1:=q_ hS;have Hlen:=q_ hlen;have Hval:=q_ (Nat.le_of_lt hv);have Hag:=q_ hag;clear hS hlen hc hag hv;go_wp2_with fail;refine (Hag.out _ Hf2.out).mono ?_;rintro e w3 ⟨rfl,hd⟩;have hf:=hd.fr [];have H23:=q_ hf.size;have ha3:=(hf.block _ al i_).trans Ha2.out;have hb3:=(hf.block _ bl i_).trans Hb2.out;have Hc3':=q_ (tk hf Hc2);have Hf3':=q_ (Hf2.out.trans0 hf);clear a0 a1 al b0 b1 bl;obtain⟨a0,a1,al⟩:=l2_ ha3;obtain⟨b0,b1,bl⟩:=l2_ hb3;have az0:=hEF ha3 0;have az1:=hEF ha3 1;have bz0:=hEF hb3 0;have bz1:=hEF hb3 1;have Ha3:=q_ ha3;have Hb3:=q_ hb3;clear hd hf ha3 hb3;go_wp2;refine aBW (fun W=>W.heap[w.heap.size]?=some (.cells #[.bool nb,.slice b db.length bc] 30 (0,0))∧W.heap[w.heap.size+1]?=some (.cells #[.bool na,.slice a da.length ac] 30 (0,0)) ∧
      W.heap[w.heap.size+1+1]?=some (.cells #[.bool false,.slice none 0 0] 30 (0,0))∧Fr [] w W∧w2.heap.size≤W.heap.size) ?_ ?_
     ·have ha3:=Ha3.out;have hb3:=Hb3.out;have hc3:=Hc3'.out;refine⟨by (repeat first|rw [if_pos o_]|rw [if_neg o_]|rw [hDR]|rw [hDN]|rw [hAz]|rw [hSz]|rw [hAC]|rw [hSC]|rw [oMS]|rw [uPC]|rw [lSZ]|rw [lSS]|rfl);rw [ha3];(repeat first|rw [if_pos o_]|rw [if_neg o_]|rw [hDR]|rw [hDN]|rw [hAz]|rw [hSz]|rw [hAC]|rw [hSC]|rw [oMS]|rw [uPC]|rw [lSZ]|rw [lSS]|rfl),by (repeat first|rw [if_pos o_]|rw [if_neg o_]|rw [hDR]|rw [hDN]|rw [hAz]|rw [hSz]|rw [hAC]|rw [hSC]|rw [oMS]|rw [uPC]|rw [lSZ]|rw [lSS]|rfl);rw [hb3];(repeat first|rw [if_pos o_]|rw [if_neg o_]|rw [hDR]|rw [hDN]|rw [hAz]|rw [hSz]|rw [hAC]|rw [hSC]|rw [oMS]|rw [uPC]|rw [lSZ]|rw [lSS]|rfl),by (repeat first|rw [if_pos o_]|rw [if_neg o_]|rw [hDR]|rw [hDN]|rw [hAz]|rw [hSz]|rw [hAC]|rw [hSC]|rw [oMS]|rw [uPC]|rw [lSZ]|rw [lSS]|rfl);exact hc3,?_,by simp only [hSz];exact H23.out⟩;exact (((Hf3'.out.setCell (.inr (by simp;try omega)) _).setCell (.inr (by simp;try omega)) _).setCell (.inr (by simp;try omega)) _).setCell (.inr (by simp;try omega)) _
     clear a0 a1 al b0 b1 bl az0 az1 bz0 bz1;rintro W5 ⟨ha5,hb5,hc5,hf5,h25⟩;obtain⟨a0,a1,al⟩:=l2_ ha5;obtain⟨b0,b1,bl⟩:=l2_ hb5;have Ha5:=q_ ha5;have Hc5:=q_ hc5;have Hf5:=q_ hf5;have H25:=q_ h25;clear ha5 hb5 hc5 hf5 h25;refine wS [([0,1,2,3,4,5,6],[1]),([7,8,9,10,11],[])] ?_;(simp only [wpSegs,pick,aq_,bq_,cq_,dq_,eq_]);go_wp2_with fail;refine (minus_calls (Hb.out.fr ?q1) (Ha.out.fr ?q2) HDb.out HDa.out o_ Hlen.out Hval.out).mono ?_;case q1=>have:=Hf5.out;exact Fr.t
     case q2=>have:=Hf5.out;exact Fr.t
     rintro e w6 ⟨pa,pc,ds,rfl,ho,hD,hV,hl,hlc,hf0⟩;have hf:Fr [] W5 w6:=Fr.trans0 (Fr.t) hf0;have ha3:=(hf.block _ al i_).trans Ha5.out;have a0':=hEC ha3 0;have a1':=hEC ha3 1;have al':=lBk ha3;have Ho3:=q_ ho;have HD3:=q_ hD;have HV3:=q_ hV;have Hl3:=q_ hl;have Hlc:=q_ hlc;have Hc3:=q_ (tk hf Hc5);have Hf3:=q_ (Hf5.out.trans0 hf);clear ho hD hV hl hlc hf hf0 ha3 a0 a1 al b0 b1 bl;go_wp2;refine mD_ ⟨⟨ac_ (T:=4) rfl rfl rfl Tryz.underlying4 rfl a0' rfl,trivial⟩,?_⟩;go_wp2_with fail;refine (made_calls (neg:=nb) (Reads.of_owns Ho3.out) HD3.out (by have:=Hl3.out;omega) Hlc.out (A:=fun g=>w2.heap.size≤g) (fun g hg=>by have h1:W5.heap.size≤g:=owns_ge Ho3.out hg;have:=H25.out;omega)).mono ?_;rintro e w7 ⟨ra,rc,hlo,rfl,hr,hf⟩;rw [HV3.out,← HS1.out] at hlo hr;rw [HV3.out,← HS1.out];have hc4:=tk hf Hc3;obtain⟨c0,c1⟩:=e2_ hc4;have z0:=hEF hc4 0;have z1:=hEF hc4 1;have cl:=lBk hc4;have Hc:=q_ hc4;have Hlo:=q_ hlo;have Hr:=q_ hr;have Hf:=q_ (Hf3.out.trans0 hf);have hcl2:w.heap.size+1+1<w2.heap.size:=lBk Hc2.out;have Hcl2:=q_ hcl2;clear hlo hr hf hc4 a0' a1' al' hcl2;obtain⟨r1,r2,r3⟩:=r;go_wp2;refine mD_ ⟨trivial,sT_ rfl ?_⟩;go_wp2;(try simp only [Exit.inBlock,Exit.then]);refine bodyPost_ret (bRS rfl (b:=w.heap.size+1+1) (x:=.bool r1) (y:=.slice ra r2.length rc) rfl ?_ rfl) rfl ⟨_,_,⟨Hlo.out.1,fun g hg=>(by have:=Hlo.out.2 g hg;have:=Hcl2.out;omega)⟩,rfl,?_,?_⟩;·
      have h:=Hc.out;(repeat first|rw [if_pos o_]|rw [if_neg o_]|rw [hDR]|rw [hDN]|rw [hAz]|rw [hSz]|rw [hAC]|rw [hSC]|rw [oMS]|rw [uPC]|rw [lSZ]|rw [lSS]|rfl);rw [h];exact hpT
     ·refine Hr.out.keep fun x hx hl=>?_;have:=Hlo.out.2 x hx;have hcl:=Hcl2.out;rw [sCE _ _ _ (by simp;omega),sCE _ _ _ (by simp;omega)]
     ·exact (Hf.out.setCell (.inr (by simp;try omega)) _).setCell (.inr (by simp;try omega)) _
    ·rw [if_neg hv] at hS;have hc:0≤cmpN (val 4294967296 da) (val 4294967296 db):=(by unfold cmpN;rw [if_neg hv];split<;>omega);have hlen:db.length≤da.length:=by
      rcases Nat.lt_or_ge da.length db.length with h|h
      ·have:=val_lt_len o_ HDa.out HDb.out HcB.out h;omega
      ·exact h
     obtain⟨q,hq⟩:∃ q,cmpN (val 4294967296 da) (val 4294967296 db)=q:=⟨_,rfl⟩;rw [hq] at hag hc;have HS1:=q_ hS;have Hlen:=q_ hlen;have Hval:=q_ (Nat.le_of_not_lt hv);have Hag:=q_ hag;have hqd:decide (q<0)=false:=(by simp;omega);clear hS hlen hag hv hq;go_wp2_with fail;refine (Hag.out _ Hf2.out).mono ?_;rintro e W5 ⟨rfl,hd⟩;have hf:=hd.fr [];have H25:=q_ hf.size;have ha3:=(hf.block _ al i_).trans Ha2.out;have hb3:=(hf.block _ bl i_).trans Hb2.out;have Hc5:=q_ (tk hf Hc2);have Hf5:=q_ (Hf2.out.trans0 hf);clear a0 a1 al b0 b1 bl;obtain⟨a0,a1,al⟩:=l2_ ha3;obtain⟨b0,b1,bl⟩:=l2_ hb3;have Ha5:=q_ ha3;clear hd hf ha3 hb3;go_wp2;refine wS [([0,1,2,3,4,5,6],[1]),([7,8,9,10,11],[])] ?_;(simp only [wpSegs,pick,aq_,bq_,cq_,dq_,eq_]);go_wp2_with fail;refine (minus_calls (Ha.out.fr ?q1) (Hb.out.fr ?q2) HDa.out HDb.out o_ Hlen.out Hval.out).mono ?_;case q1=>have:=Hf5.out;exact Fr.t
     case q2=>have:=Hf5.out;exact Fr.t
     rintro e w6 ⟨pa,pc,ds,rfl,ho,hD,hV,hl,hlc,hf0⟩;have hf:Fr [] W5 w6:=Fr.trans0 (Fr.t) hf0;have ha3:=(hf.block _ al i_).trans Ha5.out;have a0':=hEC ha3 0;have a1':=hEC ha3 1;have al':=lBk ha3;have Ho3:=q_ ho;have HD3:=q_ hD;have HV3:=q_ hV;have Hl3:=q_ hl;have Hlc:=q_ hlc;have Hc3:=q_ (tk hf Hc5);have Hf3:=q_ (Hf5.out.trans0 hf);clear ho hD hV hl hlc hf hf0 ha3 a0 a1 al b0 b1 bl;go_wp2;refine mD_ ⟨⟨ac_ (T:=4) rfl rfl rfl Tryz.underlying4 rfl a0' rfl,trivial⟩,?_⟩;go_wp2_with fail;refine (made_calls (neg:=na) (Reads.of_owns Ho3.out) HD3.out (by have:=Hl3.out;omega) Hlc.out (A:=fun g=>w2.heap.size≤g) (fun g hg=>by have h1:W5.heap.size≤g:=owns_ge Ho3.out hg;have:=H25.out;omega)).mono ?_;rintro e w7 ⟨ra,rc,hlo,rfl,hr,hf⟩;rw [HV3.out,← HS1.out] at hlo hr;rw [HV3.out,← HS1.out];have hc4:=tk hf Hc3;obtain⟨c0,c1⟩:=e2_ hc4;have z0:=hEF hc4 0;have z1:=hEF hc4 1;have cl:=lBk hc4;have Hc:=q_ hc4;have Hlo:=q_ hlo;have Hr:=q_ hr;have Hf:=q_ (Hf3.out.trans0 hf);have hcl2:w.heap.size+1+1<w2.heap.size:=lBk Hc2.out;have Hcl2:=q_ hcl2;clear hlo hr hf hc4 a0' a1' al' hcl2;obtain⟨r1,r2,r3⟩:=r;go_wp2;refine mD_ ⟨trivial,sT_ rfl ?_⟩;go_wp2;(try simp only [Exit.inBlock,Exit.then]);refine bodyPost_ret (bRS rfl (b:=w.heap.size+1+1) (x:=.bool r1) (y:=.slice ra r2.length rc) rfl ?_ rfl) rfl ⟨_,_,⟨Hlo.out.1,fun g hg=>(by have:=Hlo.out.2 g hg;have:=Hcl2.out;omega)⟩,rfl,?_,?_⟩;·
      have h:=Hc.out;(repeat first|rw [if_pos o_]|rw [if_neg o_]|rw [hDR]|rw [hDN]|rw [hAz]|rw [hSz]|rw [hAC]|rw [hSC]|rw [oMS]|rw [uPC]|rw [lSZ]|rw [lSS]|rfl);rw [h];exact hpT
     ·refine Hr.out.keep fun x hx hl=>?_;have:=Hlo.out.2 x hx;have hcl:=Hcl2.out;rw [sCE _ _ _ (by simp;omega),sCE _ _ _ (by simp;omega)]
     ·exact (Hf.out.setCell (.inr (by simp;try omega)) _).setCell (.inr (by simp;try omega)) _
theorem From_calls {w:World} {n:Int} (h1:-9223372036854775808≤n) (h2:n<9223372036854775808) :
  Calls Tryz.prog 45 #[.int .i64 n] w (BigPost1 w (w.heap.size≤·) (fromS n)):=by
 have hsz:=fun w1=>size_calls (w:=w1) h1 h2;have hb:n.natAbs<18446744073709551616:=o_
 unfold fromS;obtain⟨neg,hneg⟩:∃ neg,decide (n<0)=neg:=⟨_,rfl⟩;rw [hneg];generalize n.natAbs=v at *
 obtain⟨r,hrr⟩:∃ r,mkN neg v=r:=⟨_,rfl⟩;rw [hrr];have HRR:=q_ hrr;clear hrr;have Hsz:=q_ hsz;have hv:val 4294967296 [v % 4294967296,v / 4294967296 % 4294967296]=v:=by simp only [val];omega
 have hdd:Dig 4294967296 [v % 4294967296,v / 4294967296 % 4294967296]:=fun x hx=>by simp at hx;omega
 have Hv:=q_ hv;have Hdd:=q_ hdd;have Hb:=q_ (And.intro h1 (And.intro h2 hb));clear hsz hv hdd h1 h2 hb;go_enter Tryz.func45,Tryz.ntmps45;go_wp2_with fail;refine (Hsz.out _).mono ?_;rintro e w1 ⟨rfl,rfl⟩;go_wp2_with fail;refine (made_calls (ds:=[v % 4294967296,v / 4294967296 % 4294967296]) (A:=fun g=>w.heap.size+1≤g) (reads_blk (cs:=u32s [v % 4294967296,v / 4294967296 % 4294967296]) hpT rfl) Hdd.out i_ i_ (fun g hg=>by simp [Value.ownBlock] at hg;omega)).mono ?_;rintro e w2 ⟨ra,rc,hlo,rfl,hr,hf⟩;rw [Hv.out,HRR.out] at hlo hr;rw [Hv.out,HRR.out];have hc:=(hf.block w.heap.size (by simp;omega) i_).trans (show _=some (.cells #[.bool false,.slice none 0 0] 30 (0,0)) from hpT);obtain⟨c0,c1⟩:=e2_ hc;have z0:=hEF hc 0;have z1:=hEF hc 1;have cl:=lBk hc;have Hc:=q_ hc;have Hlo:=q_ hlo;have Hr:=q_ hr;have Hf:=q_ (Fr.trans0 (Fr.t:Fr [] w _) hf);clear hlo hr hf hc;obtain⟨r1,r2,r3⟩:=r;go_wp2;(try simp only [Exit.inBlock,Exit.then]);refine bodyPost_ret (big_result1 rfl (b:=w.heap.size) (x:=.bool r1) (y:=.slice ra r2.length rc) rfl ?_) rfl ⟨_,_,⟨Hlo.out.1,fun g hg=>(by have h:=Hlo.out.2 g hg;omega)⟩,rfl,?_,?_⟩;·
  have h:=Hc.out;(repeat first|rw [if_pos o_]|rw [if_neg o_]|rw [hDR]|rw [hDN]|rw [hAz]|rw [hSz]|rw [hAC]|rw [hSC]|rw [oMS]|rw [uPC]|rw [lSZ]|rw [lSS]|rfl);first|exact h|(rw [h];(repeat first|rw [if_pos o_]|rw [if_neg o_]|rw [hDR]|rw [hDN]|rw [hAz]|rw [hSz]|rw [hAC]|rw [hSC]|rw [oMS]|rw [uPC]|rw [lSZ]|rw [lSS]|rfl))
 ·refine Hr.out.keep fun x hx hl=>?_;have h1:=Hlo.out.2 x hx;rw [hAE _ _ _ (by simp only [hSz];exact hl),sCE _ _ _ (by simp;omega),sCE _ _ _ (by simp;omega)]
 ·repeat (first|exact Hf.out|refine Fr.alloc ?_ _|refine Fr.setCell ?_ (.inr (by first|(simp;done)|(simp;omega))) _)
theorem info_i64:(Tryz.prog.info? 3).map (fun i=>(i.zero,i.size,i.bytes))=some (some (.int .i64 0),1,8):=by kernel_rfl
theorem append_i64 {ops:Array Oper} {rest:List Oper} {o:Oper} {a:Act} {W:World} {Q:Exit→Act→World→Prop} (hgd:o.guard=none) {s x:Operand} (ho:o.op=.call { callee:=.builtin .append,args:=#[s,x],argTypes:=#[72,72] })
  {base:Nat} {v:Value} {n:Nat} {xs:List Value} (hs:a.eval s=v) (hown:W.ownsRow base 3 1 v n xs) {nb c:Nat} {y:Int} (hx:a.eval x=.slice (some ⟨nb,0,none⟩) 1 c)
  (hnb:W.heap[nb]?=some (.cells #[.int .i64 y] 3 (0,0))) (hn:n≤4000000000000) (hbase:base≤W.heap.size)
  (h:∀ g cap w',w'.ownsRow base 3 1 (.slice (some ⟨g,0,none⟩) (n+1) cap) (n+1) (xs++[.int .i64 y])→(∀ b,b<W.heap.size→v.ownBlock≠some b→w'.heap[b]?=W.heap[b]?)→Fr v.ownBlock.toList W w'→(v.ownBlock=some g∨g=W.heap.size)→g<w'.heap.size →
   wpList Tryz.prog ops Q rest (a.put o.dst (.slice (some ⟨g,0,none⟩) (n+1) cap)) w'):wpList Tryz.prog ops Q (o::rest) a W :=
 append_new hgd ho Tryz.underlying72 info_i64 rfl (by decide) hs hown hx (news:=[.int .i64 y]) hnb rfl (by intro u hu;simp at hu;subst hu;rfl) (by unfold maxLen;omega) o_ hbase h
theorem RRight_calls {w:World} {neg:Bool} {ds:List Nat} {v:Value} (hv:Reads w v ds.length 1 (u32s ds)) (hl:ds.length≤9223372036854775807) :
  Calls Tryz.prog 9 #[.agg #[.bool neg,v]] w fun e w'=>e=.returned (.bool (RightB neg ds))∧Fr [] w w':=by
 obtain⟨_,a,c,rfl,hav⟩:=hv;have Hav:=q_ hav;clear hav;by_cases h0:ds.length=0;·
  have hd:decide ((ds.length:Int)=0)=true:=by simp [h0]
  have hR:RightB neg ds=!neg:=by unfold RightB;rw [if_pos h0]
  have HR:=q_ hR;obtain rfl:=List.eq_nil_of_length_eq_zero h0;clear h0 hR hd;go_enter Tryz.func9,Tryz.ntmps9;go_wp2;go_ret;exact⟨by rw [HR.out];rfl,Fr.t⟩
 ·obtain⟨g,off,rfl,hg,hc⟩:=Hav.out o_;have hcz:=hc (ds.length - 1) _ (u32s_get o_);have hd:((ds.length:Int) == 0)=false:=by rw [beq_eq_false_iff_ne];omega
  have hp1:(1:Int)≤ds.length:=o_
  have hp2:(ds.length:Int) - 1<ds.length:=o_
  by_cases h64:ds.length≤64;·
   have hd2:decide ((ds.length:Int)≤64)=true:=(by simp;omega);have hR:RightB neg ds=(((ds.getD (ds.length - 1) 0:Nat):Int) != 0):=by unfold RightB;rw [if_neg h0,Bool.eq_iff_iff];simp;omega
   have HR:=q_ hR;have H0:=q_ h0;generalize ds.getD (ds.length - 1) 0=y at *
   clear h0 hR hc;go_enter Tryz.func9,Tryz.ntmps9;go_wp2;go_ret;exact⟨by rw [HR.out];rfl,Fr.t⟩
  ·have hd2:decide ((ds.length:Int)≤64)=false:=(by simp;omega);have hR:RightB neg ds=false:=by
    unfold RightB;rw [if_neg h0,Bool.eq_iff_iff];simp;omega
   have HR:=q_ hR;have H0:=q_ h0;clear h0 hcz hR hc;go_enter Tryz.func9,Tryz.ntmps9;go_wp2;go_ret;exact⟨by rw [HR.out];rfl,Fr.t⟩
theorem rdigit_calls {w:World} {ds:List Nat} {v:Value} (hv:Reads w v ds.length 1 (i64s ds)) (hl:ds.length≤1000000) (i:Nat) :
  Calls Tryz.prog 102 #[v,.int .i64 i] w fun e w'=>e=.returned (.int .i64 (ds.getD i 0:Nat))∧w=w':=by
 obtain⟨_,a,c,rfl,hav⟩:=hv;by_cases h:i<ds.length;·
  obtain⟨g,off,rfl,hg,hc⟩:=hav o_;have hcz:=hc i _ (i64s_get h);clear hc hav;generalize ds.getD i 0=y at *
  go_enter Tryz.func102,Tryz.ntmps102;go_wp2;go_ret;exact⟨rfl,rfl⟩
 ·have h0:ds.getD i 0=0:=by rw [List.getD_eq_getElem?_getD,List.getElem?_eq_none o_];rfl
  rw [h0];clear h0 hav;go_enter Tryz.func102,Tryz.ntmps102;go_wp2;go_ret;exact⟨rfl,rfl⟩
theorem trim_calls0 {w:World} {ds:List Nat} {a:Option Addr} {c:Nat} (hv:Reads w (.slice a ds.length c) ds.length 1 (i64s ds)) (hD:Dig 256 ds) (hl:ds.length≤1000000) (hc:ds.length≤c) :
  Calls Tryz.prog 74 #[.slice a ds.length c] w fun e w'=>e=.returned (.slice a (trimL 256 ds).length (trimL 256 ds).length)∧w=w':=by
 obtain⟨_,a',c',he,hav⟩:=hv;cases he;have Hav:=q_ hav;have HD:=q_ hD;clear hav hD;obtain⟨n,hn⟩:∃ n,ds.length=n:=⟨_,rfl⟩;rw [hn] at hl hc ⊢;rw [hn] at Hav;have Hn:=q_ hn;clear hn;go_enter Tryz.func74,Tryz.ntmps74;go_wp2;go_loop [3] (fun x=>∃ k:Nat,k≤n∧x=.int .i64 k∧trimL 256 (ds.take k)=trimL 256 ds) (fun x=>(intOf x).toNat);case atStart=>exact⟨n,Nat.le_refl _,rfl,by rw [← Hn.out,List.take_length]⟩
 case round =>
  obtain⟨k,hk,rfl,hT⟩:=hrel;have HT:=q_ hT;clear hT;cases k with
  | zero =>have e:(trimL 256 ds).length=0:=(by rw [← HT.out,List.take_zero,trimL_nil];rfl);go_wp2;go_ret;exact⟨rfl,rfl⟩
  | succ k =>
   obtain⟨g,off,rfl,hg,hcc⟩:=Hav.out o_;have hkn:k<ds.length:=(by have:=Hn.out;omega);have hcz:=hcc k _ (i64s_get hkn);have htk:ds.take (k+1)=ds.take k++[ds.getD k 0]:=by rw [List.take_add_one,List.getElem?_eq_getElem o_,List.getD_eq_getElem?_getD,List.getElem?_eq_getElem o_];rfl
   have Htk:=q_ htk;clear hcc htk hkn;obtain⟨y,hy⟩:∃ y,y=ds.getD k 0:=⟨_,rfl⟩;rw [← hy] at hcz Htk;have Hy:=q_ hy;clear hy;by_cases hz:y=0;·
    subst hz;go_wp2;go_round;case rel=>exact⟨k,o_,by go_num,by have:=HT.out;rwa [Htk.out,trimL_zero] at this⟩
    case measure=>simp [intOf]
   ·have hb:((y:Int) == 0)=false:=(by rw [beq_eq_false_iff_ne];omega);have Hz:=q_ hz;clear hz;have e:(trimL 256 ds).length=k+1:=by
     have hT:=HT.out;have hD:=HD.out.take (k+1);rw [Htk.out] at hT hD;rw [trimL_canon o_ hD (canon_snoc Hz.out)] at hT;rw [← hT,List.length_append,List.length_take,Nat.min_eq_left (by have:=Hn.out;omega)];rfl
    have E:=q_ e;clear e;go_wp2;go_ret;exact⟨by rw [E.out];rfl,rfl⟩
theorem trim_calls {w:World} {ds:List Nat} {a:Option Addr} {c:Nat} (hv:Reads w (.slice a ds.length c) ds.length 1 (i64s ds)) (hD:Dig 256 ds) (hl:ds.length≤1000000) (hc:ds.length≤c) {A:Nat→Prop} (hlo:∀ g,(Value.slice a ds.length c).ownBlock=some g→A g) :
  Calls Tryz.prog 74 #[.slice a ds.length c] w (ListPost w A (dg 256 (val 256 ds))):=by
 refine (trim_calls0 hv hD hl hc).mono ?_;rintro e w1 ⟨rfl,rfl⟩;exact⟨a,_,⟨Nat.le_refl _,fun g hg=>hlo g (own_len a _ _ _ c▸hg)⟩,rfl,(reads_trim' hv hD _).1,Fr.refl _ _⟩
theorem bytes_calls {w:World} {neg:Bool} {ds:List Nat} {v:Value} (hv:Reads w v ds.length 1 (u32s ds)) (hD:Dig 4294967296 ds) (hl:ds.length≤100000) :
  Calls Tryz.prog 30 #[.agg #[.bool neg,v]] w (ListPost w (w.heap.size<·) (dg 256 (val 4294967296 ds))):=by
 obtain⟨_,a,c,rfl,hav⟩:=hv;have Hav:=q_ hav;have HD:=q_ hD;clear hav hD;obtain⟨n,hn⟩:∃ n,ds.length=n:=⟨_,rfl⟩;rw [hn] at hl ⊢;rw [hn] at Hav;have Hn:=q_ hn;clear hn;go_enter Tryz.func30,Tryz.ntmps30;go_wp2_with fail;go_loopw [3,4] (fun x3 x4 wl=>∃ (i:Nat) (L:List Nat),x4=.int .i64 i∧i≤n∧Dig 256 L∧L.length=4*i∧val 256 L=val 4294967296 (ds.take i)∧wl.ownsRow (w.heap.size+1) 3 1 x3 L.length (i64s L)∧Fr [] w wl ∧
  wl.heap[w.heap.size]?=some (.cells #[.bool neg,.slice a n c] 30 (0,0))) (fun _ x4 _=>n - (intOf x4).toNat)
 case atStart=>exact⟨0,[],rfl,o_,Dig.nil,rfl,rfl,World.ownsRow_nil _ _ _ _,Fr.t,by (repeat first|rw [if_pos o_]|rw [if_neg o_]|rw [hDR]|rw [hDN]|rw [hAz]|rw [hSz]|rw [hAC]|rw [hSC]|rw [oMS]|rw [uPC]|rw [lSZ]|rw [lSS]|rfl)⟩
 case round =>
  obtain⟨i,L,rfl,hi,hD,hL,hv,ho,hf,hb⟩:=hrel;obtain⟨oa,oc,rfl,hoa,hon⟩:=oFM ho;obtain⟨b0,b1,bl⟩:=l2_ hb;have HDL:=q_ hD;have HL:=q_ hL;have Hv:=q_ hv;have Ho:=q_ ho;have Hf:=q_ hf;have Hb:=q_ hb;clear hoa hon hD hL hv ho hb;by_cases hin:i<n;·
   obtain⟨g,off,rfl,hg,hc⟩:=Hav.out (by have:=Hn.out;omega);have e1:=(hf.cell (p:=⟨g,off+i,none⟩) hg i_).trans (hc i _ (u32s_get (by have:=Hn.out;omega)));have hx:ds.getD i 0<4294967296:=HD.out.getD o_ i;have Hvt:=q_ (val_take_succ 4294967296 ds i);clear hc hf;generalize ds.getD i 0=x at *
   go_wp2_with fail;clear e1 b0 b1 bl;go_loopw [3,5,6] (fun x3 x5 x6 wl=>∃ (k d2:Nat) (L2:List Nat),x5=.int .u32 d2∧x6=.int .i64 k∧k≤4∧d2<256 ^ (4 - k)∧Dig 256 L2∧L2.length=4*i+k∧val 256 L2+256 ^ (4*i+k)*d2=val 4294967296 (ds.take i)+4294967296 ^ i*x ∧
    wl.ownsRow (w.heap.size+1) 3 1 x3 L2.length (i64s L2)∧Fr [] w wl∧wl.heap[w.heap.size]?=some (.cells #[.bool neg,.slice (some ⟨g,off,none⟩) n c] 30 (0,0))) (fun _ _ x6 _=>4 - (intOf x6).toNat)
   case atStart=>exact⟨0,x,L,rfl,rfl,o_,hx,HDL.out,HL.out,by rw [Hv.out,Nat.add_zero,pow256],Ho.out,Hf.out,Hb.out⟩
   case round =>
    obtain⟨k,d2,L2,rfl,rfl,hk,hd2,hD2,hL2,hv2,ho2,hf2,hb2⟩:=hrel;obtain⟨oa2,oc2,rfl,hoa2,hon2⟩:=oFM ho2;have HD2:=q_ hD2;have HL2:=q_ hL2;have Hv2:=q_ hv2;have Ho2:=q_ ho2;have Hf2:=q_ hf2;have Hb2:=q_ hb2;have Hd2:=q_ hd2;have hd2b:d2<4294967296:=Nat.lt_of_lt_of_le hd2 (Nat.pow_le_pow_right (show 0<256 by omega) (show 4 - k≤4 by omega));clear hoa2 hon2 hD2 hL2 hv2 ho2 hf2 hb2 hd2;by_cases hk4:k<4;·
     obtain⟨r,hr⟩:∃ r,r=d2 % 256:=⟨_,rfl⟩;have Er:((d2:Int) % 256)=(r:Nat):=o_;have hr256:r<256:=o_;have Hr:=q_ hr;clear hr;go_wp2_with (at_builtin;refine append_i64 (n:=L2.length) (base:=w.heap.size+1) (xs:=i64s L2) (y:=(r:Int)) rfl rfl rfl ?e1 rfl ?e2 ?e3 ?e4 ?_);case e1=>exact oOB Ho2.out fun y hy=>hAE _ _ _ (oLT Ho2.out hy)
     case e2=>(repeat first|rw [if_pos o_]|rw [if_neg o_]|rw [hDR]|rw [hDN]|rw [hAz]|rw [hSz]|rw [hAC]|rw [hSC]|rw [oMS]|rw [uPC]|rw [lSZ]|rw [lSS]|rfl)
     case e3=>have:=HL2.out;omega
     case e4=>have:=Hf2.out.size;have:=lBk Hb2.out;(first|omega|(simp only [hDR,hDN,hAz];omega)|(simp;omega))
     intro g2 cap w9 hown1 hW1 hF1 hloc1 hg1;rw [i64s_snoc] at hown1;have Hb9:=q_ ((hW1 w.heap.size (by have:=lBk Hb2.out;(first|omega|(simp only [hDR,hDN,hAz];omega)|(simp;omega))) (fun e=>by have h:=owns_ge Ho2.out e;omega)).trans ((hAE _ _ _ (lBk Hb2.out)).trans Hb2.out));have Hown1:=q_ hown1;have Hf9:=q_ (fr_append Hf2.out (owns_base Ho2.out (Nat.le_succ _)) hF1);clear hown1 hW1 hF1 hloc1;go_wp2;go_roundw;case rel =>
      refine⟨k+1,d2 / 256,L2++[r],by go_num,by go_num,o_,?_,HD2.out.append (fun z hz=>by rw [List.mem_singleton] at hz;omega),by rw [List.length_append];have:=HL2.out;simp;omega,?_,by rw [List.length_append];exact Hown1.out,Hf9.out,Hb9.out⟩;·
       have h:=Hd2.out;rw [show 4 - k=(4 - (k+1))+1 by omega,Nat.pow_succ] at h;rw [Nat.div_lt_iff_lt_mul o_];exact h
      ·rw [val_snoc,HL2.out,Hr.out,show 4*i+(k+1)=4*i+k+1 by omega,Nat.pow_succ];exact bytes_step Hv2.out
     case measure=>simp [intOf];omega
    ·obtain rfl:k=4:=o_;have hd0:d2=0:=(by have:=Hd2.out;omega);have hv9:val 256 L2=val 4294967296 (ds.take (i+1)):=(by have h:=Hv2.out;rw [hd0,Nat.mul_zero,Nat.add_zero] at h;rw [Hvt.out];exact h);have Hv9:=q_ hv9;clear hv9 hd0 hd2b;go_wp2;go_roundw;case rel=>exact⟨i+1,L2,by go_num,o_,HD2.out,by have:=HL2.out;omega,Hv9.out,Ho2.out,Hf2.out,Hb2.out⟩
     case measure=>simp [intOf];omega
  ·obtain rfl:i=n:=o_;have hv:=Hv.out;rw [List.take_of_length_le (by have:=Hn.out;omega)] at hv;have ht:=trim_calls (Reads.of_owns Ho.out) HDL.out (by have:=HL.out;omega) (owns_cap Ho.out) (A:=fun g=>w.heap.size<g) (fun g hg=>owns_ge Ho.out hg);rw [hv] at ht;have Ht:=q_ ht;clear ht hv hf;go_wp2_with fail;refine Ht.out.mono ?_;rintro e w4 ⟨ra,rc,hlo,rfl,hr,hf⟩;have Hf5:=q_ (Hf.out.trans0 hf);have Hr:=q_ hr;have Hlo:=q_ hlo;clear hf hr hlo b0 b1 bl;go_wp2;go_ret;exact⟨ra,rc,Hlo.out,rfl,Hr.out,Hf5.out⟩
end Go.Proofs.YtebolidfbflkmaaGreat
end
