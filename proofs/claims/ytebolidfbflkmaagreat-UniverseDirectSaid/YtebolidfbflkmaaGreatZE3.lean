/- Own texts of this claim, part 4: no condition. -/
import Derived.Deep.RegionHeld3
import Derived.Deep.DeepCutAuto
import Derived.Test.YtebolidfbflkmaaGreatZE2
set_option linter.unusedVariables false
set_option linter.unusedSimpArgs false
set_option maxHeartbeats 16000000
set_option maxRecDepth 100000
namespace Go.Proofs.YtebolidfbflkmaaGreat
open Go Go.RowKit Rg Hp Bn
variable {w:World}{ds:List Nat}
theorem B5 {neg:Bool} {a:Option Addr} {c:Nat} (hv:Reads w (.slice a ds.length c) ds.length 1 (Bi ds)) (hD:Dig 256 ds) (hl:ds.length≤100000) (hc:ds.length≤c) :
  Calls Tryz.prog 58 #[.bool neg,.slice a ds.length c] w (BigPost w (w.heap.size≤·) (mkN neg (val 256 ds))):=by
 have htr:=fun w1 (hf:Fr [] w w1)=>L5 (hv.fr hf) hD o_ hc (A:=fun _=>True) (fun _ _=>trivial);obtain⟨V,hV⟩:∃ V,V=val 256 ds:=⟨_,rfl⟩;have hTl:(dg 256 V).length≤ds.length:=by rw [hV];exact (Nq hv hD 0).2
 rw [← hV] at htr ⊢;obtain⟨T,hT⟩:∃ T,dg 256 V=T:=⟨_,rfl⟩;have hTD:Dig 256 T:=by rw [← hT];exact Jw o_ V
 have hTC:Canon T:=by rw [← hT];exact Q1 o_ V
 have hTV:val 256 T=V:=by rw [← hT];exact Gn o_ V
 have h256:T.length≤256↔V<4294967296 ^ 64:=by rw [← hT,Az o_,show 256 ^ 256=4294967296 ^ 64 from Mz 64]
 have h0:T=[]↔V=0:=by rw [← hT];exact Dp o_
 rw [hT] at htr hTl;obtain⟨r,hS⟩:∃ r,r=mkN neg V:=⟨_,rfl⟩;rw [← hS];unfold mkN at hS;have Htr:=q_ htr;have HTD:=q_ hTD;have HTC:=q_ hTC;have HTV:=q_ hTV;have H0:=q_ h0;clear htr hTD hTC hTV h0 hv hD hV hT;by_cases hbig:T.length≤256
 rotate_left
 ·have hd:decide ((256:Int)<T.length)=true:=by rw [decide_eq_true_eq];omega
  rw [if_neg (fun h=>by have:=H0.o.2 h;rw [this] at hbig;simp at hbig),if_neg (fun h=>hbig (h256.2 h))] at hS;subst hS;clear hbig h256;go_enter Tryz.func58,Tryz.ntmps58;go_wp2_with fail;refine (Htr.o _ (Fr.t)).mono ?_;rintro e w1 ⟨ta,tc,hlo,rfl,hr,hf⟩;have hc_:=(hf.block (w.heap.size) f_' i_).trans (show _=some (.cells #[.bool false,.slice none 0 0] 30 (0,0)) from hpT);have c0:=hEC hc_ 0;have c0z:=hEF hc_ 0;have c1:=hEC hc_ 1;have c1z:=hEF hc_ 1;have cl:=lBk hc_;have Hc:=q_ hc_;clear hc_;have Hf:=q_ (Fr.trans0 (Fr.t:Fr [] w _) hf);clear hf hlo hr;go_wp2;(try simp only [Exit.inBlock,Exit.then]);refine bodyPost_ret (bRS rfl (b:=w.heap.size) (x:=.bool false) (y:=.slice none 0 0) rfl ?_ rfl) rfl ⟨_,_,⟨Nat.le_refl _,fun g hg=>(by cases hg)⟩,rfl,reads_nil _,?_⟩;·
   have h:=Hc.o;(repeat first|rw [if_pos o_]|rw [if_neg o_]|rw [hDR]|rw [hDN]|rw [hAz]|rw [hSz]|rw [hAC]|rw [hSC]|rw [oMS]|rw [uPC]|rw [lSZ]|rw [lSS]|rfl);rw [h];exact hpT
  ·exact (Hf.o.setCell (.inr i_) _).setCell (.inr i_) _
 ·have hd:decide ((256:Int)<T.length)=false:=by rw [decide_eq_false_iff_not];omega
  have hS2:r=(neg && decide (0<T.length),dg 4294967296 V,0):=by
   rw [hS];by_cases hV0:V=0;·rw [if_pos hV0,hV0,Bd,H0.o.2 hV0];simp
   ·rw [if_neg hV0,if_pos (h256.1 hbig)];have:0<T.length:=List.length_pos_iff.2 (fun h=>hV0 (H0.o.1 h));simp [this]
  have HS:=q_ hS2;obtain⟨n,hn⟩:∃ n,T.length=n:=⟨_,rfl⟩;rw [hn] at hbig hTl hd;have Hn:=q_ hn;clear hS hS2 h256 hn;go_enter Tryz.func58,Tryz.ntmps58;go_wp2_with fail;refine (Htr.o _ (Fr.t)).mono ?_;rintro e w1 ⟨ta,tc,hlo,rfl,hr,hf⟩;rw [Hn.o] at hr ⊢;have hc_:=(hf.block (w.heap.size) f_' i_).trans (show _=some (.cells #[.bool false,.slice none 0 0] 30 (0,0)) from hpT);have c0:=hEC hc_ 0;have c0z:=hEF hc_ 0;have c1:=hEC hc_ 1;have c1z:=hEF hc_ 1;have cl:=lBk hc_;have Hc:=q_ hc_;clear hc_;have Hf:=q_ (Fr.trans0 (Fr.t:Fr [] w _) hf);have Hr:=q_ hr;have hrr:=hr;obtain⟨_,_,_,he,hra⟩:=hrr;cases he;have Hra:=q_ hra;clear hf hlo hr hra c0 c1 c0z c1z;go_wp2_with fail;go_loopw [7] (fun x7 wl=>∃ (j:Nat) (l:List Nat) (oa:Option Addr) (oc:Nat),x7=.int .i64 (4*(j:Int))∧4*j<n+4∧l.length=j∧Dig 4294967296 l∧val 4294967296 l=val 256 (T.take (4*j))∧wl.ownsRow (w1.heap.size+1) 75 1 (.slice oa j oc) j (Aw l)∧Fr [] w1 wl ∧
   wl.heap[w1.heap.size]?=some (.cells #[.bool false,.slice oa j oc] 30 (0,0))) (fun x7 _=>n+4 - (intOf x7).toNat)
  case atStart=>exact⟨0,[],none,0,rfl,o_,rfl,Dig.nil,rfl,World.ownsRow_nil _ _ _ _,Fr.t,by (repeat first|rw [if_pos o_]|rw [if_neg o_]|rw [hDR]|rw [hDN]|rw [hAz]|rw [hSz]|rw [hAC]|rw [hSC]|rw [oMS]|rw [uPC]|rw [lSZ]|rw [lSS]|rfl)⟩
  case round =>
   obtain⟨j,l,oa,oc,rfl,hj,hlj,hDl,hvl,ho,hf,hb⟩:=hrel;obtain⟨b0,b1⟩:=e2_ hb;have b0z:=hEF hb 0;have b1z:=hEF hb 1;have bl:=lBk hb;have HDl:=q_ hDl;have Hlj:=q_ hlj;have Hvl:=q_ hvl;have Ho:=q_ ho;have Hf2:=q_ hf;have Hb:=q_ hb;have hf1:=hf.size;clear hlj hDl hvl ho hf hb;by_cases hjn:4*j<n;·
    have hjd:decide ((4:Int)*j<n)=true:=(by rw [decide_eq_true_eq];omega);obtain⟨g,off,rfl,hg,hc2⟩:=Hra.o o_;go_wp2_with fail;go_loopw [8,9] (fun x8 x9 wl=>∃ (k d:Nat) (z:Int),x8=.int .u32 d∧x9=.int .i64 z∧z=(k:Int) - 1∧k≤4∧d<256 ^ (4 - k)∧d=val 256 ((T.drop (4*j+k)).take (4 - k))∧wl=wr) (fun _ x9 _=>(intOf x9+1).toNat);case atStart=>exact⟨4,0,3,rfl,rfl,rfl,o_,o_,by simp [val],rfl⟩
    case round =>
     obtain⟨k,d,z,rfl,rfl,hz,hk,hd2,hdv,rfl⟩:=hrel;have Hd2:=q_ hd2;have Hdv:=q_ hdv;clear hd2 hdv;cases k with
     | zero =>
      obtain rfl:z=-1:=o_;have hdv:=Hdv.o;rw [Nat.add_zero,Nat.sub_zero] at hdv;have hd9:d<4294967296:=Hd2.o;have hv9:val 4294967296 (l++[d])=val 256 (T.take (4*(j+1))):=by rw [Ck,Hvl.o,Hlj.o,show 4*(j+1)=4*j+4 by omega,val_take4 T (4*j) (by have:=Hn.o;omega),Mz,← hdv]
      have Hv9:=q_ hv9;have hD9:Dig 4294967296 (l++[d]):=HDl.o.append (fun z hz=>by rw [List.mem_singleton] at hz;omega);have HD9:=q_ hD9;clear hz hdv hv9 hD9;go_wp2_with (at_builtin;refine append_u32 (n:=j) (base:=w1.heap.size+1) (xs:=Aw l) (y:=(d:Int)) rfl rfl rfl ?e1 rfl ?e2 ?e3 ?e4 ?_);case e1=>exact oOB Ho.o fun y hy=>hAE _ _ _ (oLT Ho.o hy)
      case e2=>(first|(rw [hAC,if_pos rfl];done)|exact (Array.getElem?_eq_some_iff.1 ((hAC _ _ _).trans (if_pos rfl))).2|(simp only [hDR,hDN];rw [hAC,if_pos rfl];done))
      case e3=>omega
      case e4=>have:=lBk Hb.o;(first|omega|(simp only [hDR,hDN,hAz];omega)|(simp;omega))
      intro g2 cap w9 hown1 hW1 hF1 hloc1 hg1;rw [u32s_snoc] at hown1;have hb9:=(hW1 w1.heap.size (by have:=lBk Hb.o;(first|omega|(simp only [hDR,hDN,hAz];omega)|(simp;omega))) (fun e=>by have h:=B7 Ho.o e;omega)).trans ((hAE _ _ _ (lBk Hb.o)).trans Hb.o);have Hown1:=q_ hown1;have Hf9:=q_ (Bs Hf2.o (Ft Ho.o (Nat.le_succ _)) hF1);obtain⟨q0,q1⟩:=e2_ hb9;have q0z:=hEF hb9 0;have q1z:=hEF hb9 1;have ql:=lBk hb9;have Hb9:=q_ hb9;have Hg2:Hid (w1.heap.size+1≤g2):=q_ (B7 hown1 rfl);clear hown1 hW1 hF1 hloc1 hb9 b0 b1 b0z b1z bl;go_wp2;go_roundw;case rel =>
       refine⟨j+1,l++[d],some ⟨g2,0,none⟩,cap,by go_num,o_,by rw [List.length_append,Hlj.o];rfl,HD9.o,Hv9.o,oOB Hown1.o (fun x hx=>?_),Hf9.o.setCell (.inr i_) _,?_⟩;·
        have h2:g2=x:=(by simpa [Value.ownBlock] using hx);have:=Hg2.o;exact sCE _ _ _ u_'
       ·have h:=Hb9.o;(repeat first|rw [if_pos o_]|rw [if_neg o_]|rw [hDR]|rw [hDN]|rw [hAz]|rw [hSz]|rw [hAC]|rw [hSC]|rw [oMS]|rw [uPC]|rw [lSZ]|rw [lSS]|rfl);rw [h];exact hpT
      case measure=>simp [intOf];omega
     | succ k =>
      obtain rfl:z=(k:Int):=o_;clear hz;have hd3:d<16777216:=Nat.lt_of_lt_of_le Hd2.o (Nat.pow_le_pow_right (show 0<256 by omega) (show 4 - (k+1)≤3 by omega));have hq:=val_quad T (4*j) k o_;rw [← Hdv.o] at hq;have Hq:=q_ hq;have hx:T.getD (4*j+k) 0<256:=HTD.o.getD o_ _;have hp2:T.getD (4*j+k) 0+256*d<256 ^ (4 - k):=by have h:=Hd2.o;rw [show 4 - k=(4 - (k+1))+1 by omega,Nat.pow_succ];omega
      have Hp2:=q_ hp2;clear hq hp2;by_cases hin:4*j+k<n;·
       have hdi:decide ((4:Int)*j+k<n)=true:=(by rw [decide_eq_true_eq];omega);have e1:=(Hf2.o.cell (p:=⟨g,off+(4*j+k),none⟩) hg i_).trans (hc2 (4*j+k) _ (Pn (by have:=Hn.o;omega)));generalize T.getD (4*j+k) 0=x at *
       go_wp2;go_roundw;case rel=>exact⟨k,x+256*d,(k:Int) - 1,by go_num,by go_num,rfl,o_,Hp2.o,Hq.o.symm,trivial⟩
       case measure=>simp [intOf]
      ·have hdi:decide ((4:Int)*j+k<n)=false:=(by rw [decide_eq_false_iff_not];omega);have hx0:T.getD (4*j+k) 0=0:=(by rw [List.getD_eq_getElem?_getD,List.getElem?_eq_none (by have:=Hn.o;omega)];rfl);have hp2:=Hp2.o;have hq:=Hq.o;rw [hx0,Nat.zero_add] at hp2 hq;have Hp2:=q_ hp2;have Hq:=q_ hq;clear hp2 hq hx hx0;go_wp2;go_roundw;case rel=>exact⟨k,256*d,(k:Int) - 1,by go_num,by go_num,rfl,o_,Hp2.o,Hq.o.symm,trivial⟩
       case measure=>simp [intOf]
   ·have hjd:decide ((4:Int)*j<n)=false:=(by rw [decide_eq_false_iff_not];omega);have hl:l=dg 4294967296 V:=by
     have hv:=Hvl.o;rw [List.take_of_length_le (by have:=Hn.o;omega),HTV.o] at hv;have hcan:Canon l:=by
      rcases Nat.eq_zero_or_pos j with h|h
      ·have h2:=Hlj.o;rw [h] at h2;rw [List.eq_nil_of_length_eq_zero h2];simp [Canon]
      ·refine canon_of_ge HDl.o ?_;have hne:T≠[]:=fun e=>(by have h2:=Hn.o;rw [e] at h2;simp at h2;omega);have h2:=Uc (B:=256) o_ HTD.o HTC.o hne;rw [hv,Hlj.o];rw [HTV.o,Hn.o] at h2;refine Nat.le_trans ?_ h2;rw [← Mz];exact Nat.pow_le_pow_right o_ o_
     rw [← hv,Q0 o_ HDl.o hcan]
    have hS:=HS.o;rw [← hl,Hn.o] at hS;have HS2:=q_ hS;obtain⟨ngn,hngn⟩:∃ ngn,(neg && decide (0<n))=ngn:=⟨_,rfl⟩;rw [hngn] at HS2;have hdn:decide ((0:Int)<n)=decide (0<n):=(by rw [decide_eq_decide];omega);have Hc1:=q_ (tk Hf2.o Hc);have c0:=hEC Hc1.o 0;have c1:=hEC Hc1.o 1;have c0z:=hEF Hc1.o 0;have c1z:=hEF Hc1.o 1;have cl2:=lBk Hc1.o;have hcb:w.heap.size<w1.heap.size:=cl;have Hf9:=q_ (Hf.o.trans0 Hf2.o);clear hl hS cl hj;cases neg;·
     have Hng:Hid (ngn=false):=q_ (by rw [← hngn];rfl);clear hngn hdn hjd;go_wp2;(try simp only [Exit.inBlock,Exit.then]);rw [HS2.o,Hng.o];have hlj:=Hlj.o;refine bodyPost_ret (bRS rfl (b:=w.heap.size) (x:=.bool false) (y:=.slice oa j oc) rfl ?_ rfl) rfl ⟨oa,oc,⟨by show l.length≤oc;rw [hlj];exact F7 Ho.o,fun g hg=>?_⟩,by rw [← hlj];rfl,?_,?_⟩;·
      have h:=Hc1.o;(repeat first|rw [if_pos o_]|rw [if_neg o_]|rw [hDR]|rw [hDN]|rw [hAz]|rw [hSz]|rw [hAC]|rw [hSC]|rw [oMS]|rw [uPC]|rw [lSZ]|rw [lSS]|rfl);rw [h];exact hpT
     ·have h:=B7 Ho.o (Oj oa _ _ _ oc▸hg);omega
     ·show Reads _ (.slice oa l.length oc) l.length 1 (Aw l);rw [hlj];refine (Reads.of_owns Ho.o).keep fun x hx hl=>?_;have h:=B7 Ho.o hx;rw [sCE _ _ _ u_',sCE _ _ _ u_',sCE _ _ _ u_']
     ·exact ((Hf9.o.setCell (.inr t_) _).setCell (.inr t_) _).setCell (.inr t_) _
    ·have hdn2:decide (0<n)=ngn:=(by rw [← hngn];rfl);clear hngn;go_wp2;(try simp only [Exit.inBlock,Exit.then]);rw [HS2.o];have hlj:=Hlj.o;refine bodyPost_ret (bRS rfl (b:=w.heap.size) (x:=.bool ngn) (y:=.slice oa j oc) rfl ?_ rfl) rfl ⟨oa,oc,⟨by show l.length≤oc;rw [hlj];exact F7 Ho.o,fun g hg=>?_⟩,by rw [← hlj];rfl,?_,?_⟩;·
      have h:=Hc1.o;(repeat first|rw [if_pos o_]|rw [if_neg o_]|rw [hDR]|rw [hDN]|rw [hAz]|rw [hSz]|rw [hAC]|rw [hSC]|rw [oMS]|rw [uPC]|rw [lSZ]|rw [lSS]|rfl);rw [h];exact hpT
     ·have h:=B7 Ho.o (Oj oa _ _ _ oc▸hg);omega
     ·show Reads _ (.slice oa l.length oc) l.length 1 (Aw l);rw [hlj];refine (Reads.of_owns Ho.o).keep fun x hx hl=>?_;have h:=B7 Ho.o hx;rw [sCE _ _ _ u_',sCE _ _ _ u_',sCE _ _ _ u_']
     ·exact ((Hf9.o.setCell (.inr t_) _).setCell (.inr t_) _).setCell (.inr t_) _
variable {da:List Nat}{va:Value}
theorem Jh {db:List Nat} {vb:Value} (ha:Reads w va da.length 1 (Bi da)) (hb:Reads w vb db.length 1 (Bi db)) (hDa:Dig 256 da) (hDb:Dig 256 db) (hla:da.length≤100000) (hlb:db.length≤100000) :
  Calls Tryz.prog 59 #[va,vb] w (ListVal w (w.heap.size≤·) (val 256 da+val 256 db) (max da.length db.length+1)):=by
 have hda:=fun w1 (hf:Fr [] w w1) i=>Fo (ha.fr hf) o_ i;have hdb:=fun w1 (hf:Fr [] w w1) i=>Fo (hb.fr hf) o_ i;have Hda:=q_ hda;have Hdb:=q_ hdb;obtain⟨_,a,ac,rfl,haa⟩:=ha;obtain⟨_,b,bc,rfl,hbb⟩:=hb;have HDa:=q_ hDa;have HDb:=q_ hDb;obtain⟨M,hM⟩:∃ M,max da.length db.length=M:=⟨_,rfl⟩;have hM1:da.length≤M:=o_
 have hM3:M≤100000:=o_
 have hM2:db.length≤M:=o_
 have HM:=q_ hM;rw [hM];clear hda hdb haa hbb hDa hDb hM;go_enter Tryz.func59,Tryz.ntmps59;go_wp2_with fail;go_loopw [5,6,7] (fun x5 x6 x7 wl=>∃ (i c:Nat) (L:List Nat),x6=.int .i64 c∧x7=.int .i64 i∧i≤M+1∧c≤1∧(i=M+1→c=0)∧Dig 256 L∧L.length=i∧val 256 L+256 ^ i*c=val 256 (da.take i)+val 256 (db.take i)∧wl.ownsRow w.heap.size 3 1 x5 L.length (Bi L)∧Fr [] w wl) (fun _ _ x7 _=>M+1 - (intOf x7).toNat);case atStart=>exact⟨0,0,[],rfl,rfl,o_,o_,o_,Dig.nil,rfl,by simp [val],World.ownsRow_nil _ _ _ _,Fr.refl _ _⟩
 case round =>
  obtain⟨i,c,L,rfl,rfl,hi,hc,hcz,hD,hL,hv,ho,hf⟩:=hrel;obtain⟨oa,oc,rfl,hoa,hon⟩:=oFM ho;have HDL:=q_ hD;have HL:=q_ hL;have Hv:=q_ hv;have Ho:=q_ ho;have Hf:=q_ hf;have Hcz:=q_ hcz;clear hoa hon hD hL hv ho hf hcz;by_cases hgo:i<da.length∨i<db.length∨0<c;·
   obtain⟨g1,hg1⟩:∃ g1,decide ((i:Int)<da.length)=g1:=⟨_,rfl⟩;obtain⟨g2,hg2⟩:∃ g2,decide ((i:Int)<db.length)=g2:=⟨_,rfl⟩;obtain⟨g3,hg3⟩:∃ g3,decide (0<c)=g3:=⟨_,rfl⟩;have hg1':decide (i<da.length)=g1:=(by rw [← hg1,decide_eq_decide];omega);have hg2':decide (i<db.length)=g2:=(by rw [← hg2,decide_eq_decide];omega);have hb3:g1=true∨(g1=false∧g2=true)∨(g1=false∧g2=false∧g3=true):=by cases g1<;>cases g2<;>cases g3<;>simp_all<;>omega
   have him:i≤M:=by
    rcases Nat.lt_or_ge M i with h|h
    ·have:=Hcz.o o_;omega
    ·exact h
   have hx:da.getD i 0<256:=HDa.o.getD o_ i;have hy:db.getD i 0<256:=HDb.o.getD o_ i;have hxm:da.length≤i→da.getD i 0=0:=fun h=>(by rw [List.getD_eq_getElem?_getD,List.getElem?_eq_none h];rfl);have hym:db.length≤i→db.getD i 0=0:=fun h=>(by rw [List.getD_eq_getElem?_getD,List.getElem?_eq_none h];rfl);have Hxm:=q_ (And.intro hxm hym);have hta:=Am 256 da i;have htb:=Am 256 db i;have Hta:=q_ (And.intro hta htb);have Hda2:=q_ (fun w1 hf=>Hda.o w1 hf i);have Hdb2:=q_ (fun w1 hf=>Hdb.o w1 hf i);have Hgo:=q_ hgo;clear hxm hym hta htb hgo;generalize da.getD i 0=x at *
   generalize db.getD i 0=y at *
   obtain⟨s,hs⟩:∃ s,s=c+x+y:=⟨_,rfl⟩;have Es:((x:Int)+y+c)=(s:Nat):=o_;have hs9:s<1000:=o_;obtain⟨d,hd⟩:∃ d,s % 256=d:=⟨_,rfl⟩;have Ed:((s:Int) % 256)=(d:Nat):=o_;have Hst:=q_ (Oy (B:=256) o_ Hv.o hs);have Hs:=q_ (And.intro hs hd);clear hs hd;rcases hb3 with rfl|⟨rfl,rfl⟩|⟨rfl,rfl,rfl⟩
   all_goals
    go_wp2_with fail;refine (Hda2.o _ Hf.o).mono ?_;rintro e w2 ⟨rfl,rfl⟩;go_wp2_with fail;refine (Hdb2.o _ Hf.o).mono ?_;rintro e w2 ⟨rfl,rfl⟩;go_wp2_with (at_builtin;refine Bz (n:=L.length) (base:=w.heap.size) (xs:=(Bi L)) (y:=(d:Int)) rfl rfl rfl ?e1 rfl ?e2 ?e3 ?e4 ?_);case e1=>exact oOB Ho.o fun y hy=>hAE _ _ _ (oLT Ho.o hy)
    case e2=>first|(first|(rw [hAC,if_pos rfl];done)|exact (Array.getElem?_eq_some_iff.1 ((hAC _ _ _).trans (if_pos rfl))).2|(simp only [hDR,hDN];rw [hAC,if_pos rfl];done))|(repeat first|rw [if_pos o_]|rw [if_neg o_]|rw [hDR]|rw [hDN]|rw [hAz]|rw [hSz]|rw [hAC]|rw [hSC]|rw [oMS]|rw [uPC]|rw [lSZ]|rw [lSS]|rfl)
    case e3=>(have:=HL.o;omega)
    case e4=>have:=Hf.o.size;(first|omega|(simp only [hDR,hDN,hAz];omega)|(simp;omega))
    intro g2 cap w9 hown1 hW1 hF1 hloc1 hg1;rw [D5] at hown1;have Hown1:=q_ hown1;have Hf9:=q_ (Bs Hf.o Ho.o hF1);clear hown1 hW1 hF1 hloc1;go_wp2;go_roundw;case rel =>
     have hst:=Hst.o;rw [Hs.o.2] at hst;refine⟨i+1,s / 256,L++[d],by go_num,by go_num,o_,o_,fun h=>?_,HDL.o.append (fun z hz=>by rw [List.mem_singleton] at hz;have:=Hs.o;omega),by rw [List.length_append,HL.o];rfl,?_,by rw [List.length_append];exact Hown1.o,Hf9.o⟩;·
      have h1:=Hxm.o.1 o_;have h2:=Hxm.o.2 o_;have:=Hs.o;omega
     ·rw [Ck,HL.o,Hta.o.1,Hta.o.2,Nat.pow_succ];exact hst
    case measure=>simp [intOf];omega
  ·have hc0:c=0:=o_;have hg1:decide ((i:Int)<da.length)=false:=(by rw [decide_eq_false_iff_not];omega);have hg2:decide ((i:Int)<db.length)=false:=(by rw [decide_eq_false_iff_not];omega);have hg1':decide (i<da.length)=false:=(by rw [decide_eq_false_iff_not];omega);have hg2':decide (i<db.length)=false:=(by rw [decide_eq_false_iff_not];omega);have hv:=Hv.o;rw [List.take_of_length_le o_,List.take_of_length_le o_,hc0,Nat.mul_zero,Nat.add_zero] at hv;have Hv2:=q_ hv;subst hc0;clear hv hgo;go_wp2;go_ret;exact⟨L,HDL.o,Hv2.o,by rw [HL.o];exact hi,oa,oc,⟨F7 Ho.o,fun g hg=>B7 Ho.o hg⟩,rfl,Reads.of_owns Ho.o,Hf.o⟩
theorem RNeg_calls {na:Bool} (ha:Reads w va da.length 1 (Aw da)) (hDa:Dig 4294967296 da) (hla:da.length≤10000) :
  Calls Tryz.prog 35 #[.agg #[.bool na,va]] w (Mt w (w.heap.size≤·) (Tj na da)):=by
 have hra:=fun w1 (hf:Fr [] w w1)=>Mo (neg:=na) (ha.fr hf) o_;have hcl:=fun w1 (hf:Fr [] w w1)=>O6 (neg:=na) (ha.fr hf) hDa o_;obtain⟨_,a,ac,rfl,_⟩:=ha;obtain⟨V,hV⟩:∃ V,val 4294967296 da=V:=⟨_,rfl⟩;obtain⟨X,hX⟩:∃ X,dg 256 V=X:=⟨_,rfl⟩;have hXV:val 256 X=V:=by rw [← hX];exact Gn o_ V
 have hXD:Dig 256 X:=by rw [← hX];exact Jw o_ V
 have hXl:X.length≤40000:=by have h:=dg_len256 (k:=10000) hla (Ce hDa);rw [hV,hX] at h;omega
 rw [hV,hX] at hcl;have Hcl:=q_ hcl;obtain⟨r,hS⟩:∃ r,r=Tj na da:=⟨_,rfl⟩;rw [← hS];unfold Tj at hS;rw [hV] at hS;clear hDa hcl hV hX;cases hR1:A7 na da with
 | false =>
  rw [hR1] at hra hS;rw [if_pos rfl] at hS;subst hS;have Hra:=q_ hra;clear hR1 hra;go_enter Tryz.func35,Tryz.ntmps35;go_wp2_with fail;refine (Hra.o _ (Fr.t)).mono ?_;rintro e w1 ⟨rfl,hf⟩;have hc_:=(hf.block (w.heap.size+1) f_' i_).trans (show _=some (.cells #[.bool false,.slice none 0 0] 30 (0,0)) from hpT);have c0:=hEC hc_ 0;have c0z:=hEF hc_ 0;have c1:=hEC hc_ 1;have c1z:=hEF hc_ 1;have cl:=lBk hc_;have Hc:=q_ hc_;clear hc_;have Hf:=q_ (Fr.trans0 (Fr.t:Fr [] w _) hf);clear hf;go_wp2;(try simp only [Exit.inBlock,Exit.then]);refine bodyPost_ret (Ai rfl (b:=w.heap.size+1) (x:=.bool false) (y:=.slice none 0 0) rfl ?_) rfl ⟨_,_,⟨Nat.le_refl _,fun g hg=>(by cases hg)⟩,rfl,reads_nil _,?_⟩;·
   have h:=Hc.o;(repeat first|rw [if_pos o_]|rw [if_neg o_]|rw [hDR]|rw [hDN]|rw [hAz]|rw [hSz]|rw [hAC]|rw [hSC]|rw [oMS]|rw [uPC]|rw [lSZ]|rw [lSS]|rfl);rw [h];exact hpT
  ·exact (Hf.o.setCell (.inr t_) _).setCell (.inr t_) _
 | true =>
  rw [hR1] at hra hS;rw [if_neg (by decide)] at hS;rw [← hXV] at hS;have Hmd:=q_ (fun (w1:World) (a:Option Addr) (c:Nat) (hv:Reads w1 (.slice a X.length c) X.length 1 (Bi X)) (hc:X.length≤c)=>hS▸B5 (neg:=!na) hv hXD o_ hc);have Hra:=q_ hra;clear hR1 hra hS hXV hXD;go_enter Tryz.func35,Tryz.ntmps35;go_wp2_with fail;refine (Hra.o _ (Fr.t)).mono ?_;rintro e w1 ⟨rfl,hf⟩;have ha1:=(hf.block w.heap.size u_' i_).trans (show _=some (.cells #[.bool na,.slice a da.length ac] 30 (0,0)) from hpT);obtain⟨a0,a1,al⟩:=l2_ ha1;have Ha1:=q_ ha1;have Hc1:=q_ ((hf.block (w.heap.size+1) i_ i_).trans (show _=some (.cells #[.bool false,.slice none 0 0] 30 (0,0)) from hpT));have Hf1:=q_ (Fr.trans0 (Fr.t:Fr [] w _) hf);clear hf ha1;go_wp2;have n10:=World.new_ne w1 _ a0;have n11:=World.new_ne w1 _ a1;go_region_held3 (fun w'=>w'.cell? ⟨w.heap.size,0,none⟩=some (.bool na)∧w'.cell? ⟨w.heap.size,1,none⟩=some (.slice a da.length ac)) (first|go_keep|exact⟨k20,k21⟩|exact⟨k30,k31⟩)
   (first|(go_at_call 30;refine (Hcl.o _ ?_).mono ?_;(· refine Hf1.o.trans0 ?_;(repeat first|exact Fr.refl _ _|assumption|apply Fr.n|apply Fr.d|apply Fr.a|refine Fr.s ?_ (.inl i_) _));rintro e w2 ⟨pa,pc,ho,rfl,hr2,hf0⟩;have h12:Fr [] w1 w2:=Fr.trans0 (by (repeat first|exact Fr.refl _ _|assumption|apply Fr.n|apply Fr.d|apply Fr.a|refine Fr.s ?_ (.inl i_) _)) hf0;have k20:=(h12.cell (p:=⟨w.heap.size,0,none⟩) al i_).trans a0;have k21:=(h12.cell (p:=⟨w.heap.size,1,none⟩) al i_).trans a1;have n20:=World.new_ne w2 _ k20;have n21:=World.new_ne w2 _ k21;obtain⟨c2,z2⟩:=Li hf0;(try (have s2:w1.heap.size<w2.heap.size:=by have h:=hf0.size;simp at h;omega)))|(go_at_call 58;refine (Hmd.o _ _ _ (hr2.fr ?_) ho.1).mono ?_;(· (repeat first|exact Fr.refl _ _|assumption|apply Fr.n|apply Fr.d|apply Fr.a|refine Fr.s ?_ (.inl i_) _));rintro e w3 ⟨ra,rc,hlo,rfl,hr,hf⟩;have h13:Fr [] w1 w3:=Fr.trans0 (Fr.trans0 h12 (by (repeat first|exact Fr.refl _ _|assumption|apply Fr.n|apply Fr.d|apply Fr.a|refine Fr.s ?_ (.inl i_) _):Fr [] w2 _)) hf;have k30:=(h13.cell (p:=⟨w.heap.size,0,none⟩) al i_).trans a0;have k31:=(h13.cell (p:=⟨w.heap.size,1,none⟩) al i_).trans a1;have n30:=World.new_ne w3 _ k30;have n31:=World.new_ne w3 _ k31;obtain⟨c3,z3⟩:=Li hf;(try (have s3:w2.heap.size<w3.heap.size:=by have h:=hf.size;simp at h;omega));(try (have s4:w1.heap.size<w3.heap.size:=by have h:=hf.size;simp at h;omega))))
  all_goals
   have hgo:=hlo.2;have Hlo1:=q_ hlo.1;have hc4:=tk h13 Hc1;have cl0:w.heap.size+1<w1.heap.size:=lBk Hc1.o;have hs12:=h12.size;have hs13:=h13.size;have hs23:=hf.size;clear n10 n11 n20 n21 n30 n31 k20 k21 k30 k31 a0 a1;have p0:=hEC Hc1.o 0;have p1:=hEC Hc1.o 1;have pz0:=hEF Hc1.o 0;have pz1:=hEF Hc1.o 1;obtain⟨q0,q1⟩:=e2_ hc4;have z0:=hEF hc4 0;have z1:=hEF hc4 1;have cl:=lBk hc4;have Hc:=q_ hc4;have Hgo:=q_ hgo;have Hr:=q_ hr;have Hf:=q_ (Hf1.o.trans0 h13);clear hlo hr hf h12 h13 hf0 hc4 hgo ho hr2;obtain⟨r1,r2,r3⟩:=r;go_wp2;(try simp only [Exit.inBlock,Exit.then]);refine bodyPost_ret (Ai rfl (b:=w.heap.size+1) (x:=.bool r1) (y:=.slice ra r2.length rc) rfl ?_) rfl ⟨_,_,⟨Hlo1.o,fun g hg=>(by have h:=Hgo.o g hg;(try simp at h);omega)⟩,rfl,?_,?_⟩;·
    have h:=Hc.o;(repeat first|rw [if_pos o_]|rw [if_neg o_]|rw [hDR]|rw [hDN]|rw [hAz]|rw [hSz]|rw [hAC]|rw [hSC]|rw [oMS]|rw [uPC]|rw [lSZ]|rw [lSS]|rfl);first|exact h|(rw [h];(repeat first|rw [if_pos o_]|rw [if_neg o_]|rw [hDR]|rw [hDN]|rw [hAz]|rw [hSz]|rw [hAC]|rw [hSC]|rw [oMS]|rw [uPC]|rw [lSZ]|rw [lSS]|rfl))
   ·refine Hr.o.keep fun x hx hl=>?_;have h1:=Hgo.o x hx;(try simp at h1);(try simp at hs23);repeat (first|rw [sCE _ _ _ u_']|rw [hAE _ _ _ u_'])
   ·repeat (first|exact Hf.o|refine Fr.alloc ?_ _|refine Fr.setCell ?_ (.inr f_') _)
theorem RFrom_calls {n:Int} (h1:-9223372036854775808≤n) (h2:n<9223372036854775808) :
  Calls Tryz.prog 16 #[.int .i64 n] w (Mt w (w.heap.size≤·) (Nx n)):=by
 unfold Nx;obtain⟨v,hv⟩:∃ v,v=n.natAbs:=⟨_,rfl⟩;rw [← hv];have hv64':v<256 ^ 8:=o_
 have HV64:=q_ hv64';clear hv64';by_cases hn:n<0;·
  have hd:decide (n<0)=true:=by simpa using hn
  rw [hd];obtain⟨r,hrr⟩:∃ r,mkN true v=r:=⟨_,rfl⟩;rw [hrr];have HRR:=q_ hrr;clear hrr;have Ev:IntKind.u64.wrap (-IntKind.u64.wrap n)=(v:Nat):=by rw [wrap_u64,wrap_u64];omega
  go_enter Tryz.func16,Tryz.ntmps16;go_wp2_with fail;go_loopw [3,4] (fun x3 x4 wl=>∃ (u:Nat) (L:List Nat),x3=.int .u64 u∧Dig 256 L∧L.length≤8∧u<256 ^ (8 - L.length)∧val 256 L+256 ^ L.length*u=v∧wl.ownsRow (w.heap.size+1) 3 1 x4 L.length (Bi L)∧Fr [] w wl ∧
   wl.heap[w.heap.size]?=some (.cells #[.bool false,.slice none 0 0] 30 (0,0))) (fun x3 _ _=>(intOf x3).toNat)
  case atStart=>exact⟨v,[],by first|rfl|(simp;omega)|(go_num),Dig.nil,i_,HV64.o,by simp [val],World.ownsRow_nil _ _ _ _,Fr.t,by (repeat first|rw [if_pos o_]|rw [if_neg o_]|rw [hDR]|rw [hDN]|rw [hAz]|rw [hSz]|rw [hAC]|rw [hSC]|rw [oMS]|rw [uPC]|rw [lSZ]|rw [lSS]|rfl)⟩
  case round =>
   obtain⟨u,L,rfl,hD,hL,hu,hval,ho,hf,hb⟩:=hrel;obtain⟨oa,oc,rfl,hoa,hon⟩:=oFM ho;have HD:=q_ hD;have Hval:=q_ hval;have Ho:=q_ ho;have Hf:=q_ hf;have Hb:=q_ hb;have Hu:=q_ hu;have hub:u<18446744073709551616:=Nat.lt_of_lt_of_le hu (Nat.pow_le_pow_right (show 0<256 by omega) (show 8 - L.length≤8 by omega));clear hoa hon hD hval ho hf hb hu;rcases Nat.eq_zero_or_pos u with h0|hp
   ·subst h0;have hv:=Hval.o;rw [Nat.mul_zero,Nat.add_zero] at hv;have hbg:=B5 (neg:=true) (Reads.of_owns Ho.o) HD.o o_ (F7 Ho.o);rw [hv,HRR.o] at hbg;have Hbg:=q_ hbg;clear hv hbg;go_wp2_with fail;refine Hbg.o.mono ?_;rintro e w2 ⟨ra,rc,hlo,rfl,hr,hf⟩;have Hc:=Hb;(try clear c0 c1 c0z c1z cl);have hc_:=tk hf Hc;clear Hc;have c0:=hEC hc_ 0;have c0z:=hEF hc_ 0;have c1:=hEC hc_ 1;have c1z:=hEF hc_ 1;have cl:=lBk hc_;have Hc:=q_ hc_;clear hc_;have Hlo:=q_ hlo;have Hr:=q_ hr;have Hs:=q_ Hf.o.size;have Hf:=q_ (Hf.o.trans0 hf);clear hlo hr hf;obtain⟨r1,r2,r3⟩:=r;go_wp2;(try simp only [Exit.inBlock,Exit.then]);refine bodyPost_ret (Ai rfl (b:=w.heap.size) (x:=.bool r1) (y:=.slice ra r2.length rc) rfl ?_) rfl ⟨_,_,⟨Hlo.o.1,fun g hg=>(by have h:=Hlo.o.2 g hg;have:=Hs.o;omega)⟩,rfl,?_,?_⟩;·
     have h:=Hc.o;(repeat first|rw [if_pos o_]|rw [if_neg o_]|rw [hDR]|rw [hDN]|rw [hAz]|rw [hSz]|rw [hAC]|rw [hSC]|rw [oMS]|rw [uPC]|rw [lSZ]|rw [lSS]|rfl);first|exact h|(rw [h];(repeat first|rw [if_pos o_]|rw [if_neg o_]|rw [hDR]|rw [hDN]|rw [hAz]|rw [hSz]|rw [hAC]|rw [hSC]|rw [oMS]|rw [uPC]|rw [lSZ]|rw [lSS]|rfl))
    ·refine Hr.o.keep fun x hx hl=>?_;have h1:=Hlo.o.2 x hx;have:=lBk Hb.o;rw [hAE _ _ _ (by simp only [hSz];exact hl),sCE _ _ _ u_',sCE _ _ _ u_']
    ·repeat (first|exact Hf.o|refine Fr.alloc ?_ _|refine Fr.setCell ?_ (.inr f_') _)
   ·obtain⟨d,hd⟩:∃ d,u % 256=d:=⟨_,rfl⟩;have Ed:((u:Int) % 256)=(d:Nat):=o_;have hd256:d<256:=o_;have Hd:=q_ hd;clear hd;have hL8:L.length<8:=by
     rcases Nat.lt_or_ge L.length 8 with h|h
     ·exact h
     ·have h2:=Hu.o;rw [show 8 - L.length=0 by omega] at h2;omega
    have Hf1:=q_ (show Fr [] w _ from Hf.o);have hbl:=lBk Hb.o;go_wp2_with (at_builtin;refine Bz (n:=L.length) (base:=(w.heap.size+1)) (xs:=(Bi L)) (y:=(d:Int)) rfl rfl rfl ?e1 rfl ?e2 ?e3 ?e4 ?_);case e1=>exact oOB Ho.o fun y hy=>hAE _ _ _ (oLT Ho.o hy)
    case e2=>first|(first|(rw [hAC,if_pos rfl];done)|exact (Array.getElem?_eq_some_iff.1 ((hAC _ _ _).trans (if_pos rfl))).2|(simp only [hDR,hDN];rw [hAC,if_pos rfl];done))|(repeat first|rw [if_pos o_]|rw [if_neg o_]|rw [hDR]|rw [hDN]|rw [hAz]|rw [hSz]|rw [hAC]|rw [hSC]|rw [oMS]|rw [uPC]|rw [lSZ]|rw [lSS]|rfl)
    case e3=>omega
    case e4=>have:=Hf1.o.size;have:=lBk Hb.o;(first|omega|(simp only [hDR,hDN,hAz];omega)|(simp;omega))
    intro g2 cap w9 hown1 hW1 hF1 hloc1 hg1;rw [D5] at hown1;have Hb9:=q_ ((hW1 w.heap.size (by have:=lBk Hb.o;(first|omega|(simp only [hDR,hDN,hAz];omega)|(simp;omega))) (fun e=>by have h:=B7 Ho.o e;omega)).trans ((hAE _ _ _ (lBk Hb.o)).trans Hb.o));have Hown1:=q_ hown1;have Hf9:=q_ (Bs Hf1.o (Ft Ho.o (Nat.le_succ _)) hF1);clear hown1 hW1 hF1 hloc1;go_wp2;go_roundw;case rel =>
     refine⟨u / 256,L++[d],by go_num,HD.o.append (fun z hz=>by rw [List.mem_singleton] at hz;omega),by rw [List.length_append];simp;omega,?_,?_,by rw [List.length_append];exact Hown1.o,Hf9.o,Hb9.o⟩;·
      have h:=Hu.o;rw [List.length_append,List.length_singleton,Nat.div_lt_iff_lt_mul o_,← Nat.pow_succ,show (8 - (L.length+1)).succ=8 - L.length by omega];exact h
     ·rw [Ck,List.length_append,List.length_singleton,Nat.pow_succ,← Hd.o,Nat.add_assoc,Pg];exact Hval.o
    case measure=>simp [intOf];omega
 ·have hd:decide (n<0)=false:=by simpa using hn
  rw [hd];obtain⟨r,hrr⟩:∃ r,mkN false v=r:=⟨_,rfl⟩;rw [hrr];have HRR:=q_ hrr;clear hrr;obtain rfl:n=(v:Int):=o_
  have Ev2:IntKind.u64.wrap ((v:Nat):Int)=(v:Nat):=by rw [wrap_u64];omega
  have hd2:decide ((v:Int)<0)=false:=hd;clear hd hn hv h1 h2;go_enter Tryz.func16,Tryz.ntmps16;go_wp2_with fail;go_loopw [3,4] (fun x3 x4 wl=>∃ (u:Nat) (L:List Nat),x3=.int .u64 u∧Dig 256 L∧L.length≤8∧u<256 ^ (8 - L.length)∧val 256 L+256 ^ L.length*u=v∧wl.ownsRow (w.heap.size+1) 3 1 x4 L.length (Bi L)∧Fr [] w wl ∧
   wl.heap[w.heap.size]?=some (.cells #[.bool false,.slice none 0 0] 30 (0,0))) (fun x3 _ _=>(intOf x3).toNat)
  case atStart=>exact⟨v,[],by first|rfl|(simp;omega)|(go_num),Dig.nil,i_,HV64.o,by simp [val],World.ownsRow_nil _ _ _ _,Fr.t,by (repeat first|rw [if_pos o_]|rw [if_neg o_]|rw [hDR]|rw [hDN]|rw [hAz]|rw [hSz]|rw [hAC]|rw [hSC]|rw [oMS]|rw [uPC]|rw [lSZ]|rw [lSS]|rfl)⟩
  case round =>
   obtain⟨u,L,rfl,hD,hL,hu,hval,ho,hf,hb⟩:=hrel;obtain⟨oa,oc,rfl,hoa,hon⟩:=oFM ho;have HD:=q_ hD;have Hval:=q_ hval;have Ho:=q_ ho;have Hf:=q_ hf;have Hb:=q_ hb;have Hu:=q_ hu;have hub:u<18446744073709551616:=Nat.lt_of_lt_of_le hu (Nat.pow_le_pow_right (show 0<256 by omega) (show 8 - L.length≤8 by omega));clear hoa hon hD hval ho hf hb hu;rcases Nat.eq_zero_or_pos u with h0|hp
   ·subst h0;have hv:=Hval.o;rw [Nat.mul_zero,Nat.add_zero] at hv;have hbg:=B5 (neg:=false) (Reads.of_owns Ho.o) HD.o o_ (F7 Ho.o);rw [hv,HRR.o] at hbg;have Hbg:=q_ hbg;clear hv hbg;go_wp2_with fail;refine Hbg.o.mono ?_;rintro e w2 ⟨ra,rc,hlo,rfl,hr,hf⟩;have Hc:=Hb;(try clear c0 c1 c0z c1z cl);have hc_:=tk hf Hc;clear Hc;have c0:=hEC hc_ 0;have c0z:=hEF hc_ 0;have c1:=hEC hc_ 1;have c1z:=hEF hc_ 1;have cl:=lBk hc_;have Hc:=q_ hc_;clear hc_;have Hlo:=q_ hlo;have Hr:=q_ hr;have Hs:=q_ Hf.o.size;have Hf:=q_ (Hf.o.trans0 hf);clear hlo hr hf;obtain⟨r1,r2,r3⟩:=r;go_wp2;(try simp only [Exit.inBlock,Exit.then]);refine bodyPost_ret (Ai rfl (b:=w.heap.size) (x:=.bool r1) (y:=.slice ra r2.length rc) rfl ?_) rfl ⟨_,_,⟨Hlo.o.1,fun g hg=>(by have h:=Hlo.o.2 g hg;have:=Hs.o;omega)⟩,rfl,?_,?_⟩;·
     have h:=Hc.o;(repeat first|rw [if_pos o_]|rw [if_neg o_]|rw [hDR]|rw [hDN]|rw [hAz]|rw [hSz]|rw [hAC]|rw [hSC]|rw [oMS]|rw [uPC]|rw [lSZ]|rw [lSS]|rfl);first|exact h|(rw [h];(repeat first|rw [if_pos o_]|rw [if_neg o_]|rw [hDR]|rw [hDN]|rw [hAz]|rw [hSz]|rw [hAC]|rw [hSC]|rw [oMS]|rw [uPC]|rw [lSZ]|rw [lSS]|rfl))
    ·refine Hr.o.keep fun x hx hl=>?_;have h1:=Hlo.o.2 x hx;have:=lBk Hb.o;rw [hAE _ _ _ (by simp only [hSz];exact hl),sCE _ _ _ u_',sCE _ _ _ u_']
    ·repeat (first|exact Hf.o|refine Fr.alloc ?_ _|refine Fr.setCell ?_ (.inr f_') _)
   ·obtain⟨d,hd⟩:∃ d,u % 256=d:=⟨_,rfl⟩;have Ed:((u:Int) % 256)=(d:Nat):=o_;have hd256:d<256:=o_;have Hd:=q_ hd;clear hd;have hL8:L.length<8:=by
     rcases Nat.lt_or_ge L.length 8 with h|h
     ·exact h
     ·have h2:=Hu.o;rw [show 8 - L.length=0 by omega] at h2;omega
    have Hf1:=q_ (show Fr [] w _ from Hf.o);have hbl:=lBk Hb.o;go_wp2_with (at_builtin;refine Bz (n:=L.length) (base:=(w.heap.size+1)) (xs:=(Bi L)) (y:=(d:Int)) rfl rfl rfl ?e1 rfl ?e2 ?e3 ?e4 ?_);case e1=>exact oOB Ho.o fun y hy=>hAE _ _ _ (oLT Ho.o hy)
    case e2=>first|(first|(rw [hAC,if_pos rfl];done)|exact (Array.getElem?_eq_some_iff.1 ((hAC _ _ _).trans (if_pos rfl))).2|(simp only [hDR,hDN];rw [hAC,if_pos rfl];done))|(repeat first|rw [if_pos o_]|rw [if_neg o_]|rw [hDR]|rw [hDN]|rw [hAz]|rw [hSz]|rw [hAC]|rw [hSC]|rw [oMS]|rw [uPC]|rw [lSZ]|rw [lSS]|rfl)
    case e3=>omega
    case e4=>have:=Hf1.o.size;have:=lBk Hb.o;(first|omega|(simp only [hDR,hDN,hAz];omega)|(simp;omega))
    intro g2 cap w9 hown1 hW1 hF1 hloc1 hg1;rw [D5] at hown1;have Hb9:=q_ ((hW1 w.heap.size (by have:=lBk Hb.o;(first|omega|(simp only [hDR,hDN,hAz];omega)|(simp;omega))) (fun e=>by have h:=B7 Ho.o e;omega)).trans ((hAE _ _ _ (lBk Hb.o)).trans Hb.o));have Hown1:=q_ hown1;have Hf9:=q_ (Bs Hf1.o (Ft Ho.o (Nat.le_succ _)) hF1);clear hown1 hW1 hF1 hloc1;go_wp2;go_roundw;case rel =>
     refine⟨u / 256,L++[d],by go_num,HD.o.append (fun z hz=>by rw [List.mem_singleton] at hz;omega),by rw [List.length_append];simp;omega,?_,?_,by rw [List.length_append];exact Hown1.o,Hf9.o,Hb9.o⟩;·
      have h:=Hu.o;rw [List.length_append,List.length_singleton,Nat.div_lt_iff_lt_mul o_,← Nat.pow_succ,show (8 - (L.length+1)).succ=8 - L.length by omega];exact h
     ·rw [Ck,List.length_append,List.length_singleton,Nat.pow_succ,← Hd.o,Nat.add_assoc,Pg];exact Hval.o
    case measure=>simp [intOf];omega
variable {v:Value}
theorem Ni (hv:Reads w v ds.length 1 (Bi ds)) (hD:Dig 256 ds) (hl:ds.length≤100000) (k:Nat) (hk:k≤9223372036854775807) :
  Calls Tryz.prog 77 #[v,.int .i64 k] w fun e w'=>e=.returned (.int .i64 (val 256 ds / 2 ^ k % 2:Nat))∧w=w':=by
 have hdg:=Fo hv o_ (k / 8);have hx:ds.getD (k / 8) 0<256:=hD.getD o_ _;have hb:=bit_val hD k;obtain⟨_,a,c,rfl,_⟩:=hv;obtain⟨j,hj⟩:∃ j,k / 8=j:=⟨_,rfl⟩;obtain⟨m,hm⟩:∃ m,k % 8=m:=⟨_,rfl⟩;have Ej:((k:Int) / 8)=(j:Nat):=o_
 have Em:((k:Int) % 8)=(m:Nat):=o_
 have hm8:m<8:=o_
 rw [← hb];rw [hj] at hx hdg;rw [hj,hm];clear hb hj hm;have Hdg:=q_ hdg;clear hdg;generalize ds.getD j 0=x at *
 go_enter Tryz.func77,Tryz.ntmps77;go_wp2_with fail;refine Hdg.o.mono ?_;rintro e w1 ⟨rfl,rfl⟩;go_wp2_with fail;go_loop [5,6] (fun x5 x6=>∃ i:Nat,x5=.int .i64 (x / 2 ^ i:Nat)∧x6=.int .i64 i∧i≤m) (fun _ x6=>m - (intOf x6).toNat);case atStart=>exact⟨0,i_,rfl,o_⟩
 case round =>
  obtain⟨i,rfl,rfl,hi⟩:=hrel;by_cases him:i<m;·
   have hle:x / 2 ^ i≤x:=Nat.div_le_self _ _;have e2:((x / 2 ^ (i+1):Nat):Int)=((x / 2 ^ i:Nat):Int) / 2:=(by rw [Nat.pow_succ,← Nat.div_div_eq_div_mul];omega);have E2:=q_ e2;clear e2;generalize x / 2 ^ i=y at *
   go_wp2;go_round;case rel=>exact⟨i+1,by rw [E2.o],by go_num,o_⟩
   case measure=>simp [intOf];omega
  ·obtain rfl:i=m:=o_;have hle:x / 2 ^ i≤x:=Nat.div_le_self _ _;obtain⟨y,hy⟩:∃ y,x / 2 ^ i=y:=⟨_,rfl⟩;have E:=q_ (show ((x:Int) / 2 ^ i % 2)=(y:Int) % 2 by rw [← hy];simp);rw [hy] at hle ⊢;clear hy;go_wp2;go_ret;exact⟨by rw [E.o];rfl,rfl⟩
theorem Iu (hv:Reads w v ds.length 1 (Bi ds)) (hD:Dig 2 ds) (hl:ds.length≤100000) :
  Calls Tryz.prog 78 #[v] w (Mq w (w.heap.size≤·) (dg 256 (val 2 ds))):=by
 have hdg:=fun w1 (hf:Fr [] w w1) i=>Fo (hv.fr hf) o_ i;have Hdg:=q_ hdg;have HD:=q_ hD;obtain⟨_,a,c,rfl,_⟩:=hv;obtain⟨n,hn⟩:∃ n,ds.length=n:=⟨_,rfl⟩;have Hn:=q_ hn;rw [hn] at hl Hdg ⊢;clear hdg hD hn;go_enter Tryz.func78,Tryz.ntmps78;go_wp2_with fail;go_loopw [3,4] (fun x3 x4 wl=>∃ (j:Nat) (L:List Nat),x4=.int .i64 (8*(j:Int))∧8*j<n+8∧Dig 256 L∧L.length=j∧val 256 L=val 2 (ds.take (8*j))∧wl.ownsRow w.heap.size 3 1 x3 L.length (Bi L)∧Fr [] w wl) (fun _ x4 _=>n+8 - (intOf x4).toNat);case atStart=>exact⟨0,[],rfl,o_,Dig.nil,rfl,rfl,World.ownsRow_nil _ _ _ _,Fr.refl _ _⟩
 case round =>
  obtain⟨j,L,rfl,hj,hDL,hL,hv,ho,hf⟩:=hrel;obtain⟨oa,oc,rfl,hoa,hon⟩:=oFM ho;have HDL:=q_ hDL;have HL:=q_ hL;have Hv:=q_ hv;have Ho:=q_ ho;have Hf:=q_ hf;clear hoa hon hDL hL hv ho hf;by_cases hjn:8*j<n;·
   have hjd:decide ((8:Int)*j<n)=true:=(by rw [decide_eq_true_eq];omega);go_wp2_with fail;go_loopw [5,6] (fun x5 x6 wl=>∃ (k b:Nat) (z:Int),x5=.int .i64 b∧x6=.int .i64 z∧z=(k:Int) - 1∧k≤8∧b<2 ^ (8 - k)∧b=val 2 ((ds.drop (8*j+k)).take (8 - k))∧wl=wr) (fun _ x6 _=>(intOf x6+1).toNat);case atStart=>exact⟨8,0,7,rfl,rfl,rfl,o_,o_,by simp [val],rfl⟩
   case round =>
    obtain⟨k,b,z,rfl,rfl,hz,hk,hb2,hbv,rfl⟩:=hrel;have Hb2:=q_ hb2;have Hbv:=q_ hbv;have hb256:b<256:=Nat.lt_of_lt_of_le hb2 (Nat.pow_le_pow_right (show 0<2 by omega) (show 8 - k≤8 by omega));clear hb2 hbv;cases k with
    | zero =>
     obtain rfl:z=-1:=o_;have hbv:=Hbv.o;rw [Nat.add_zero,Nat.sub_zero] at hbv;have hv9:val 256 (L++[b])=val 2 (ds.take (8*(j+1))):=by rw [Ck,Hv.o,HL.o,show 8*(j+1)=8*j+8 by omega,val_takeN 2 8 ds (8*j) (by have:=Hn.o;omega),show 2 ^ (8*j)=256 ^ j by rw [Nat.pow_mul],← hbv]
     have Hv9:=q_ hv9;clear hz hbv hv9;go_wp2_with (at_builtin;refine Bz (n:=L.length) (base:=w.heap.size) (xs:=(Bi L)) (y:=(b:Int)) rfl rfl rfl ?e1 rfl ?e2 ?e3 ?e4 ?_);case e1=>exact oOB Ho.o fun y hy=>hAE _ _ _ (oLT Ho.o hy)
     case e2=>first|(first|(rw [hAC,if_pos rfl];done)|exact (Array.getElem?_eq_some_iff.1 ((hAC _ _ _).trans (if_pos rfl))).2|(simp only [hDR,hDN];rw [hAC,if_pos rfl];done))|(repeat first|rw [if_pos o_]|rw [if_neg o_]|rw [hDR]|rw [hDN]|rw [hAz]|rw [hSz]|rw [hAC]|rw [hSC]|rw [oMS]|rw [uPC]|rw [lSZ]|rw [lSS]|rfl)
     case e3=>(have:=HL.o;omega)
     case e4=>have:=Hf.o.size;(first|omega|(simp only [hDR,hDN,hAz];omega)|(simp;omega))
     intro g2 cap w9 hown1 hW1 hF1 hloc1 hg1;rw [D5] at hown1;have Hown1:=q_ hown1;have Hf9:=q_ (Bs Hf.o Ho.o hF1);clear hown1 hW1 hF1 hloc1;go_wp2;go_roundw;case rel=>exact⟨j+1,L++[b],by go_num,o_,HDL.o.append (fun z hz=>by rw [List.mem_singleton] at hz;omega),by rw [List.length_append,HL.o];rfl,Hv9.o,by rw [List.length_append];exact Hown1.o,Hf9.o⟩
     case measure=>simp [intOf];omega
    | succ k =>
     obtain rfl:z=(k:Int):=o_;have hx:ds.getD (8*j+k) 0<2:=HD.o.getD o_ _;have hq:=val_chunk 2 8 ds (8*j) k o_;rw [← Hbv.o] at hq;have hp2:ds.getD (8*j+k) 0+2*b<2 ^ (8 - k):=by have h:=Hb2.o;rw [show 8 - k=(8 - (k+1))+1 by omega,Nat.pow_succ];omega
     have Hq:=q_ hq;have Hp2:=q_ hp2;have Hdg2:=q_ (fun w1 hf=>Hdg.o w1 hf (8*j+k));have Ei:((8:Int)*j+k)=((8*j+k:Nat):Int):=o_;clear hz hq hp2;generalize ds.getD (8*j+k) 0=x at *
     obtain⟨i,hi⟩:∃ i,8*j+k=i:=⟨_,rfl⟩;rw [hi] at Hdg2 Ei;go_wp2_with fail;refine (Hdg2.o _ Hf.o).mono ?_;rintro e w3 ⟨rfl,rfl⟩;clear hi;go_wp2;go_roundw;case rel=>exact⟨k,x+2*b,(k:Int) - 1,by go_num,by go_num,rfl,o_,Hp2.o,Hq.o.symm,trivial⟩
     case measure=>simp [intOf]
  ·have hjd:decide ((8:Int)*j<n)=false:=(by rw [decide_eq_false_iff_not];omega);have hv:=Hv.o;rw [List.take_of_length_le (by have:=Hn.o;omega)] at hv;have ht:=L5 (Reads.of_owns Ho.o) HDL.o (by have:=HL.o;omega) (F7 Ho.o) (A:=fun g=>w.heap.size≤g) (fun g hg=>B7 Ho.o hg);rw [hv] at ht;have Ht:=q_ ht;clear ht hv;go_wp2_with fail;refine Ht.o.mono ?_;rintro e w4 ⟨ra,rc,hlo,rfl,hr,hf⟩;have Hf5:=q_ (Hf.o.trans0 hf);have Hr:=q_ hr;have Hlo:=q_ hlo;clear hf hr hlo;go_wp2;go_ret;exact⟨ra,rc,Hlo.o,rfl,Hr.o,Hf5.o⟩
end Go.Proofs.YtebolidfbflkmaaGreat
