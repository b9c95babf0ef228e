/- Own texts of this claim, part 6: no condition. -/
import Derived.Test.YtebolidfbflkmaaGreatZN4
import Derived.Test.YtebolidfbflkmaaGreatZN3
set_option linter.unusedVariables false
set_option linter.unusedSimpArgs false
set_option maxHeartbeats 16000000
set_option maxRecDepth 100000
section
namespace Go.Proofs.YtebolidfbflkmaaGreat
open Go Go.RowKit Rg Hp Bn
theorem Shift_calls {w:World} {neg:Bool} {ds:List Nat} {k:Int} {a:Option Addr} {c:Nat} (hv:Reads w (.slice a ds.length c) ds.length 1 (u32s ds)) (hD:Dig 4294967296 ds) (hl:ds.length≤10000) (hc:ds.length≤c) (hk1:-9223372036854775808≤k) (hk2:k<9223372036854775808) :
  Calls Tryz.prog 95 #[.agg #[.bool neg,.slice a ds.length c],.int .i64 k] w (BigPost w (w.heap.size≤·) (shiftS neg ds k)):=by
 have hra:=fun w1 (hf:Fr [] w w1)=>Right_calls (neg:=neg) (hv.fr hf) o_;have Hk:=q_ (And.intro hk1 hk2);clear hk1 hk2;obtain⟨r,hS⟩:∃ r,r=shiftS neg ds k:=⟨_,rfl⟩;rw [← hS];unfold shiftS at hS;have Hv:=q_ hv;have HDd:=q_ hD;clear hv hD;cases hR1:RightB neg ds with
 | false =>
  rw [hR1] at hS hra;simp only [if_true] at hS;subst hS;have Hra:=q_ hra;clear hR1 hra;go_enter Tryz.func95,Tryz.ntmps95;go_wp2_with fail;refine (Hra.out _ (Fr.t)).mono ?_;rintro e w1 ⟨rfl,hf⟩;have hc:=(hf.block (w.heap.size+1) i_ i_).trans (show _=some (.cells #[.bool false,.slice none 0 0] 30 (0,0)) from hpT);obtain⟨c0,c1⟩:=e2_ hc;have z0:=hEF hc 0;have z1:=hEF hc 1;have cl:=lBk hc;have Hc:=q_ hc;have Hf:=q_ (Fr.trans0 (Fr.t:Fr [] w _) hf);clear hf hc;go_wp2;(try simp only [Exit.inBlock,Exit.then]);refine bodyPost_ret (bRS rfl (b:=w.heap.size+1) (x:=.bool false) (y:=.slice none 0 0) rfl ?_ rfl) rfl ⟨_,_,⟨Nat.le_refl _,fun g hg=>(by cases hg)⟩,rfl,reads_nil _,?_⟩;·
   have h:=Hc.out;(repeat first|rw [if_pos o_]|rw [if_neg o_]|rw [hDR]|rw [hDN]|rw [hAz]|rw [hSz]|rw [hAC]|rw [hSC]|rw [oMS]|rw [uPC]|rw [lSZ]|rw [lSS]|rfl);rw [h];exact hpT
  ·exact (Hf.out.setCell (.inr (by simp;try omega)) _).setCell (.inr (by simp;try omega)) _
 | true =>
  obtain⟨cA,lA,_⟩:=right_canon hR1;rw [hR1] at hS hra;simp only [Bool.true_eq_false,if_false] at hS;have Hra:=q_ hra;have HcA:=q_ cA;clear hR1 hra cA;by_cases h0:ds.length=0;·
   rw [if_pos h0] at hS;subst hS;rw [h0] at Hra ⊢;clear h0;go_enter Tryz.func95,Tryz.ntmps95;go_wp2_with fail;refine (Hra.out _ (Fr.t)).mono ?_;rintro e w1 ⟨rfl,hf⟩;have hb:=(hf.block w.heap.size (by simp;omega) i_).trans (show _=some (.cells #[.bool neg,.slice a 0 c] 30 (0,0)) from hpT);obtain⟨b0,b1,bl⟩:=l2_ hb;have hc:=(hf.block (w.heap.size+1) i_ i_).trans (show _=some (.cells #[.bool false,.slice none 0 0] 30 (0,0)) from hpT);obtain⟨c0,c1⟩:=e2_ hc;have z0:=hEF hc 0;have z1:=hEF hc 1;have cl:=lBk hc;have Hc:=q_ hc;have Hf:=q_ (Fr.trans0 (Fr.t:Fr [] w _) hf);clear hf hc hb;go_wp2;(try simp only [Exit.inBlock,Exit.then]);refine bodyPost_ret (bRS rfl (b:=w.heap.size+1) (x:=.bool false) (y:=.slice none 0 0) rfl ?_ rfl) rfl ⟨_,_,⟨Nat.le_refl _,fun g hg=>(by cases hg)⟩,rfl,reads_nil _,?_⟩;·
    have h:=Hc.out;(repeat first|rw [if_pos o_]|rw [if_neg o_]|rw [hDR]|rw [hDN]|rw [hAz]|rw [hSz]|rw [hAC]|rw [hSC]|rw [oMS]|rw [uPC]|rw [lSZ]|rw [lSS]|rfl);rw [h];exact hpT
   ·exact (Hf.out.setCell (.inr (by simp;try omega)) _).setCell (.inr (by simp;try omega)) _
  rw [if_neg h0] at hS;by_cases hk:k<0;·
   rw [if_pos hk] at hS;unfold downN at hS;have hd1:decide (k<0)=true:=(by simp;omega);have hle:¬ ds.length=0:=h0;by_cases hbig:¬ k < -4096;obtain⟨m,hm⟩:∃ m:Nat,-k=m:=⟨(-k).toNat,o_⟩;have hmt:(-k).toNat=m:=o_;rw [if_neg hbig,hmt] at hS;have hdn:=fun w1 (hf:Fr [] w w1)=>down_calls (k:=m) (Hv.out.fr hf) HDd.out HcA.out o_ hc o_;obtain⟨X,hX⟩:∃ X,val 4294967296 ds / 2 ^ m=X:=⟨_,rfl⟩;obtain⟨lost,hlost⟩:∃ lost,decide (val 4294967296 ds % 2 ^ m≠0)=lost:=⟨_,rfl⟩;simp only [hX,hlost] at hdn;rw [hX,hlost] at hS;have HDN:=q_ hdn;have HS:=q_ hS;clear hdn hX hlost hS hmt h0
   rotate_left
   have hbig:=Decidable.not_not.1 hbig;rw [if_pos hbig] at hS;have hdn:=fun w1 (hf:Fr [] w w1)=>down_calls (k:=4096) (Hv.out.fr hf) HDd.out HcA.out o_ hc o_;obtain⟨X,hX⟩:∃ X,val 4294967296 ds / 2 ^ 4096=X:=⟨_,rfl⟩;obtain⟨lost,hlost⟩:∃ lost,decide (val 4294967296 ds % 2 ^ 4096≠0)=lost:=⟨_,rfl⟩;simp only [hX,hlost] at hdn;rw [hX,hlost] at hS;have HDN:=q_ hdn;have HS:=q_ hS;clear hdn hX hlost hS h0
   rotate_left
   all_goals
    go_enter Tryz.func95,Tryz.ntmps95;go_wp2_with fail;refine (Hra.out _ (Fr.t)).mono ?_;rintro e w1 ⟨rfl,hf⟩;have hb:=(hf.block w.heap.size (by simp;omega) i_).trans (show _=some (.cells #[.bool neg,.slice a ds.length c] 30 (0,0)) from hpT);obtain⟨b0,b1,bl⟩:=l2_ hb;have Hb:=q_ hb;have Hc:=q_ ((hf.block (w.heap.size+1) i_ i_).trans (show _=some (.cells #[.bool false,.slice none 0 0] 30 (0,0)) from hpT));have Hf:=q_ (Fr.trans0 (Fr.t:Fr [] w _) hf);clear hf hb;go_wp2_with fail;refine (HDN.out _ Hf.out).mono ?_;rintro e w2 ⟨pa,pc,os,rfl,hr,hlo,hDo,hvo,hll,hcap,hf⟩;have hb2:=(hf.block _ bl i_).trans Hb.out;have b0':=hEC hb2 0;have bl':=lBk hb2;have Hb2:=q_ hb2;have hc2:=tk hf Hc;have Hc2:=q_ hc2;have Hf2:=q_ (Hf.out.trans0 hf);have Hr:=q_ hr;have Hlo:=q_ hlo;have HDo:=q_ hDo;have Hvo:=q_ hvo;have Hll:=q_ hll;have Hcap:=q_ hcap;have h2w:w.heap.size+1<w1.heap.size:=lBk Hc.out;have H2w:=q_ (And.intro h2w hf.size);clear hf hb2 hc2 hr hlo hDo hvo hll hcap b0 b1 bl h2w;cases neg<;>cases lost;go_wp2_with fail
    rotate_left 3
    ·have hS:=HS.out;simp only [Bool.and_self,if_true] at hS;refine (plus_calls (Hr.out.fr (Fr.t)) (reads_blk (cs:=u32s [1]) hpT rfl) HDo.out (db:=[1]) (fun x hx=>by simp at hx;omega) (by have:=Hll.out;omega) i_).mono ?_;rintro e w4 ⟨qa,qc,qs,rfl,ho,hD,hV,hl4,hlc,hf0⟩;rw [Hvo.out,show val 4294967296 [1]=1 by rfl] at hV;simp only [List.length_cons,List.length_nil] at hl4;have hmd:=made_calls (neg:=true) (Reads.of_owns ho) hD (by have:=Hll.out;omega) hlc (A:=fun g=>w2.heap.size≤g) (fun g hg=>by have h:=owns_ge ho hg;simp at h;omega);rw [hV,← hS] at hmd;have HMD:=q_ (fun (A:Nat→Prop) (hA:∀ g,w2.heap.size≤g→A g)=>hmd.mono fun e w' h=>BigPost.mono h hA);have hf:Fr [] w2 w4:=Fr.trans0 (Fr.t) hf0;have b0'':=(hEC ((hf.block _ bl' i_).trans Hb2.out) 0);have bl'':=lBk ((hf.block _ bl' i_).trans Hb2.out);have Hc4:=q_ (tk hf Hc2);have Hf4:=q_ (Hf2.out.trans0 hf);clear ho hD hV hl4 hlc hf0 hf hmd hS;go_wp2_with fail;refine (HMD.out (fun g=>w1.heap.size≤g) (fun g hg=>by have:=H2w.out;omega)).mono ?_;rintro e w5 ⟨ra,rc,hlo,rfl,hr,hf⟩;have hc5:=tk hf Hc4;obtain⟨c0,c1⟩:=e2_ hc5;have z0:=hEF hc5 0;have z1:=hEF hc5 1;have cl:=lBk hc5;have Hc5:=q_ hc5;have Hlo5:=q_ hlo;have Hr5:=q_ hr;have Hf5:=q_ (Hf4.out.trans0 hf);clear hlo hr hf hc5;obtain⟨r1,r2,r3⟩:=r;go_wp2;(try simp only [Exit.inBlock,Exit.then]);refine bodyPost_ret (bRS rfl (b:=w.heap.size+1) (x:=.bool r1) (y:=.slice ra r2.length rc) rfl ?_ rfl) rfl ⟨_,_,⟨Hlo5.out.1,fun g hg=>(by have:=Hlo5.out.2 g hg;have:=H2w.out;omega)⟩,rfl,?_,?_⟩;·
      have h:=Hc5.out;(repeat first|rw [if_pos o_]|rw [if_neg o_]|rw [hDR]|rw [hDN]|rw [hAz]|rw [hSz]|rw [hAC]|rw [hSC]|rw [oMS]|rw [uPC]|rw [lSZ]|rw [lSS]|rfl);rw [h];exact hpT
     ·refine Hr5.out.keep fun x hx hl=>?_;have:=Hlo5.out.2 x hx;have hcl:=H2w.out;rw [sCE _ _ _ (by simp;omega),sCE _ _ _ (by simp;omega)]
     ·exact (Hf5.out.setCell (.inr (by simp;try omega)) _).setCell (.inr (by simp;try omega)) _
    all_goals
     have hS:=HS.out;simp only [Bool.and_self,Bool.false_and,Bool.and_false,Bool.false_eq_true,if_false,Nat.add_zero] at hS;have HSS:=q_ hS;have hmd:=fun neg=>made_calls (neg:=neg) Hr.out HDo.out (by have:=Hll.out;omega) Hcap.out (A:=fun g=>w1.heap.size≤g) Hlo.out;simp only [Hvo.out] at hmd;have HMD:=q_ hmd;have Hc4:=q_ Hc2.out;have Hf4:=q_ Hf2.out;clear hS hmd;refine (HMD.out _).mono ?_;rintro e w5 ⟨ra,rc,hlo,rfl,hr,hf⟩;rw [← HSS.out] at hlo hr;rw [← HSS.out];have hc5:=tk hf Hc4;obtain⟨c0,c1⟩:=e2_ hc5;have z0:=hEF hc5 0;have z1:=hEF hc5 1;have cl:=lBk hc5;have Hc5:=q_ hc5;have Hlo5:=q_ hlo;have Hr5:=q_ hr;have Hf5:=q_ (Hf4.out.trans0 hf);clear hlo hr hf hc5;obtain⟨r1,r2,r3⟩:=r;go_wp2;(try simp only [Exit.inBlock,Exit.then]);refine bodyPost_ret (bRS rfl (b:=w.heap.size+1) (x:=.bool r1) (y:=.slice ra r2.length rc) rfl ?_ rfl) rfl ⟨_,_,⟨Hlo5.out.1,fun g hg=>(by have:=Hlo5.out.2 g hg;have:=H2w.out;omega)⟩,rfl,?_,?_⟩;·
      have h:=Hc5.out;(repeat first|rw [if_pos o_]|rw [if_neg o_]|rw [hDR]|rw [hDN]|rw [hAz]|rw [hSz]|rw [hAC]|rw [hSC]|rw [oMS]|rw [uPC]|rw [lSZ]|rw [lSS]|rfl);rw [h];exact hpT
     ·refine Hr5.out.keep fun x hx hl=>?_;have:=Hlo5.out.2 x hx;have hcl:=H2w.out;rw [sCE _ _ _ (by simp;omega),sCE _ _ _ (by simp;omega)]
     ·exact (Hf5.out.setCell (.inr (by simp;try omega)) _).setCell (.inr (by simp;try omega)) _
  rw [if_neg hk] at hS;by_cases hk2:2048<k;·
   rw [if_pos hk2] at hS;subst hS;have hle:¬ ds.length=0:=h0;have hd1:decide (k<0)=false:=(by simp;omega);have hd2:decide (2048<k)=true:=(by simp;omega);clear hk hk2;go_enter Tryz.func95,Tryz.ntmps95;go_wp2_with fail;refine (Hra.out _ (Fr.t)).mono ?_;rintro e w1 ⟨rfl,hf⟩;have hb:=(hf.block w.heap.size (by simp;omega) i_).trans (show _=some (.cells #[.bool neg,.slice a ds.length c] 30 (0,0)) from hpT);obtain⟨b0,b1,bl⟩:=l2_ hb;have hc:=(hf.block (w.heap.size+1) i_ i_).trans (show _=some (.cells #[.bool false,.slice none 0 0] 30 (0,0)) from hpT);obtain⟨c0,c1⟩:=e2_ hc;have z0:=hEF hc 0;have z1:=hEF hc 1;have cl:=lBk hc;have Hc:=q_ hc;have Hf:=q_ (Fr.trans0 (Fr.t:Fr [] w _) hf);clear hf hc hb;go_wp2;(try simp only [Exit.inBlock,Exit.then]);refine bodyPost_ret (bRS rfl (b:=w.heap.size+1) (x:=.bool false) (y:=.slice none 0 0) rfl ?_ rfl) rfl ⟨_,_,⟨Nat.le_refl _,fun g hg=>(by cases hg)⟩,rfl,reads_nil _,?_⟩;·
    have h:=Hc.out;(repeat first|rw [if_pos o_]|rw [if_neg o_]|rw [hDR]|rw [hDN]|rw [hAz]|rw [hSz]|rw [hAC]|rw [hSC]|rw [oMS]|rw [uPC]|rw [lSZ]|rw [lSS]|rfl);rw [h];exact hpT
   ·exact (Hf.out.setCell (.inr (by simp;try omega)) _).setCell (.inr (by simp;try omega)) _
  rw [if_neg hk2] at hS;obtain⟨m,rfl⟩:∃ m:Nat,k=m:=⟨k.toNat,o_⟩;rw [Int.toNat_natCast] at hS;obtain⟨wd,hwd⟩:∃ wd,m / 32=wd:=⟨_,rfl⟩;obtain⟨rs,hrs⟩:∃ rs,m % 32=rs:=⟨_,rfl⟩;have Ew:((m:Int) / 32)=wd:=o_
  have Er:((m:Int) % 32)=rs:=o_
  have hr32:rs<32:=o_
  have hwb:wd≤64:=o_
  have Htp:=q_ (two_split (ds:=ds) hwd hrs).1;have hd1:decide ((m:Int)<0)=false:=by simp
  have hd2:decide ((2048:Int)<m)=false:=by simp;omega
  have Hn:=q_ (show ((wd:Int)+ds.length+1)=((wd+ds.length+1:Nat):Int) by omega);have HS:=q_ hS;clear hk hk2 hwd hrs hS;go_enter Tryz.func95,Tryz.ntmps95;go_wp2_with fail;refine (Hra.out _ (Fr.t)).mono ?_;rintro e w1 ⟨rfl,hf⟩;have hb:=(hf.block w.heap.size (by simp;omega) i_).trans (show _=some (.cells #[.bool neg,.slice a ds.length c] 30 (0,0)) from hpT);obtain⟨b0,b1,bl⟩:=l2_ hb;have Hb:=q_ hb;have Hc:=q_ ((hf.block (w.heap.size+1) i_ i_).trans (show _=some (.cells #[.bool false,.slice none 0 0] 30 (0,0)) from hpT));have Hf:=q_ (Fr.trans0 (Fr.t:Fr [] w _) hf);clear hf hb;go_wp2_with (refine wpList_make1 rfl (t:=28) (e:=75) (n:=wd+ds.length+1) (z:=.int .u32 0) (bytes:=4) rfl (congrArg (Value.int .i64) Hn.out) (congrArg (Value.int .i64) Hn.out) Tryz.underlying28 info_u32 rfl o_ (by unfold maxLen;omega) ?_);intro w2 ho2 hf2 hsz2;obtain⟨n,hn⟩:∃ n,wd+ds.length+1=n:=⟨_,rfl⟩;have hni:((wd:Int)+ds.length+1)=n:=o_
  rw [hn] at ho2;rw [hn,hni];have hb2:=(hf2.block _ bl i_).trans Hb.out;have Hc2:=q_ (tk hf2 Hc);have b0':=hEC hb2 0;have b1':=hEC hb2 1;have bl':=lBk hb2;have Hb2:=q_ hb2;obtain⟨q,hq⟩:∃ q,w1.heap.size=q:=⟨_,rfl⟩;have hqw:w.heap.size+1<q:=by rw [← hq];exact lBk Hc.out
  rw [hq] at ho2;rw [hq];have Ho2:=q_ ho2;have Hf2:=q_ (Hf.out.trans0 hf2);have Hnn:=q_ hn;have Haa:=q_ (Hv.out.2);clear ho2 hf2 hsz2 hn hni hb2 b0 b1 bl hq;go_wp2_with fail;go_loopw [70] (fun xk wl=>∃ (i:Nat) (l:List Nat),xk=.int .i64 i∧i≤ds.length∧l.length=n∧Dig 4294967296 l∧(∀ j,wd+i<j→l.getD j 0=0)∧l.getD (wd+i) 0<2 ^ rs∧val 4294967296 l=val 4294967296 (ds.take i)*(4294967296 ^ wd*2 ^ rs) ∧
   wl.ownsRow q 75 1 (.slice (some ⟨q,0,none⟩) n n) n (u32s l)∧Fr [] w wl∧wl.heap[w.heap.size]?=some (.cells #[.bool neg,.slice a ds.length c] 30 (0,0)) ∧
   wl.heap[w.heap.size+1]?=some (.cells #[.bool false,.slice none 0 0] 30 (0,0))) (fun xk _=>ds.length - (intOf xk).toNat)
  case atStart=>exact⟨0,List.replicate n 0,rfl,o_,List.length_replicate,Dig.replicate o_ n,fun j _=>by simp [List.getD_eq_getElem?_getD,List.getElem?_replicate];split<;>rfl,by simp [List.getD_eq_getElem?_getD,List.getElem?_replicate];split<;>simp [Nat.pow_pos],by simp [val,val_replicate],by rw [u32s_zero];exact Ho2.out,Hf2.out,Hb2.out,Hc2.out⟩
  case round =>
   obtain⟨i,l,rfl,hi,hl,hD,hz,hlow,hv,ho,hf,hb,hcc⟩:=hrel;have hol:=oLT ho rfl;by_cases hin:i<ds.length;·
    obtain⟨_,_,e0,hga⟩:=Haa.out;simp only [Value.slice.injEq,true_and] at e0;obtain⟨rfl,rfl⟩:=e0;obtain⟨g1,o1,rfl,hg1,hc1⟩:=hga o_;have e1:=(hf.cell (p:=⟨g1,o1+i,none⟩) hg1 i_).trans (hc1 i _ (u32s_get hin));have hgr:g1<wr.heap.size:=(by have:=hf.size;omega);have hwi:wd+i<n:=(by have:=Hnn.out;omega);have hwi2:wd+i+1<n:=(by have:=Hnn.out;omega);have e3:=owns_cell ho rfl (u32s_get (l:=l) (i:=wd+i) o_);have hfz:=owns_frozen ho rfl (wd+i);have hfz2:=owns_frozen ho rfl (wd+i+1);have hx:ds.getD i 0<4294967296:=HDd.out.getD o_ i;have e4:=owns_cell ho rfl (u32s_get (l:=l) (i:=wd+i+1) o_);have Hset:=q_ (fun d d2=>owns_set (owns_set ho rfl (j:=wd+i) (by rw [u32s_length];omega) (.int .u32 d)) rfl (j:=wd+i+1) (by rw [List.length_set,u32s_length];omega) (.int .u32 d2));have Hvt:=q_ (val_take_succ 4294967296 ds i);have Hf3:=q_ hf;have HDl:=q_ hD;have Hz:=q_ hz;have Hv3:=q_ hv;have Hl:=q_ hl;have Hlow:=q_ hlow;have Hb3:=q_ hb;have Hc3:=q_ hcc;have Hxl:=q_ hx;have Ex:IntKind.u64.wrap ((ds.getD i 0:Nat):Int)=(ds.getD i 0:Nat):=IntWalk.u64_in _ o_;clear ho hf hD hz hv hl hlow hb hcc hc1 hga hx b0' b1' bl';have Hs1:=q_ (fun d=>val_set (B:=4294967296) d (show wd+i<l.length by have:=Hl.out;omega));have Hs2:=q_ (fun d d2=>val_set (B:=4294967296) (l:=l.set (wd+i) d) d2 (show wd+i+1<(l.set (wd+i) d).length by rw [List.length_set];have:=Hl.out;omega));generalize ds.getD i 0=x at *
    generalize l.getD (wd+i) 0=o at *
    generalize l.getD (wd+i+1) 0=o2 at *
    obtain⟨v,Es,hvb,Ey,hst⟩:=shl_facts Hxl.out hr32 Hlow.out;have Hvb:=q_ hvb;have Hst:=q_ hst;clear hvb hst;go_wp2;go_roundw;case rel =>
     obtain⟨hv2,hlt⟩:=Hst.out;have e1:((o+v % 4294967296:Nat):Int)=(o:Int)+(v:Int) % 4294967296:=o_;have e2:((v / 4294967296 % 4294967296:Nat):Int)=(v:Int) / 4294967296 % 4294967296:=o_;have h31:2 ^ rs≤2 ^ 31:=Nat.pow_le_pow_right o_ o_;have hvb:=Hvb.out;have e3:v / 4294967296 % 4294967296=v / 4294967296:=Nat.mod_eq_of_lt o_;refine⟨i+1,(l.set (wd+i) (o+v % 4294967296)).set (wd+i+1) (v / 4294967296 % 4294967296),by go_num,o_,by rw [List.length_set,List.length_set];exact Hl.out,(HDl.out.set hlt).set (Nat.mod_lt _ o_),?_,?_,?_,?_,?_,?_,?_⟩;·
      intro j hj;rw [getD_set_ne o_,getD_set_ne o_];exact Hz.out j o_
     ·rw [List.getD_eq_getElem?_getD,show wd+(i+1)=wd+i+1 by omega,List.getElem?_set_self (by rw [List.length_set];have:=Hl.out;omega),e3];exact hvb
     ·have h1:=Hs1.out (o+v % 4294967296);have h2:=Hs2.out (o+v % 4294967296) (v / 4294967296 % 4294967296);rw [getD_set_ne o_,Hz.out _ o_,Nat.mul_zero,Nat.add_zero] at h2;rw [h2,Hvt.out,Nat.add_mul,← Hv3.out,e3];have h3:4294967296 ^ (wd+i)*(o+v % 4294967296)=4294967296 ^ (wd+i)*o+4294967296 ^ (wd+i)*(v % 4294967296):=Nat.mul_add _ _ _;have h4:4294967296 ^ i*x*(4294967296 ^ wd*2 ^ rs)=4294967296 ^ (wd+i)*(v % 4294967296)+4294967296 ^ (wd+i+1)*(v / 4294967296):=by
       rw [Nat.pow_succ,Nat.mul_assoc (4294967296 ^ (wd+i)),← Nat.mul_add,Nat.mod_add_div,hv2,Nat.pow_add];simp only [Nat.mul_assoc,Nat.mul_left_comm,Nat.mul_comm]
      rw [h4];generalize 4294967296 ^ (wd+i)*(o+v % 4294967296)=u1 at *
      generalize 4294967296 ^ (wd+i)*o=u2 at *
      omega
     ·rw [u32s_set,u32s_set,e1,e2];exact Hset.out _ _
     ·exact (Hf3.out.setCell (.inr (by simp;omega)) _).setCell (.inr (by simp;omega)) _
     ·(repeat first|rw [if_pos o_]|rw [if_neg o_]|rw [hDR]|rw [hDN]|rw [hAz]|rw [hSz]|rw [hAC]|rw [hSC]|rw [oMS]|rw [uPC]|rw [lSZ]|rw [lSS]|rfl);exact Hb3.out
     ·(repeat first|rw [if_pos o_]|rw [if_neg o_]|rw [hDR]|rw [hDN]|rw [hAz]|rw [hSz]|rw [hAC]|rw [hSC]|rw [oMS]|rw [uPC]|rw [lSZ]|rw [lSS]|rfl);exact Hc3.out
    case measure=>simp [intOf];omega
   ·obtain rfl:i=ds.length:=o_;rw [List.take_length,← Htp.out] at hv;have b0'':=hEC hb 0;have bl'':=lBk hb;have Hvv:=q_ hv;have Ho:=q_ ho;have HDl:=q_ hD;have Hl:=q_ hl;have Hcc:=q_ hcc;have Hff:=q_ hf;clear hv ho hD hl hcc hf hb hz hlow b0' b1' bl';go_wp2_with fail;have hln:=Hl.out;have hmc:=made_calls (w:=wr) (neg:=neg) (ds:=l) (a:=some ⟨q,0,none⟩) (c:=n) (by have h:=Reads.of_owns Ho.out;rw [hln];exact h) HDl.out (by have:=Hnn.out;omega) o_ (A:=fun g=>q≤g) (fun g hg=>by
     have h:q=g:=by simpa [Value.ownBlock] using hg
     omega)
    rw [hln,Hvv.out,← HS.out] at hmc;refine hmc.mono ?_;rintro e w4 ⟨ra,rc,hlo,rfl,hr,hf⟩;have hc4:=tk hf Hcc;obtain⟨c0,c1⟩:=e2_ hc4;have z0:=hEF hc4 0;have z1:=hEF hc4 1;have cl:=lBk hc4;have Hc4:=q_ hc4;have Hlo:=q_ hlo;have Hr:=q_ hr;have Hf5:=q_ (Hff.out.trans0 hf);have Hqw:=q_ hqw;clear hlo hr hf hc4 hmc hln;obtain⟨r1,r2,r3⟩:=r;go_wp2;(try simp only [Exit.inBlock,Exit.then]);refine bodyPost_ret (bRS rfl (b:=w.heap.size+1) (x:=.bool r1) (y:=.slice ra r2.length rc) rfl ?_ rfl) rfl ⟨_,_,⟨Hlo.out.1,fun g hg=>(by have:=Hlo.out.2 g hg;have:=Hqw.out;omega)⟩,rfl,?_,?_⟩;·
     have h:=Hc4.out;(repeat first|rw [if_pos o_]|rw [if_neg o_]|rw [hDR]|rw [hDN]|rw [hAz]|rw [hSz]|rw [hAC]|rw [hSC]|rw [oMS]|rw [uPC]|rw [lSZ]|rw [lSS]|rfl);rw [h];exact hpT
    ·refine Hr.out.keep fun x hx hl=>?_;have:=Hlo.out.2 x hx;have hcl:=Hqw.out;rw [sCE _ _ _ (by simp;omega),sCE _ _ _ (by simp;omega)]
    ·exact (Hf5.out.setCell (.inr (by simp;try omega)) _).setCell (.inr (by simp;try omega)) _
theorem dg_of {B:Nat} (hB:2≤B) {V:Nat} (l:List Nat) (hV:val B l=V) (hD:Dig B l) (hC:Canon l):dg B V=l:=by rw [← hV];exact dg_val hB hD hC
theorem mkN_of {neg:Bool} {V:Nat} (l:List Nat) (hV:val 4294967296 l=V) (hD:Dig 4294967296 l) (hC:Canon l) (h0:V≠0) (hl:l.length≤64):mkN neg V=(neg,l,0):=by unfold mkN;rw [if_neg h0,if_pos,dg_of o_ l hV hD hC];rw [← hV];exact Nat.lt_of_lt_of_le (val_lt hD) (Nat.pow_le_pow_right o_ hl)
theorem right_of_canon {neg:Bool} {ds:List Nat} (hC:Canon ds) (hl:ds.length≤64) (hn:ds=[]→neg=false):RightB neg ds=true:=by
 unfold RightB;by_cases h0:ds.length=0;·rw [if_pos h0,hn (List.eq_nil_of_length_eq_zero h0)];rfl
 ·rw [if_neg h0,decide_eq_true_eq];refine⟨hl,fun e=>hC ?_⟩;rw [List.getLast?_eq_getElem?,List.getElem?_eq_getElem o_];rw [List.getD_eq_getElem?_getD,List.getElem?_eq_getElem o_] at e;exact congrArg some e
theorem mkN_right {neg:Bool} {ds:List Nat} (hR:RightB neg ds=true) (hD:Dig 4294967296 ds):mkN neg (val 4294967296 ds)=(neg,ds,0):=by
 obtain⟨hC,hl,hn⟩:=right_canon hR;by_cases h0:val 4294967296 ds=0
 ·have:ds=[]:=by
   rcases Nat.eq_zero_or_pos ds.length with h|h
   ·exact List.eq_nil_of_length_eq_zero h
   ·have:=canon_pos (B:=4294967296) o_ hC (by intro e;rw [e] at h;simp at h);omega
  subst this;unfold mkN;rw [if_pos h0,hn rfl]
 ·exact mkN_of ds rfl hD hC h0 hl
theorem mkN_ok {neg:Bool} {V:Nat} {r1:Bool} {r2:List Nat} (h:mkN neg V=(r1,r2,0)):val 4294967296 r2=V∧RightB r1 r2=true∧r1=(neg && decide (V≠0))∧V<4294967296 ^ 64:=by
 unfold mkN at h;by_cases h0:V=0;·
  rw [if_pos h0] at h;simp only [Prod.mk.injEq] at h;obtain⟨rfl,rfl,_⟩:=h;subst h0;exact⟨rfl,by decide,i_,Nat.pow_pos o_⟩
 ·rw [if_neg h0] at h;by_cases h1:V<4294967296 ^ 64;·
   rw [if_pos h1] at h;simp only [Prod.mk.injEq] at h;obtain⟨rfl,rfl,_⟩:=h;refine⟨val_dg o_ V,right_of_canon (dg_canon o_ V) ((dg_length_le o_ 64).2 h1) fun e=>?_,by simp [h0],h1⟩;exact absurd ((dg_eq_nil o_).1 e) h0
  ·rw [if_neg h1] at h;simp at h
theorem mkN_err {neg:Bool} {V:Nat} (h:V<4294967296 ^ 64):(mkN neg V).2.2=0:=by
 unfold mkN;split;·rfl
 ·rfl
theorem mkN_zero (neg:Bool):mkN neg 0=(false,[],0):=by unfold mkN;rw [if_pos rfl]
theorem val_right_lt {neg:Bool} {ds:List Nat} (hR:RightB neg ds=true) (hD:Dig 4294967296 ds):val 4294967296 ds<4294967296 ^ 64 :=
 Nat.lt_of_lt_of_le (val_lt hD) (Nat.pow_le_pow_right o_ (right_canon hR).2.1)
theorem right_pos {neg:Bool} {ds:List Nat} (hR:RightB neg ds=true) (h:ds.length≠0):0<val 4294967296 ds :=
 canon_pos o_ (right_canon hR).1 fun e=>h (by rw [e];rfl)
theorem right_val0 {neg:Bool} {ds:List Nat} (hR:RightB neg ds=true):val 4294967296 ds=0↔ds.length=0:=by
 constructor;·
  intro h;rcases Nat.eq_zero_or_pos ds.length with h1|h1
  ·exact h1
  ·have:=right_pos hR o_;omega
 ·intro h;rw [List.eq_nil_of_length_eq_zero h];rfl
def sgn (neg:Bool) (V:Nat):Int:=if neg then -(V:Int) else V
def mkI (z:Int):Bool×List Nat×Int:=mkN (decide (z<0)) z.natAbs
theorem sgn_abs (neg:Bool) (V:Nat):(sgn neg V).natAbs=V:=by unfold sgn;cases neg<;>simp
theorem sgn_neg {neg:Bool} {V:Nat} (h:V≠0):decide (sgn neg V<0)=neg:=by
 unfold sgn;cases neg;·simp
 ·simp;omega
theorem mkN_mkI (neg:Bool) (V:Nat):mkN neg V=mkI (sgn neg V):=by
 by_cases h:V=0;·
  subst h;unfold mkI;rw [sgn_abs,mkN_zero,mkN_zero]
 ·unfold mkI;rw [sgn_abs,sgn_neg h]
def sv (neg:Bool) (ds:List Nat):Int:=sgn neg (val 4294967296 ds)
theorem mkI_sv {neg:Bool} {ds:List Nat} (hR:RightB neg ds=true) (hD:Dig 4294967296 ds):mkI (sv neg ds)=(neg,ds,0):=by unfold sv;rw [← mkN_mkI];exact mkN_right hR hD
theorem mkI_ok {z:Int} {r1:Bool} {r2:List Nat} (h:mkI z=(r1,r2,0)):sv r1 r2=z∧RightB r1 r2=true:=by
 obtain⟨h1,h2,h3,_⟩:=mkN_ok h;refine⟨?_,h2⟩;unfold sv sgn;rw [h1,h3];by_cases hz:z<0;·
  have:decide (z<0)=true:=by simpa using hz
  rw [this,show (true && decide (z.natAbs≠0))=true by simp;omega];simp;omega
 ·have:decide (z<0)=false:=by simpa using hz
  rw [this,Bool.false_and];simp;omega
theorem addS_sv {na nb:Bool} {da db:List Nat} (ha:RightB na da=true) (hb:RightB nb db=true):addS na da nb db=mkI (sv na da+sv nb db):=by
 unfold addS sv;rw [ha,hb,if_neg (by decide)];generalize val 4294967296 da=Va;generalize val 4294967296 db=Vb;by_cases h:na=nb;·
  subst h;rw [if_pos rfl,mkN_mkI];congr 1;unfold sgn;cases na<;>simp<;>omega
 ·rw [if_neg h];split;·
   rename_i hl;rw [mkN_mkI];congr 1;unfold sgn;cases na<;>cases nb<;>simp at h ⊢<;>omega
  ·rename_i hl;rw [mkN_mkI];congr 1;unfold sgn;cases na<;>cases nb<;>simp at h ⊢<;>omega
theorem fromS_mkI (n:Int):fromS n=mkI n:=rfl
theorem int_from {n:Int} (h1:-9223372036854775808≤n) (h2:n<9223372036854775808):intS (fromS n).1 (fromS n).2.1=(n,true):=by
 obtain⟨⟨r1,r2,r3⟩,hr⟩:∃ r,mkI n=r:=⟨_,rfl⟩;have h3:(mkI n).2.2=0:=mkN_err (Nat.lt_of_lt_of_le (show n.natAbs<4294967296 ^ 2 by omega) (Nat.pow_le_pow_right o_ o_));rw [hr] at h3;simp only at h3;subst h3;obtain⟨h4,h5⟩:=mkI_ok hr;obtain⟨h6,_,h7,_⟩:=mkN_ok hr;rw [fromS_mkI,hr];simp only;have hl:r2.length≤2:=by
  have:r2=dg 4294967296 n.natAbs:=by
   by_cases h0:n.natAbs=0;·
    have:val 4294967296 r2=0:=o_;have:=(right_val0 h5).1 this;rw [List.eq_nil_of_length_eq_zero this,h0,dg_zero]
   ·have e:=hr;unfold mkI mkN at e;rw [if_neg h0,if_pos (Nat.lt_of_lt_of_le (show n.natAbs<4294967296 ^ 2 by omega) (Nat.pow_le_pow_right o_ o_))] at e;simp only [Prod.mk.injEq] at e;exact e.2.1.symm
  rw [this,dg_length_le o_];omega
 unfold intS;rw [h5,if_neg (by simp;omega),h6];have h8:sgn r1 n.natAbs=n:=by rw [← h6];exact h4
 unfold sgn at h8;cases r1 with
 | false =>simp only [Bool.false_eq_true,if_false] at h8 ⊢;rw [if_pos o_,h8]
 | true =>simp only [if_true] at h8 ⊢;rw [if_pos o_,h8]
theorem val_head (l:List Nat):val 4294967296 l % 2=l.getD 0 0 % 2:=by
 cases l with
 | nil=>rfl
 | cons d l=>show (d+4294967296*val 4294967296 l) % 2=d % 2;omega
def zd (z:Int):List Nat:=dg 4294967296 z.natAbs
def BigZ (w:World) (A:Nat→Prop) (v:Value) (z:Int):Prop :=
 ∃ a c,v=.agg #[.bool (decide (z<0)),.slice a (zd z).length c]∧(zd z).length≤c∧(∀ g,(Value.slice a (zd z).length c).ownBlock=some g→A g)∧Reads w (.slice a (zd z).length c) (zd z).length 1 (u32s (zd z))
def Zok (z:Int):Prop:=z.natAbs<4294967296 ^ 64
theorem zd_dig (z:Int):Dig 4294967296 (zd z):=dg_dig o_ _
theorem zd_val (z:Int):val 4294967296 (zd z)=z.natAbs:=val_dg o_ _
theorem zd_len {z:Int} (h:Zok z):(zd z).length≤64:=(dg_length_le o_ 64).2 h
theorem zd_right {z:Int} (h:Zok z):RightB (decide (z<0)) (zd z)=true :=
 right_of_canon (dg_canon o_ _) (zd_len h) fun e=>by have:=(dg_eq_nil o_).1 e;simp;omega
theorem zd_sv (z:Int):sv (decide (z<0)) (zd z)=z:=by
 unfold sv sgn;rw [zd_val];by_cases h:z<0;·simp only [h,decide_true,if_true];omega
 ·simp only [h,decide_false];simp;omega
theorem mkI_z {z:Int} (h:Zok z):mkI z=(decide (z<0),zd z,0):=by
 unfold mkI mkN zd;by_cases h0:z.natAbs=0;·
  have:z=0:=o_
  subst this;simp [dg_zero]
 ·rw [if_neg h0,if_pos (show z.natAbs<4294967296 ^ 64 from h)]
theorem addS_z {x y:Int} (hx:Zok x) (hy:Zok y) (h:Zok (x+y)):addS (decide (x<0)) (zd x) (decide (y<0)) (zd y)=(decide (x+y<0),zd (x+y),0):=by rw [addS_sv (zd_right hx) (zd_right hy),zd_sv,zd_sv,mkI_z h]
theorem fromS_z {z:Int} (h:Zok z):fromS z=(decide (z<0),zd z,0):=mkI_z h
theorem zok_int {z:Int} (h1:-9223372036854775808≤z) (h2:z<9223372036854775808):Zok z:=by
 unfold Zok;have:(9223372036854775808:Nat)<4294967296 ^ 64:=by rw [show (64:Nat)=2+62 from rfl,Nat.pow_add];have h1:=Nat.one_le_pow 62 4294967296 o_;have:=Nat.mul_le_mul_left (4294967296 ^ 2) h1;omega
 omega
theorem negS_z {z:Int} (h:Zok z):negS (decide (z<0)) (zd z)=(decide (-z<0),zd (-z),0):=by
 unfold negS;rw [if_neg (by rw [zd_right h];simp),zd_val];unfold mkN zd;by_cases h0:z.natAbs=0;·
  have:z=0:=o_
  subst this;simp [dg_zero]
 ·rw [if_neg h0,if_pos (show z.natAbs<4294967296 ^ 64 from h),Int.natAbs_neg];have:(!decide (z<0))=decide (-z<0):=by
   by_cases hz:z<0;·simp [hz];omega
   ·simp [hz];omega
  rw [this]
def cmpIY (x y:Int):Int:=if x<y then -1 else if x=y then 0 else 1
theorem cmpS_z {x y:Int} (hx:Zok x) (hy:Zok y):cmpS (decide (x<0)) (zd x) (decide (y<0)) (zd y)=cmpIY x y:=by unfold cmpS;rw [if_neg (by rw [zd_right hx,zd_right hy];simp),zd_val,zd_val];unfold cmpN cmpIY;by_cases h1:x<0<;>by_cases h2:y<0<;>simp only [h1,h2,decide_true,decide_false,if_true,reduceCtorEq,if_false,Bool.false_eq_true]<;>(repeat' split)<;>omega
theorem intS_z {z:Int} (h:Zok z):intS (decide (z<0)) (zd z)=if -9223372036854775808≤z∧z<9223372036854775808 then (z,true) else (0,false):=by
 by_cases hi:-9223372036854775808≤z∧z<9223372036854775808;·
  rw [if_pos hi];have:=int_from hi.1 hi.2;rwa [fromS_z h] at this
 ·rw [if_neg hi];unfold intS;by_cases hl:2<(zd z).length;·rw [if_pos (.inr hl)]
  ·rw [if_neg (by rw [zd_right h];simpa using hl),zd_val];by_cases h1:z<0;·simp only [h1,decide_true,if_true];rw [if_neg o_]
   ·simp only [h1,decide_false,Bool.false_eq_true,if_false];rw [if_neg o_]
theorem two_pow_lt {a k n:Nat} (h:n<a*k):2 ^ n<(2 ^ a) ^ k:=by rw [← Nat.pow_mul];exact Nat.pow_lt_pow_right o_ h
theorem shift_one {n:Nat} (h:n≤2047):shiftS false (zd 1) n=(false,zd ((2 ^ n:Nat):Int),0):=by
 have h1:zd 1=[1]:=by unfold zd;rw [show (1:Int).natAbs=1 from rfl,dg_succ o_ o_,show 1 / 4294967296=0 from rfl,dg_zero]
 unfold shiftS;rw [h1,if_neg (by simp [RightB]),if_neg i_,if_neg o_,if_neg o_];have hv:val 4294967296 [1]=1:=by simp [val]
 rw [hv,Nat.one_mul,Int.toNat_natCast];unfold mkN zd;have hp:2 ^ n<4294967296 ^ 64:=two_pow_lt (a:=32) (k:=64) o_;rw [if_neg (by have:=Nat.pow_pos (n:=n) (show 0<2 by omega);omega),if_pos hp,Int.natAbs_natCast]
theorem zok_pow {n:Nat} (h:n≤2047):Zok ((2 ^ n:Nat):Int):=by unfold Zok;rw [Int.natAbs_natCast];exact two_pow_lt (a:=32) (k:=64) o_
theorem zok_le {x y:Int} (hy:Zok y) (h:x.natAbs≤y.natAbs):Zok x:=Nat.lt_of_le_of_lt h hy
theorem right_z {neg:Bool} {ds:List Nat} (hR:RightB neg ds=true) (hD:Dig 4294967296 ds):∃ z,Zok z∧neg=decide (z<0)∧ds=zd z:=by
 refine⟨sv neg ds,?_,?_,?_⟩;·unfold Zok sv;rw [sgn_abs];exact val_right_lt hR hD
 ·have:=mkI_sv hR hD;have h2:Zok (sv neg ds):=by unfold Zok sv;rw [sgn_abs];exact val_right_lt hR hD
  rw [mkI_z h2] at this;exact (congrArg (·.1) this).symm
 ·have:=mkI_sv hR hD;have h2:Zok (sv neg ds):=by unfold Zok sv;rw [sgn_abs];exact val_right_lt hR hD
  rw [mkI_z h2] at this;exact (congrArg (·.2.1) this).symm
theorem bitS_z {z:Int} (h:Zok z) (hz:0≤z) {k:Nat} (hk:k<2048):bitS (decide (z<0)) (zd z) k=z.toNat / 2 ^ k % 2:=by
 have hn:decide (z<0)=false:=by simp;omega
 unfold bitS;rw [if_neg (by rw [zd_right h];simp),if_neg o_,hn];unfold shiftS;have hR:=zd_right h;rw [hn] at hR;rw [if_neg (by rw [hR];simp)];by_cases h0:(zd z).length=0;·
  rw [if_pos h0];have:z.natAbs=0:=by rw [← zd_val z,List.length_eq_zero_iff.1 h0];rfl
  rw [show z.toNat=0 by omega];simp
 ·rw [if_neg h0];by_cases hk0:k=0;·
   subst hk0;simp only [Int.natCast_zero,Int.neg_zero,show ¬ (0:Int)<0 by omega,if_false,show ¬ (2048:Int)<0 by omega,Int.toNat_zero,Nat.pow_zero,Nat.mul_one,Nat.div_one];rw [mkN_right hR (zd_dig z),← val_head,zd_val];congr 1;omega
  ·rw [if_pos o_,if_neg o_];have e1:(- -(k:Int)).toNat=k:=o_;rw [e1];unfold downN;simp only [Bool.false_and,Bool.false_eq_true,if_false,Nat.add_zero];rw [zd_val,show z.natAbs=z.toNat by omega,← val_head (mkN false (z.toNat / 2 ^ k)).2.1];unfold mkN;by_cases hq:z.toNat / 2 ^ k=0;·rw [if_pos hq,hq];rfl
   ·have hlt:z.toNat / 2 ^ k<4294967296 ^ 64:=Nat.lt_of_le_of_lt (Nat.div_le_self _ _) (by have:z.natAbs<4294967296 ^ 64:=h;omega);rw [if_neg hq,if_pos hlt,val_dg o_]
theorem BigZ.fr {w w':World} {A:Nat→Prop} {v:Value} {z:Int} (h:BigZ w A v z) {F:List Nat} (hf:Fr F w w') (hA:∀ g,A g→g∉F):BigZ w' A v z:=by obtain⟨a,c,rfl,h1,h2,h3⟩:=h;exact⟨a,c,rfl,h1,h2,h3.keep fun x hx hl=>hf.block x hl (hA x (h2 x hx))⟩
theorem BigZ.fr0 {w w':World} {A:Nat→Prop} {v:Value} {z:Int} (h:BigZ w A v z) (hf:Fr [] w w'):BigZ w' A v z:=h.fr hf fun _ _=>by simp
theorem BigZ.mono {w:World} {A B:Nat→Prop} {v:Value} {z:Int} (h:BigZ w A v z) (hA:∀ g,A g→B g):BigZ w B v z:=by obtain⟨a,c,rfl,h1,h2,h3⟩:=h;exact⟨a,c,rfl,h1,fun g hg=>hA g (h2 g hg),h3⟩
theorem BigZ.zero (w:World) (A:Nat→Prop):BigZ w A (.agg #[.bool false,.slice none 0 0]) 0:=by
 refine⟨none,0,?_,?_,?_,?_⟩;·simp [zd,dg_zero]
 ·simp [zd,dg_zero]
 ·intro g hg;cases hg
 ·simp only [zd,Int.natAbs_zero,dg_zero];exact⟨rfl,none,0,rfl,fun h=>by simp at h⟩
end Go.Proofs.YtebolidfbflkmaaGreat
end
