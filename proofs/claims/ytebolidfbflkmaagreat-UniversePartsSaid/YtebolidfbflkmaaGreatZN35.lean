/- Own texts of this claim, part 36: no condition. -/
import Derived.Test.YtebolidfbflkmaaGreatZN34
set_option linter.unusedVariables false
set_option linter.unusedSimpArgs false
set_option maxHeartbeats 16000000
set_option maxRecDepth 100000
section
namespace Go.Proofs.YtebolidfbflkmaaGreat
open Go Go.RowKit Rg Mp Hp Qs Ev Bn Uni Pt
theorem tree_result1 {fn:Func} {p:Tmp} (h:fn.results=#[.cell p 25]) {tmps:Array Value} {b:Nat} {w':World} {x y z:Value} (h4:tmps.getD p undef=.pointer (some ⟨b,0,none⟩)) (hb:w'.heap[b]?=some (.cells #[x,y,z] 25 (0,0))) :
  (results fn tmps).run Tryz.prog w'=.ok (.agg #[x,y,z]) w':=by
 rw [results_cell1 h,h4];simp only [asAddr,Sem.run_pure,Result.andThen];rw [run_loadVar_row w' b _ _ _ _ _ hb Tryz.underlying25 rfl k_]
def pB1 (b:Nat):Res:=Hp.blk b (.cells #[.int .i64 0,.int .i64 0,.int .i64 1,.int .i64 0] 116 (0,0))
def pB2 (b:Nat):Res:=Hp.blk b (.cells #[.int .i64 0,.int .i64 1] 3 (0,0))
def pB3 (b:Nat):Res:=Hp.blk b (.cells #[.int .i64 1,.int .i64 0] 3 (0,0))
def pB5 (b x y z:Nat):Res:=Hp.blk b (.cells #[.int .i64 1,.slice (some ⟨x,0,none⟩) 2 2,.int .i64 1,.slice (some ⟨y,0,none⟩) 2 2,.int .i64 2,.slice (some ⟨z,0,none⟩) 2 2] 118 (0,0))
def parL (a b c d e:Nat) (Ps:List Res):List Res:=pB5 e b c d::pB2 d::pB3 c::pB2 b::pB1 a::Ps
theorem par_src {W:World} {a b c d e:Nat} {Ps:List Res}:RuleSrc W (.slice (some ⟨a,0,none⟩) 2 2) (.slice (some ⟨e,0,none⟩) 3 3) parR (parL a b c d e Ps):=fun w Qs h hm=>by
 have h1:=hBk_ h (hm (pB1 a) (by simp [parL]));have h2:=hBk_ h (hm (pB2 b) (by simp [parL]));have h3:=hBk_ h (hm (pB3 c) (by simp [parL]));have h4:=hBk_ h (hm (pB2 d) (by simp [parL]));have h5:=hBk_ h (hm (pB5 e b c d) (by simp [parL]));refine⟨reads_blk (t:=116) (fr:=(0,0)) (cs:=pts parR.hood) h1 rfl,⟨[.slice (some ⟨b,0,none⟩) 2 2,.slice (some ⟨c,0,none⟩) 2 2,.slice (some ⟨d,0,none⟩) 2 2],reads_blk (t:=118) (fr:=(0,0)) (cs:=ncells parR.nodes _) h5 rfl,fun i x hi=>?_⟩⟩;rcases i with _|_|_|i
 ·obtain rfl:(1,[0,1])=x:=Option.some.inj hi;exact⟨_,rfl,reads_blk (t:=3) (fr:=(0,0)) (cs:=iv [0,1]) h2 rfl⟩
 ·obtain rfl:(1,[1,0])=x:=Option.some.inj hi;exact⟨_,rfl,reads_blk (t:=3) (fr:=(0,0)) (cs:=iv [1,0]) h3 rfl⟩
 ·obtain rfl:(2,[0,1])=x:=Option.some.inj hi;exact⟨_,rfl,reads_blk (t:=3) (fr:=(0,0)) (cs:=iv [0,1]) h4 rfl⟩
 ·simp [parR] at hi
theorem parity_calls {W w:World} {Ps:List Res} (h:Has W w Ps):Calls Tryz.prog 33 #[] w fun e w'=>∃ a b c d f,e=.returned (.agg #[.int .i64 2,.slice (some ⟨a,0,none⟩) 2 2,.slice (some ⟨f,0,none⟩) 3 3])∧Has W w' (parL a b c d f Ps):=by obtain⟨o,ho⟩:∃ o,w.heap.size=o:=⟨_,rfl⟩;have h1:=hAL h #[.int .i64 2,.slice (some ⟨o+1,0,none⟩) 2 2,.slice (some ⟨o+1+1+1+1+1,0,none⟩) 3 3] 25;have h2:=hAL h1 #[.int .i64 0,.int .i64 0,.int .i64 1,.int .i64 0] 116;have h3:=hAL h2 #[.int .i64 0,.int .i64 1] 3;have h4:=hAL h3 #[.int .i64 1,.int .i64 0] 3;have h5:=hAL h4 #[.int .i64 0,.int .i64 1] 3;have h6:=hAL h5 #[.int .i64 1,.slice (some ⟨o+1+1,0,none⟩) 2 2,.int .i64 1,.slice (some ⟨o+1+1+1,0,none⟩) 2 2,.int .i64 2,.slice (some ⟨o+1+1+1+1,0,none⟩) 2 2] 118;simp only [hAz,ho] at h6;have h7:=h6.ord 6 [5,0,1,2,3,4];have H7:=q_ h7;clear h h1 h2 h3 h4 h5 h6 h7;go_enter Tryz.func33,Tryz.ntmps33;go_wp2;refine bodyPost_ret (tree_result1 rfl (b:=o) (x:=.int .i64 2) (y:=.slice (some ⟨o+1,0,none⟩) 2 2) (z:=.slice (some ⟨o+1+1+1+1+1,0,none⟩) 3 3) rfl H7.out.blk) rfl ⟨o+1,o+1+1,o+1+1+1,o+1+1+1+1,o+1+1+1+1+1,rfl,H7.out.drop⟩
end Go.Proofs.YtebolidfbflkmaaGreat
end
section
namespace Go.Proofs.YtebolidfbflkmaaGreat
open Go Go.RowKit Rg Hp Bn
theorem take_eq_succ {a b:List Nat} {i:Nat} (hi:i<a.length) (hl:a.length=b.length) (hd:a.take i=b.take i) (h:a.getD i 0=b.getD i 0):a.take (i+1)=b.take (i+1):=by rw [List.take_add_one,List.take_add_one,hd,List.getElem?_eq_getElem hi,List.getElem?_eq_getElem (by omega:i<b.length)];rw [List.getD_eq_getElem?_getD,List.getD_eq_getElem?_getD,List.getElem?_eq_getElem hi,List.getElem?_eq_getElem o_] at h;simp at h;rw [h]
theorem Same_calls {w:World} {na nb:Bool} {da db:List Nat} {va vb:Value} (ha:Reads w va da.length 1 (u32s da)) (hb:Reads w vb db.length 1 (u32s db)) (hla:da.length≤10000) (hlb:db.length≤10000) :
  Calls Tryz.prog 67 #[.agg #[.bool na,va],.agg #[.bool nb,vb]] w fun e w'=>e=.returned (.bool ((na == nb) && decide (da=db)))∧Fr [] w w':=by
 obtain⟨_,a,ac,rfl,haa⟩:=ha;obtain⟨_,b,bc,rfl,hbb⟩:=hb;have Ha:=q_ haa;have Hb:=q_ hbb;obtain⟨r,hS⟩:∃ r,r=((na == nb) && decide (da=db)):=⟨_,rfl⟩;rw [← hS];clear haa hbb;by_cases hne:na=nb
 rotate_left
 ·have hr:r=false:=by rw [hS,beq_eq_false_iff_ne.2 hne];rfl
  subst hr;clear hS;cases na<;>cases nb<;>first|(exact absurd rfl hne)|clear hne
  all_goals
   go_enter Tryz.func67,Tryz.ntmps67;go_wp2;go_ret;exact⟨rfl,Fr.t⟩
 ·subst hne;have hd:(na != na)=false:=by simp
  rw [show (na == na)=true by simp,Bool.true_and] at hS;by_cases hll:da.length=db.length
  rotate_left
  ·have hd2:((da.length:Int) != db.length)=true:=(by rw [bne_iff_ne];omega);have hr:r=false:=(by rw [hS];exact decide_eq_false fun e=>hll (by rw [e]));subst hr;clear hS hll;cases na;all_goals
    go_enter Tryz.func67,Tryz.ntmps67;go_wp2;go_ret;exact⟨rfl,Fr.t⟩
  ·have hd2:((da.length:Int) != db.length)=false:=(by simp;omega);obtain⟨n,hn⟩:∃ n,da.length=n:=⟨_,rfl⟩;have hnb:db.length=n:=o_;rw [hn] at Ha hd2 hla ⊢;rw [hnb] at Hb hd2 ⊢;have Hn:=q_ (And.intro hn hnb);have HS:=q_ hS;clear hS hll hn hnb hlb;go_enter Tryz.func67,Tryz.ntmps67;cases na;all_goals
    go_wp2_with fail;go_loopw [5] (fun x5 wl=>∃ i:Nat,x5=.int .i64 i∧i≤n∧da.take i=db.take i∧Fr [] w wl∧wl.heap[w.heap.size]?=some (.cells #[.bool _,.slice a n ac] 30 (0,0))∧wl.heap[w.heap.size+1]?=some (.cells #[.bool _,.slice b n bc] 30 (0,0))) (fun x5 _=>n - (intOf x5).toNat);case atStart=>exact⟨0,rfl,o_,rfl,Fr.t,by (repeat first|rw [if_pos o_]|rw [if_neg o_]|rw [hDR]|rw [hDN]|rw [hAz]|rw [hSz]|rw [hAC]|rw [hSC]|rw [oMS]|rw [uPC]|rw [lSZ]|rw [lSS]|rfl),by (repeat first|rw [if_pos o_]|rw [if_neg o_]|rw [hDR]|rw [hDN]|rw [hAz]|rw [hSz]|rw [hAC]|rw [hSC]|rw [oMS]|rw [uPC]|rw [lSZ]|rw [lSS]|rfl)⟩
    case round =>
     obtain⟨i,rfl,hi,hT,hf,hA,hB⟩:=hrel;obtain⟨a0,a1,al⟩:=l2_ hA;obtain⟨b0,b1,bl⟩:=l2_ hB;have HA:=q_ hA;have HB:=q_ hB;have HT:=q_ hT;have Hf:=q_ hf;clear hT hA hB;by_cases hin:i<n;·
      obtain⟨g1,o1,rfl,hg1,hc1⟩:=Ha.out o_;obtain⟨g2,o2,rfl,hg2,hc2⟩:=Hb.out o_;have e1:=(hf.cell (p:=⟨g1,o1+i,none⟩) hg1 i_).trans (hc1 i _ (u32s_get (by have:=Hn.out;omega)));have e2:=(hf.cell (p:=⟨g2,o2+i,none⟩) hg2 i_).trans (hc2 i _ (u32s_get (by have:=Hn.out;omega)));have Hst:=q_ (fun h=>take_eq_succ (i:=i) (by have:=Hn.out;omega) (by have:=Hn.out;omega) HT.out h);have Hne:=q_ (fun (h:da.getD i 0≠db.getD i 0)=>(fun e=>h (by rw [e]):da≠db));clear hc1 hc2 hf;generalize da.getD i 0=x at *
      generalize db.getD i 0=y at *
      by_cases hxy:x=y;·
       have hb:((x:Int) != y)=false:=(by rw [hxy];simp);have Hxy:=q_ hxy;clear hxy;go_wp2;(refine wT ?_);go_wp2;refine sT_ rfl ?_;go_wp2;go_roundw;case rel=>exact⟨i+1,by go_num,o_,Hst.out Hxy.out,Hf.out.drewN 1,HA.out,HB.out⟩
       case measure=>simp [intOf];omega
      ·have hb:((x:Int) != y)=true:=(by rw [bne_iff_ne];omega);have hr:r=false:=(by rw [HS.out];exact decide_eq_false (Hne.out hxy));have Hr:=q_ hr;clear hxy hr;go_wp2;(refine wT ?_);go_wp2;refine sT_ rfl ?_;go_wp2;go_ret;exact⟨by rw [Hr.out];rfl,Hf.out.drewN 1⟩
     ·have hr:r=true:=by
       rw [HS.out];have h:=HT.out;rw [List.take_of_length_le (by have:=Hn.out;omega),List.take_of_length_le (by have:=Hn.out;omega)] at h;exact decide_eq_true h
      have Hr:=q_ hr;obtain rfl:i=n:=o_;clear hr hf;go_wp2;go_ret;exact⟨by rw [Hr.out];rfl,Hf.out⟩
open Mp Qs Ev Uni Pt
theorem shift_three {n:Nat} (h:n≤1000):shiftS false (zd 3) n=(false,zd ((3*2 ^ n:Nat):Int),0):=by
 have h1:zd 3=[3]:=by unfold zd;rw [show (3:Int).natAbs=3 from rfl,dg_succ o_ o_,show 3 / 4294967296=0 from rfl,dg_zero]
 unfold shiftS;rw [h1,if_neg (by simp [RightB]),if_neg i_,if_neg o_,if_neg o_];have hv:val 4294967296 [3]=3:=by simp [val]
 rw [hv,Int.toNat_natCast];unfold mkN zd;have hp:3*2 ^ n<4294967296 ^ 64:=by refine Nat.lt_of_lt_of_le (Nat.mul_lt_mul_of_pos_right (show 3<2 ^ 2 by omega) (Nat.pow_pos o_)) ?_;rw [← Nat.pow_add];exact Nat.le_of_lt (two_pow_lt (a:=32) (k:=64) o_)
 rw [if_neg (by have:=Nat.pow_pos (n:=n) (show 0<2 by omega);omega),if_pos hp,Int.natAbs_natCast]
theorem RShift3_z {w:World} {A:Nat→Prop} {va:Value} {n:Nat} (ha:BigZ w A va 3) (hn:n≤1000):Calls Tryz.prog 34 #[va,.int .i64 n] w (RBigCall w ((3*2 ^ n:Nat):Int)):=by obtain⟨a,c,rfl,h0,_,h3⟩:=ha;refine (RShift_calls (neg:=decide ((3:Int)<0)) h3 (zd_dig 3) (by have:=zd_len (z:=3) (zok_int o_ o_);omega) o_ o_).mono ?_;rw [show decide ((3:Int)<0)=false from rfl,shift_three hn];rintro e w' ⟨a,c,⟨h1,h2⟩,rfl,h3,hf⟩;refine⟨_,rfl,⟨a,c,?_,h1,h2,h3⟩,hf⟩;rw [decide_eq_false (Int.not_lt.2 (Int.natCast_nonneg _))]
theorem rsame_z {w:World} {A B:Nat→Prop} {va vb:Value} {x:Int} (ha:BigZ w A va x) (hb:BigZ w B vb x) (hx:Zok x) :
  Calls Tryz.prog 67 #[va,vb] w fun e w'=>e=.returned (.bool true)∧Fr [] w w':=by
 obtain⟨a,c,rfl,_,_,h3⟩:=ha;obtain⟨a',c',rfl,_,_,k3⟩:=hb;have:=Same_calls (na:=decide (x<0)) (nb:=decide (x<0)) h3 k3 (by have:=zd_len hx;omega) (by have:=zd_len hx;omega);simpa using this
theorem lbig_z {w:World} {A B:Nat→Prop} {va vb:Value} {x:Int} (ha:BigZ w A va x) (hb:BigZ w B vb x) (hx:Zok x) :
  Calls Tryz.prog 21 #[va,vb] w fun e w'=>e=.returned (.bool true)∧Fr [] w w':=by
 have HS:=q_ (fun w1 (hf:Fr [] w w1)=>rsame_z (ha.fr0 hf) (hb.fr0 hf) hx);obtain⟨xs,xa,xn,xc,rfl⟩:∃ b a n c,va=.agg #[.bool b,.slice a n c]:=by obtain⟨a,c,hv,_⟩:=ha;exact⟨_,_,_,_,hv⟩
 obtain⟨ys,ya,yn,yc,rfl⟩:∃ b a n c,vb=.agg #[.bool b,.slice a n c]:=by obtain⟨a,c,hv,_⟩:=hb;exact⟨_,_,_,_,hv⟩
 clear ha hb;go_enter Tryz.func21,Tryz.ntmps21;go_wp2_with fail;refine (HS.out _ (Fr.t)).mono ?_;rintro e w1 ⟨rfl,hf⟩;have Hf:=q_ (Fr.trans0 (Fr.t:Fr [] w _) hf);clear hf HS;go_wp2;go_ret;exact⟨rfl,Hf.out⟩
theorem far_lt:(3*2 ^ 150:Nat)+10<2 ^ 200:=by decide +kernel
theorem par1_fld (x y:Int):fldP par1 x y=if (x=0∨x=1)∧y=0 then 1 else 0:=by
 simp only [fldP,par1,List.find?];by_cases h1:(0:Int)=x∧(0:Int)=y;·simp [h1.1.symm,h1.2.symm]
 ·by_cases h2:(1:Int)=x∧(0:Int)=y;·simp [h2.1.symm,h2.2.symm]
  ·simp only [h1,h2,decide_false];rw [if_neg o_]
theorem par0_in (Z R:Int) (h0:0≤Z) (h1:Z+10<R):∀ c∈par0,inV R (Z+c.x)∧inV R (-Z+c.y):=by intro c hc;simp [par0] at hc;subst hc;unfold inV;simp only;omega
theorem par_inside {p:List PC} (hp:p=par0∨p=par1) (Z:Int) (h0:0≤Z) (h1:Z+10<p2 200):Inside 200 (movF2 (fldP p) Z (-Z)):=fun i j hn=>by
 show fldP p (i - Z) (j - -Z)=0;refine fld_none fun c hc=>?_;rcases hp with rfl|rfl
 ·simp [par0] at hc;subst hc;simp only;omega
 ·simp [par1] at hc;rcases hc with rfl|rfl<;>simp only<;>omega
theorem par_holdM (Z:Int):Hold ⟨Z,-Z,21,21⟩ (movF2 (fldP par0) Z (-Z)):=by have h:=hold_mov par_hold Z (-Z);exact hold_more h o_ o_ o_ o_
theorem par_pop (Z:Int) (h0:0≤Z) (h1:Z+10<p2 200):popT (mid 200 (movF2 (fldP par1) Z (-Z)))=2:=by
 have e:=p2_201;unfold mid;rw [mk_mov];refine pop_fld (s:=2) (p:=par1) (by decide) (fun c hc=>?_) (fun c hc=>?_);·
  unfold inSq;rw [show 200+1=201 from rfl];simp [par1] at hc;rcases hc with rfl|rfl<;>simp only<;>omega
 ·simp [par1] at hc;rcases hc with rfl|rfl<;>simp
theorem par_view (Z:Int) (h0:0≤Z) (h1:Z+10<p2 200) (c:PC):c∈par1↔InV ⟨Z,-Z,4,2⟩ 201 (movF2 (fldP par1) Z (-Z)) (-p2 200) (-p2 200) c:=by
 have e:=p2_201;have em:movF2 (fldP par1) Z (-Z) (c.x+Z) (c.y+-Z)=fldP par1 c.x c.y:=by show fldP par1 (c.x+Z - Z) (c.y+-Z - -Z)=_;rw [show c.x+Z - Z=c.x by omega,show c.y+-Z - -Z=c.y by omega]
 unfold InV;simp only;rw [em,par1_fld];constructor;·
  intro hc;simp [par1] at hc;rcases hc with rfl|rfl<;>simp only<;>refine⟨o_,o_,?_,o_⟩<;>simp
 ·rintro⟨_,h2,h3,h4⟩;split at h3;·
   rename_i h5;cases c;simp only at h3 h5;obtain⟨h5|h5,h6⟩:=h5<;>subst h5 h6 h3<;>simp [par1]
  ·exact absurd h3 h4
theorem par_box {Z z0 z1 z2 z3:Int} (hb:BoxOf (movF2 (fldP par1) Z (-Z)) z0 z1 z2 z3):z0=Z∧z1=-Z:=by
 obtain⟨h1,⟨j,h2⟩,⟨i,h3⟩,_⟩:=hb;have hv:∀ a b,movF2 (fldP par1) Z (-Z) a b=if (a - Z=0∨a - Z=1)∧b - -Z=0 then 1 else 0:=fun a b=>par1_fld _ _
 have k:=h1 Z (-Z) (by rw [hv,if_pos o_];omega);rw [hv] at h2 h3;have h2:(z0 - Z=0∨z0 - Z=1)∧j - -Z=0:=by refine Classical.byContradiction fun h=>h2 (if_neg h)
 have h3:(i - Z=0∨i - Z=1)∧z1 - -Z=0:=by refine Classical.byContradiction fun h=>h3 (if_neg h)
 omega
theorem par_kept:Kept parR [] []:=fun id k v h=>by simp [get?] at h
theorem new_has {W w:World} {Ps:List Res} (h:Has W w Ps) (s:Int) (h1:2≤s) (h2:s≤8) :
  Calls Tryz.prog 38 #[.int .i64 s] w fun e w'=>∃ b,e=.returned (.tuple #[.pointer (some ⟨b,0,none⟩),.int .i64 0])∧Has W w' (sTR b s []::Ps):=by
 refine (New_ok s w h1 h2).mono ?_;rintro e w' ⟨b,F,rfl,hS,hf,hF⟩;exact⟨b,rfl,h.new hf hS hF⟩
theorem empty_mid (n:Nat):mid n (fun _ _=>0)=emptyT (n+1):=mk_blank (n+1) fun _ _ _ _ _ _=>rfl
theorem zd_zero:zd ((0:Nat):Int)=[]:=by unfold zd;exact (dg_eq_nil o_).2 rfl
theorem big_zero {W w:World} {Ps:List Res} (h:Has W w Ps):Has W w (bigR false (zd ((0:Nat):Int)) none 0::Ps):=by
 have hz:zd ((0:Nat):Int)=[]:=by unfold zd;exact (dg_eq_nil o_).2 rfl
 rw [hz];exact h.new (Fr.refl [] w) (F:=[]) ⟨⟨reads_nil w,fun d hd=>(by cases hd),i_,i_⟩,rfl⟩ i_
theorem new_u {W w:World} {r:Rule} {ha na:Option Addr} {hc nc:Nat} {Ps:List Res} (hsrc:RuleSrc W (.slice ha r.hood.length hc) (.slice na r.nodes.length nc) r Ps) (hlh:r.hood.length≤1000000) (hln:r.nodes.length≤1000000) (h:Has W w Ps) :
  Calls Tryz.prog 13 #[rv r ha na hc nc] w fun e w'=>(quietB r=false∧e=.returned (.tuple #[.pointer none,.int .i64 11])∧Has W w' Ps) ∨
   (quietB r=true∧∃ ub mb sb rb root ns,e=.returned (.tuple #[.pointer (some ⟨ub,0,none⟩),.int .i64 0])∧Has W w' (uniL ⟨r,.slice ha r.hood.length hc,.slice na r.nodes.length nc,ub,mb,sb,rb,root,0,none,0⟩ ns [] Ps)∧ns.length≤201∧Is r.S ns 201 root (mid 200 fun _ _=>0)):=by
 have HQT:=q_ (fun w1 Qs (h1:Has W w1 Qs) (hm:∀ P∈Ps,P∈Qs)=>Quiet_calls (hsrc w1 Qs h1 hm) hlh hln);have HNW:=q_ (fun (hq:quietB r=true) w1 Qs (h1:Has W w1 Qs)=>new_has h1 r.S (right_S (quiet_parts hq).1).1 (right_S (quiet_parts hq).1).2);have HMN:=q_ (fun (hq:quietB r=true) w1 sb ns Qs (h1:Has W w1 (sTR sb r.S ns::Qs)) (hm:∀ P∈Ps,P∈Qs)=>MNew_calls (hsrc w1 _ h1 fun P hP=>List.mem_cons_of_mem _ (hm P hP)) hlh hln (quiet_parts hq).1 h1);have hs2:quietB r=true→2≤r.S∧r.S≤8:=fun hq=>right_S (quiet_parts hq).1;have h0:=hAL h #[.int .i64 r.S,.slice ha r.hood.length hc,.slice na r.nodes.length nc] 25;unfold rv at HMN ⊢;obtain⟨m,hm⟩:∃ m,r.hood.length=m:=⟨_,rfl⟩;obtain⟨n,hn⟩:∃ m,r.nodes.length=m:=⟨_,rfl⟩;rw [hm,hn] at HQT HMN h0 ⊢;have H:=q_ h0;obtain⟨bq,hbq⟩:∃ b,quietB r=b:=⟨_,rfl⟩;have HBQ:=q_ hbq;rw [hbq] at HQT HNW HMN hs2 ⊢;have HS2:=q_ hs2;clear hsrc hlh hln h0 hm hn hbq hs2;go_enter Tryz.func13,Tryz.ntmps13;go_wp2_with fail;refine (HQT.out _ _ H.out (fun P hP=>List.mem_cons_of_mem _ hP)).mono ?_;rintro e w1 ⟨rfl,hf⟩;have h1:=H.out.step hf;obtain⟨tb,htb⟩:∃ t,w.heap.size=t:=⟨_,rfl⟩;rw [htb] at h1 ⊢;obtain⟨t_,_,tl⟩:=hCE h1;have t0:=t_ 0;have t1:=t_ 1;have t2:=t_ 2;have H1:=q_ h1;clear t_ hf HQT h h1 H htb;cases bq with
 | false =>go_wp2;go_ret2;exact⟨rfl,H1.out.drop⟩
 | true =>
  have H2:=q_ (hAL H1.out #[.int .i64 r.S,.slice ha m hc,.slice na n nc,.pointer none,.pointer none,.int .i64 0,.bool false,.slice none 0 0] 85);clear H1;go_wp2_with fail;refine (HNW.out trivial _ _ H2.out).mono ?_;rintro e w2 ⟨sb,rfl,h2⟩;obtain⟨ub,hub⟩:∃ t,w1.heap.size=t:=⟨_,rfl⟩;rw [hub] at h2;have H3:=q_ h2;clear h2 H2 t0 t1 t2 tl;obtain⟨u_,uz_,ul⟩:=hCE (H3.out.swap);have u3:=u_ 3;have u4:=u_ 4;have u5:=u_ 5;have u3z:=uz_ 3;have u4z:=uz_ 4;have u5z:=uz_ 5;obtain⟨t_,_,tl⟩:=hCE (H3.out.f2);have t0:=t_ 0;have t1:=t_ 1;have t2:=t_ 2;clear u_ uz_ t_;have h4:=hST H3.out.swap 3 (.pointer (some ⟨sb,0,none⟩));obtain⟨w4,hw4⟩:∃ t,w2.setCell ⟨ub,3,none⟩ (.pointer (some ⟨sb,0,none⟩))=t:=⟨_,rfl⟩;rw [hw4] at h4;have H4:=q_ h4;have hgd:=has_good h4.swap;obtain⟨root,ms,hq,_,_,hml,hmi⟩:=empty_is hgd (L:=201) o_ i_;have he:=Empty_has h4.swap 201;rw [show ((201:Nat):Int)=201 from rfl] at hq;rw [hq] at he;have HE:=q_ he;have HMS:=q_ (And.intro hml hmi);clear h4 hgd hq hml hmi he H3;go_wp2_with fail;refine (HE.out).mono ?_;clear hw4 u3 u4 u5 u3z u4z u5z ul t0 t1 t2 tl hub;rintro e w5 ⟨rfl,h5⟩;have H5:=q_ h5;clear h5 H4 HE;obtain⟨u_,uz_,ul⟩:=hCE (H5.out.swap);have u3:=u_ 3;have u4:=u_ 4;have u5:=u_ 5;have u3z:=uz_ 3;have u4z:=uz_ 4;have u5z:=uz_ 5;obtain⟨t_,_,tl⟩:=hCE (H5.out.f2);have t0:=t_ 0;have t1:=t_ 1;have t2:=t_ 2;clear u_ uz_ t_;have h6:=hST H5.out.swap 5 (.int .i64 root);obtain⟨w6,hw6⟩:∃ t,w5.setCell ⟨ub,5,none⟩ (.int .i64 root)=t:=⟨_,rfl⟩;rw [hw6] at h6;have HM6:=q_ (HMN.out trivial w6 sb ms _ h6.swap (fun P hP=>List.mem_cons_of_mem _ (List.mem_cons_of_mem _ hP)));have ht6:=(Has.f2 h6).blk;have t0':=hEC ht6 0;have t1':=hEC ht6 1;have t2':=hEC ht6 2;have tl':=lBk ht6;clear h6 ht6;go_wp2_with fail;refine (HM6.out).mono ?_;clear hw6 u3 u4 u5 u3z u4z u5z ul t0 t1 t2 tl t0' t1' t2' tl'
  rintro e w7 (⟨hne,_⟩|⟨_,mb,rb,rfl,h7⟩);·exact absurd rfl hne
  ·have h8:Has W w7 (Hp.blk ub (.cells _ 85 (0,0))::sTR sb r.S ms::mapR rb []::Hp.blk mb _::Hp.blk tb _::Ps):=Has.ord 5 [3,0,1,2,4] h7;have H8:=q_ h8;clear h7 h8 H5 HM6;obtain⟨u_,uz_,ul⟩:=hCE H8.out;have u4:=u_ 4;have u4z:=uz_ 4;clear u_ uz_;go_wp2;go_ret2;refine⟨ub,rfl,mb,sb,rb,root,ms,?_,by have:=HMS.out.1;simpa using this,by rw [empty_mid];exact HMS.out.2⟩;have h9:=((hST H8.out 4 (.pointer (some ⟨mb,0,none⟩))).ord 5 [1,2,3,0]);rw [show Value.slice none 0 0=Value.slice none (zd ((0:Nat):Int)).length 0 by rw [zd_zero];rfl] at h9;exact (big_zero h9).ord 5 [1,2,3,4,0]
end Go.Proofs.YtebolidfbflkmaaGreat
end
section
namespace Go.Proofs.YtebolidfbflkmaaGreat
open Go Go.RowKit Rg Mp Hp Qs Ev Bn Uni
theorem get_u {W w:World} {U:UP} {ns:List K4} {mm:List ((Int×Int)×Int)} {Ps:List Res} (h:Has W w (uniL U ns mm Ps)) {F:Fld} (hi:Is U.r.S ns 201 U.root (mid 200 F)) {x y:Int} {R:Int} (hR:((2 ^ 200:Nat):Int)=R)
  (hx:inV R x) (hy:inV R y) (zx:Zok x) (zy:Zok y) {A B:Nat→Prop} {va vb:Value} (bx:BigZ w A va x) (by':BigZ w B vb y) :
  Calls Tryz.prog 27 #[.pointer (some ⟨U.ub,0,none⟩),va,vb] w fun e w' =>
   e=.returned (.tuple #[.int .i64 (F x y),.int .i64 0])∧Has W w' (uniL U ns mm Ps):=by
 have bx:=bx.mono (B:=fun _=>True) fun _ _=>trivial;have by':=by'.mono (B:=fun _=>True) fun _ _=>trivial;have hRp:p2 200=R:=hR;have hzR:Zok R:=hR▸zok_pow (n:=200) o_;have hz1:Zok (x+R):=by
  have:=zok_pow (n:=201) o_;refine zok_le this ?_;have e:((2 ^ 201:Nat):Int)=R+R:=by rw [← hRp];exact p2_succ 200
  unfold inV at hx;omega
 have hz2:Zok (y+R):=by
  have:=zok_pow (n:=201) o_;refine zok_le this ?_;have e:((2 ^ 201:Nat):Int)=R+R:=by rw [← hRp];exact p2_succ 200
  unfold inV at hy;omega
 have hq:=get_mid (n:=200) (has_good (uS_ h)) hi (x:=x) (y:=y) (by rw [hRp];exact hx) (by rw [hRp];exact hy) (by rw [hRp];exact hz1) (by rw [hRp];exact hz2);rw [hRp] at hq;have hce:chkE R x y=0:=if_pos ⟨hx,hy⟩;have HPW:=q_ (fun w1=>(hR▸power_z w1 (k:=200) (H:=2 ^ 200) rfl o_:Calls Tryz.prog 49 #[.int .i64 200] w1 (BigCall1 w1 R)));have HP1:=q_ (fun w1 (hf:Fr [] w w1) (A:Nat→Prop) v (hv:BigZ w1 A v R)=>plus_z (bx.fr0 hf) hv zx hzR hz1);have HP2:=q_ (fun w1 (hf:Fr [] w w1) (A:Nat→Prop) v (hv:BigZ w1 A v R)=>plus_z (by'.fr0 hf) hv zy hzR hz2);have HCK:=q_ (fun w1 (hf:Fr [] w w1)=>check_z hR (bx.fr0 hf) (by'.fr0 hf) zx zy);rw [hce] at HCK;have HZ:=q_ (And.intro hz1 hz2);have H:=q_ h;have HQ:=q_ hq;have Hu:=q_ (uH_ h);obtain⟨a1,c1,rfl,hh1⟩:=_root_.id bx;obtain⟨a2,c2,rfl,hh2⟩:=_root_.id by';clear hRp hzR hz1 hz2 hq bx by' h hi hx hy zx zy hR hh1 hh2 hce;have u3:=hEC Hu.out 3;have u5:=hEC Hu.out 5;have ul:=lBk Hu.out;go_enter Tryz.func27,Tryz.ntmps27;go_wp2_with fail;refine (HCK.out _ (Fr.t)).mono ?_;rintro e w1 ⟨rfl,hf⟩;have hx_:=(hf.block (w.heap.size) (by first|(simp;done)|(simp;omega)) i_).trans (show _=some (.cells #[.bool (decide (x<0)),.slice a1 (zd x).length c1] 30 (0,0)) from hpT);obtain⟨x0,x1,xl⟩:=l2_ hx_;have Hx:=q_ hx_;clear hx_;have hy_:=(hf.block (w.heap.size+1) (by first|(simp;done)|(simp;omega)) i_).trans (show _=some (.cells #[.bool (decide (y<0)),.slice a2 (zd y).length c2] 30 (0,0)) from hpT);obtain⟨y0,y1,yl⟩:=l2_ hy_;have Hy:=q_ hy_;clear hy_;have hf:=Fr.trans0 (Fr.t:Fr [] w _) hf;(try clear u0 u1 u2 u3 u4 u5 u6 u7 ul);have hu_:=tk hf Hu;clear Hu;obtain⟨u0,u1,u2,u3,u4,u5,u6,u7,ul⟩:=l8_ hu_;have Hu:=q_ hu_;clear hu_;have Hf0:=q_ hf
 clear hf HCK;go_wp2;refine wS [([0,1,2,3,4,5,6,7,8,11,9],[3,7,8,11]),([10],[3,7,11]),([12],[3,7,11]),([13],[3,7]),([14,15,16,17,18],[])] ?_;(simp only [wpSegs,pick,aq_,bq_,cq_,dq_,eq_]);go_wp2_with fail;refine (HPW.out _).mono ?_;rintro e w2 ⟨v1,rfl,hb1,hf⟩;have hf:=Fr.trans0 (Fr.t:Fr [] w1 _) hf;have Hf1:=q_ (Hf0.out.trans0 hf);(try clear u0 u1 u2 u3 u4 u5 u6 u7 ul);have hu_:=tk hf Hu;clear Hu;obtain⟨u0,u1,u2,u3,u4,u5,u6,u7,ul⟩:=l8_ hu_;have Hu:=q_ hu_;clear hu_;(try clear x0 x1 xl);have hx_:=tk hf Hx;clear Hx;obtain⟨x0,x1,xl⟩:=l2_ hx_;have Hx:=q_ hx_;clear hx_;(try clear y0 y1 yl);have hy_:=tk hf Hy;clear Hy;obtain⟨y0,y1,yl⟩:=l2_ hy_;have Hy:=q_ hy_;clear hy_;have HQ1:=q_ (HP1.out _ Hf1.out _ _ hb1);clear hf hb1;go_wp2;refine mD_ ⟨⟨ac_ (T:=82) rfl rfl rfl Tryz.underlying82 rfl u3 rfl,ac_ (T:=3) rfl rfl rfl Tryz.underlying3 rfl u5 rfl,ab_ (T:=30) rfl rfl rfl Tryz.underlying30 rfl k_ Hx.out rfl,
  ab_ (T:=30) rfl rfl rfl Tryz.underlying30 rfl k_ Hy.out rfl,trivial⟩,?_⟩
 go_wp2_with fail;refine HQ1.out.mono ?_;rintro e w3 ⟨v2,rfl,hb2,hf⟩;(try clear u0 u1 u2 u3 u4 u5 u6 u7 ul);have hu_:=tk hf Hu;clear Hu;obtain⟨u0,u1,u2,u3,u4,u5,u6,u7,ul⟩:=l8_ hu_;have Hu:=q_ hu_;clear hu_;(try clear x0 x1 xl);have hx_:=tk hf Hx;clear Hx;obtain⟨x0,x1,xl⟩:=l2_ hx_;have Hx:=q_ hx_;clear hx_;(try clear y0 y1 yl);have hy_:=tk hf Hy;clear Hy;obtain⟨y0,y1,yl⟩:=l2_ hy_;have Hy:=q_ hy_;clear hy_;have Hf2:=q_ (Hf1.out.trans0 hf);obtain⟨p1,q1,rfl,h2⟩:=has_big (H.out.step Hf1.out) hf hb2 HZ.out.1;have H2:=q_ h2;clear hf hb2 h2 HQ1;go_wp2;refine mD_ ⟨⟨ac_ (T:=82) rfl rfl rfl Tryz.underlying82 rfl u3 rfl,ac_ (T:=3) rfl rfl rfl Tryz.underlying3 rfl u5 rfl,ab_ (T:=30) rfl rfl rfl Tryz.underlying30 rfl k_ Hy.out rfl,trivial⟩,?_⟩;go_wp2_with fail;refine (HPW.out _).mono ?_;rintro e w4 ⟨v3,rfl,hb3,hf⟩;(try clear u0 u1 u2 u3 u4 u5 u6 u7 ul);have hu_:=tk hf Hu;clear Hu;obtain⟨u0,u1,u2,u3,u4,u5,u6,u7,ul⟩:=l8_ hu_;have Hu:=q_ hu_;clear hu_;(try clear x0 x1 xl);have hx_:=tk hf Hx;clear Hx;obtain⟨x0,x1,xl⟩:=l2_ hx_;have Hx:=q_ hx_;clear hx_;(try clear y0 y1 yl);have hy_:=tk hf Hy;clear Hy;obtain⟨y0,y1,yl⟩:=l2_ hy_;have Hy:=q_ hy_;clear hy_;have Hf3:=q_ (Hf2.out.trans0 hf);have HQ3:=q_ (HP2.out _ Hf3.out _ _ hb3);have H3:=q_ (H2.out.step hf);clear hf hb3;go_wp2;refine mD_ ⟨⟨ac_ (T:=82) rfl rfl rfl Tryz.underlying82 rfl u3 rfl,ac_ (T:=3) rfl rfl rfl Tryz.underlying3 rfl u5 rfl,ab_ (T:=30) rfl rfl rfl Tryz.underlying30 rfl k_ Hy.out rfl,trivial⟩,?_⟩;go_wp2_with fail
 refine HQ3.out.mono ?_;rintro e w5 ⟨v4,rfl,hb4,hf⟩;(try clear u0 u1 u2 u3 u4 u5 u6 u7 ul);have hu_:=tk hf Hu;clear Hu;obtain⟨u0,u1,u2,u3,u4,u5,u6,u7,ul⟩:=l8_ hu_;have Hu:=q_ hu_;clear hu_;(try clear x0 x1 xl);have hx_:=tk hf Hx;clear Hx;obtain⟨x0,x1,xl⟩:=l2_ hx_;have Hx:=q_ hx_;clear hx_;(try clear y0 y1 yl);have hy_:=tk hf Hy;clear Hy;obtain⟨y0,y1,yl⟩:=l2_ hy_;have Hy:=q_ hy_;clear hy_;obtain⟨p2,q2,rfl,h4⟩:=has_big H3.out hf hb4 HZ.out.2;have h5:=(Has.f2 h4);have HS:=q_ (Get_q h5 U.root (h4.swap.head.elim fun _ h=>h.1) (h4.head.elim fun _ h=>h.1));rw [HQ.out] at HS;have H4:=q_ h5;clear hf hb4 h4 h5 HQ3;go_wp2;refine mD_ ⟨⟨ac_ (T:=82) rfl rfl rfl Tryz.underlying82 rfl u3 rfl,ac_ (T:=3) rfl rfl rfl Tryz.underlying3 rfl u5 rfl,trivial⟩,?_⟩;go_wp2_with fail;refine HS.out.mono ?_;rintro e w6 ⟨rfl,h5,_⟩;have H5:=q_ (has_drop2 h5);clear h5 HS;go_wp2;refine mD_ ⟨trivial,sT_ rfl ?_⟩;go_wp2;go_ret2;exact⟨rfl,H5.out⟩
theorem gen_u {W w:World} {U:UP} {ns:List K4} {mm:List ((Int×Int)×Int)} {Ps:List Res} (h:Has W w (uniL U ns mm Ps)) :
  Calls Tryz.prog 25 #[.pointer (some ⟨U.ub,0,none⟩)] w fun e w'=>e=.returned (.agg #[.bool false,.slice U.ga (zd (U.G:Int)).length U.gc])∧Has W w' (uniL U ns mm Ps):=by
 obtain⟨_,_,_,_,⟨u6,u7⟩,ul⟩:=uC_ h;have H:=q_ h;clear h;go_enter Tryz.func25,Tryz.ntmps25;go_wp2;refine bodyPost_ret (big_result1 rfl (b:=w.heap.size) (x:=.bool false) (y:=.slice U.ga (zd (U.G:Int)).length U.gc) rfl ?_) rfl ⟨rfl,H.out.step (Fr.t)⟩;exact hpT
theorem pop_u {W w:World} {U:UP} {ns:List K4} {mm:List ((Int×Int)×Int)} {Ps:List Res} (h:Has W w (uniL U ns mm Ps)) {F:Fld} (hi:Is U.r.S ns 201 U.root (mid 200 F)) :
  Calls Tryz.prog 22 #[.pointer (some ⟨U.ub,0,none⟩)] w fun e w'=>∃ a c,e=.returned (bvV (popT (mid 200 F),a,c))∧Has W w' (bigR false (zd ((popT (mid 200 F):Nat):Int)) a c::uniL U ns mm Ps):=by
 have hg:=has_good (uS_ h);have hpq:=fun w1 Qs (h1:Has W w1 (sTR U.sb U.r.S ns::Qs))=>Population_q h1 U.root;rw [popq_is hg hi,known_is hg hi] at hpq;have HPQ:=q_ hpq;obtain⟨V,hV⟩:∃ V,popT (mid 200 F)=V:=⟨_,rfl⟩;rw [hV] at HPQ ⊢;have h0:=ui_ (hAL h #[.bool false,.slice none 0 0] 30);obtain⟨w1,hw1⟩:∃ t,w.alloc (.cells #[.bool false,.slice none 0 0] 30 (0,0))=t:=⟨_,rfl⟩;obtain⟨rb,hrb⟩:∃ t,w.heap.size=t:=⟨_,rfl⟩;rw [hw1,hrb] at h0;obtain⟨_,u3,_,u5,_,ul⟩:=uC_ h0;have H:=q_ h0;unfold bvV;unfold bvV at HPQ;simp only at HPQ ⊢;clear h h0 hg hi hpq hV;go_enter Tryz.func22,Tryz.ntmps22;go_wp2;clear hw1 hrb;refine wK_ [[8,12]] [[([0,1,2,3,4,5,6,7,12,8,9,10,11,13,14],[])],[([0,1,2,3,4,5,6,7,8,9,10,11,12,13,14],[])]] k_ k_ ?_;simp only [allS];refine⟨?_,?_⟩;·
  (simp only [wpSegs,pick,aq_,bq_,cq_,dq_,eq_]);have h2:=ui_ (hAL (H.out.step (w':=w1.drew) (Fr.t)) #[.bool false,.slice none 0 0] 30);obtain⟨w2,hw2⟩:∃ t,w1.drew.alloc (.cells #[.bool false,.slice none 0 0] 30 (0,0))=t:=⟨_,rfl⟩;obtain⟨tb,htb⟩:∃ t,w1.heap.size=t:=⟨_,rfl⟩;rw [hw2,show w1.drew.heap.size=tb from htb] at h2;have H2:=q_ h2;clear h2;go_wp2_with fail;refine (HPQ.out _ _ (uS_ H2.out)).mono ?_;clear hw2 htb;rintro e w3 ⟨a,c,rfl,h3⟩;have hk1:=hBk_ h3 (b:=tb) (o:=.cells #[.bool false,.slice none 0 0] 30 (0,0)) i_;obtain⟨t0,t1⟩:=e2_ hk1;have t0z:=hEF hk1 0;have t1z:=hEF hk1 1;have tl:=lBk hk1;have h4:Has W ((w3.setCell ⟨tb,0,none⟩ (.bool false)).setCell ⟨tb,1,none⟩ (.slice a (zd (V:Int)).length c)) (bigR false (zd (V:Int)) a c::uniL U ns mm (Hp.blk tb (.cells #[.bool false,.slice a (zd (V:Int)).length c] 30 (0,0))::Hp.blk rb (.cells #[.bool false,.slice none 0 0] 30 (0,0))::Ps)) :=
   (hST (hST (h3.ord 7 [6,1,0,2,3,4,5]) 0 (.bool false)) 1 (.slice a (zd (V:Int)).length c)).ord 7 [1,2,3,4,5,6,0]
  obtain⟨w4,hw4⟩:∃ t,(w3.setCell ⟨tb,0,none⟩ (.bool false)).setCell ⟨tb,1,none⟩ (.slice a (zd (V:Int)).length c)=t:=⟨_,rfl⟩;rw [hw4] at h4;have H4:=q_ h4;clear h3 h4 hk1 H2;go_wp2;refine mD_ ⟨trivial,sT_ rfl ?_⟩;clear hw4 t0 t1 t0z t1z tl;have H6:=q_ H4.out;have hk1:=hBk_ H6.out (b:=tb) (o:=.cells #[.bool false,.slice a (zd (V:Int)).length c] 30 (0,0)) (by simp [uniL,memoL]);have hk2:=hBk_ H6.out (b:=rb) (o:=.cells #[.bool false,.slice none 0 0] 30 (0,0)) (by simp [uniL,memoL]);obtain⟨t0,t1,tl⟩:=l2_ hk1;obtain⟨r0,r1⟩:=e2_ hk2;have r0z:=hEF hk2 0;have r1z:=hEF hk2 1;have rl:=lBk hk2;clear hk1;have HRB:=q_ hk2;clear hk2;go_wp2;have h7:=(hST (hST (H6.out.ord 8 [7,0,1,2,3,4,5]) 0 (.bool false)) 1 (.slice a (zd (V:Int)).length c));refine bodyPost_ret (big_result1 rfl (b:=rb) (x:=.bool false) (y:=.slice a (zd (V:Int)).length c) rfl ?_) rfl ⟨a,c,rfl,h7.drop⟩;exact h7.blk
 ·(simp only [wpSegs,pick,aq_,bq_,cq_,dq_,eq_]);go_wp2_with fail;refine (HPQ.out w1.drew _ (uS_ (H.out.step (Fr.t)))).mono ?_;rintro e w3 ⟨a,c,rfl,h3⟩;have h4:=hAL h3 #[.bool false,.slice a (zd (V:Int)).length c] 30;obtain⟨w4,hw4⟩:∃ t,w3.alloc (.cells #[.bool false,.slice a (zd (V:Int)).length c] 30 (0,0))=t:=⟨_,rfl⟩;obtain⟨tb,htb⟩:∃ t,w3.heap.size=t:=⟨_,rfl⟩;rw [hw4,htb] at h4;have h5:Has W w4 (bigR false (zd (V:Int)) a c::uniL U ns mm (Hp.blk tb (.cells #[.bool false,.slice a (zd (V:Int)).length c] 30 (0,0))::Hp.blk rb (.cells #[.bool false,.slice none 0 0] 30 (0,0))::Ps)):=h4.ord 7 [2,1,3,4,5,6,0];have H5:=q_ h5;clear h3 h4 h5;go_wp2;refine mD_ ⟨trivial,sT_ rfl ?_⟩;clear hw4 htb;have H6:=q_ H5.out;have hk1:=hBk_ H6.out (b:=tb) (o:=.cells #[.bool false,.slice a (zd (V:Int)).length c] 30 (0,0)) (by simp [uniL,memoL]);have hk2:=hBk_ H6.out (b:=rb) (o:=.cells #[.bool false,.slice none 0 0] 30 (0,0)) (by simp [uniL,memoL]);obtain⟨t0,t1,tl⟩:=l2_ hk1;obtain⟨r0,r1⟩:=e2_ hk2;have r0z:=hEF hk2 0;have r1z:=hEF hk2 1;have rl:=lBk hk2;clear hk1;have HRB:=q_ hk2;clear hk2;go_wp2;have h7:=(hST (hST (H6.out.ord 8 [7,0,1,2,3,4,5]) 0 (.bool false)) 1 (.slice a (zd (V:Int)).length c));refine bodyPost_ret (big_result1 rfl (b:=rb) (x:=.bool false) (y:=.slice a (zd (V:Int)).length c) rfl ?_) rfl ⟨a,c,rfl,h7.drop⟩;exact h7.blk
end Go.Proofs.YtebolidfbflkmaaGreat
end
section
namespace Go.Proofs.YtebolidfbflkmaaGreat
open Go Go.RowKit Rg Hp Pt
theorem order_z (a b:Int) (w:World):Calls Tryz.prog 109 #[.int .i64 a,.int .i64 b] w fun e w'=>e=.returned (.int .i64 (cmpJ a b))∧w'=w:=by
 unfold cmpJ;by_cases h:a<b;·
  rw [if_pos h];go_enter Tryz.func109,Tryz.ntmps109;go_wp2;go_ret;exact⟨rfl,rfl⟩
 ·rw [if_neg h];by_cases h':b<a;·
   rw [if_pos h'];go_enter Tryz.func109,Tryz.ntmps109;go_wp2;go_ret;exact⟨rfl,rfl⟩
  ·rw [if_neg h'];go_enter Tryz.func109,Tryz.ntmps109;go_wp2;go_ret;exact⟨rfl,rfl⟩
theorem cmpJ_ne {a b:Int} (h:a≠b):cmpJ a b≠0:=by
 unfold cmpJ;split;·omega
 ·split<;>omega
theorem cmpJ_zero {a b:Int}:cmpJ a b=0↔a=b:=by
 constructor;·
  intro h;by_cases e:a=b;·exact e
  ·exact absurd h (cmpJ_ne e)
 ·rintro rfl;simp [cmpJ]
def CRel (l m:List PC) (B k:Nat):Prop:=k≤B∧l.take k=m.take k
def CmpPost (w:World) (l m:List PC) (e:Ending) (w':World):Prop:=∃ z,e=.returned (.int .i64 z)∧(z=0↔l=m)∧Fr [] w w'
theorem ne_at {l m:List PC} {i:Nat} {a b:PC} (ha:l[i]?=some a) (hb:m[i]?=some b) (h:a≠b):l≠m:=by rintro rfl;exact h (Option.some.inj (ha.symm.trans hb))
theorem Compare_p {w:World} {l m:List PC} {a b:Option Addr} {ca cb:Nat} (hl:CellsAt w (.slice a l.length ca) l) (hm:CellsAt w (.slice b m.length cb) m) (h1:l.length≤60000) (h2:m.length≤60000) :
  Calls Tryz.prog 66 #[.slice a l.length ca,.slice b m.length cb] w (CmpPost w l m):=by
 have Hl:=q_ hl;have Hm:=q_ hm;clear hl hm;obtain⟨A,hA⟩:∃ A,l.length=A:=⟨_,rfl⟩;obtain⟨B,hB⟩:∃ B,m.length=B:=⟨_,rfl⟩;rw [hA] at h1 Hl ⊢;rw [hB] at h2 Hm ⊢;have HL:=q_ (And.intro hA hB);clear hA hB;unfold CmpPost;go_enter Tryz.func66,Tryz.ntmps66;go_wp2;go_loopw [5] (fun x wr=>∃ k:Nat,x=.int .i64 (k:Nat)∧k≤A∧CRel l m B k∧Fr [] w wr) (fun x _=>A - (intOf x).toNat);case atStart=>exact⟨0,rfl,o_,⟨o_,rfl⟩,Fr.refl _ _⟩
 case round =>
  obtain⟨k,rfl,hkA,⟨hkB,ht⟩,hf⟩:=hrel;have Hf:=q_ hf;have Ht:=q_ ht;clear hf ht;by_cases hla:k<A;·
   have hda:decide ((k:Int)<(A:Int))=true:=(by simp;omega);by_cases hlb:k<B;·
    have hdb:decide ((k:Int)<(B:Int))=true:=(by simp;omega);obtain⟨⟨x,y,st⟩,hp⟩:∃ p,l[k]?=some p:=⟨_,List.getElem?_eq_getElem (by rw [HL.out.1];exact hla)⟩;obtain⟨⟨u,v,su⟩,hq⟩:∃ p,m[k]?=some p:=⟨_,List.getElem?_eq_getElem (by rw [HL.out.2];exact hlb)⟩;obtain⟨g,off,rfl,hg,e0,e1,e2⟩:=(Hl.out.fr Hf.out).cell hp;obtain⟨g',off',rfl,hg',e3,e4,e5⟩:=(Hm.out.fr Hf.out).cell hq;simp only at e0 e1 e2 e3 e4 e5;have Ha:=q_ hp;have Hb:=q_ hq;clear hp hq;by_cases hy:y=v;·
     subst hy;have hyb:(y != y)=false:=by simp
     by_cases hx:x=u;·
      subst hx;have hxb:(x != x)=false:=by simp
      by_cases hs:st=su;·
       subst hs;have hsb:(st != st)=false:=by simp
       go_wp2;(refine wT ?_);go_wp2;refine sT_ rfl ?_;go_wp2;(refine wT ?_);go_wp2;refine sT_ rfl ?_;go_wp2;(refine wT ?_);go_wp2;refine sT_ rfl ?_;have HLB:=q_ hlb;go_wp2;go_roundw;case rel =>refine⟨k+1,by go_num,o_,⟨by have:=HLB.out;omega,?_⟩,by have:=Hf.out;exact Fr.t⟩;rw [List.take_add_one,List.take_add_one,Ht.out,Ha.out,Hb.out]
       case measure=>simp [intOf];omega
      ·have HS1:=q_ hs;clear hs;go_wp2;(refine wT ?_);go_wp2;refine sT_ rfl ?_;go_wp2;(refine wT ?_);go_wp2;refine sT_ rfl ?_;have hs:=HS1.out;have HNE:=q_ (And.intro (ne_at Ha.out Hb.out (by intro e;cases e;exact hs rfl)) (cmpJ_ne hs));have HO:=q_ (order_z st su);generalize cmpJ st su=z at HNE HO;have hnb:(st != su)=true:=(by simpa using hs);clear hs;go_wp2;(refine wT ?_);go_wp2;refine sT_ rfl ?_
       skip
       go_wp2;(refine wT ?_);go_wp2_with fail;refine (HO.out _).mono ?_;rintro e w3 ⟨rfl,rfl⟩;go_wp2;refine sT_ rfl ?_;go_wp2;go_ret;exact⟨z,rfl,⟨fun h=>absurd h HNE.out.2,fun h=>absurd h HNE.out.1⟩,by have:=Hf.out;exact Fr.t⟩
     ·go_wp2;(refine wT ?_);go_wp2;refine sT_ rfl ?_;have HNE:=q_ (And.intro (ne_at Ha.out Hb.out (by intro e;cases e;exact hx rfl)) (cmpJ_ne hx));have HO:=q_ (order_z x u);generalize cmpJ x u=z at HNE HO;have hnb:(x != u)=true:=by simpa using hx
      clear hx;go_wp2;(refine wT ?_);go_wp2;refine sT_ rfl ?_
      skip
      go_wp2;(refine wT ?_);go_wp2_with fail;refine (HO.out _).mono ?_;rintro e w3 ⟨rfl,rfl⟩;go_wp2;refine sT_ rfl ?_;go_wp2;go_ret;exact⟨z,rfl,⟨fun h=>absurd h HNE.out.2,fun h=>absurd h HNE.out.1⟩,by have:=Hf.out;exact Fr.t⟩
    ·have HNE:=q_ (And.intro (ne_at Ha.out Hb.out (by intro e;cases e;exact hy rfl)) (cmpJ_ne hy));have HO:=q_ (order_z y v);generalize cmpJ y v=z at HNE HO;have hnb:(y != v)=true:=(by simpa using hy);clear hy;go_wp2;(refine wT ?_);go_wp2;refine sT_ rfl ?_
     skip
     go_wp2;(refine wT ?_);go_wp2_with fail;refine (HO.out _).mono ?_;rintro e w3 ⟨rfl,rfl⟩;go_wp2;refine sT_ rfl ?_;go_wp2;go_ret;exact⟨z,rfl,⟨fun h=>absurd h HNE.out.2,fun h=>absurd h HNE.out.1⟩,by have:=Hf.out;exact Fr.t⟩
   ·have hdb:decide ((k:Int)<(B:Int))=false:=(by simp;omega);have hne:l≠m:=(by rintro rfl;have:=HL.out;omega);have hAB:(A:Int)≠(B:Int):=o_;have HNE:=q_ (And.intro hne (cmpJ_ne hAB));have HO:=q_ (order_z (A:Int) (B:Int));generalize cmpJ (A:Int) (B:Int)=z at HNE HO;clear hne hAB;go_wp2_with fail;refine (HO.out _).mono ?_;rintro e w3 ⟨rfl,rfl⟩;go_wp2;go_ret;exact⟨z,rfl,⟨fun h=>absurd h HNE.out.2,fun h=>absurd h HNE.out.1⟩,Hf.out⟩
  ·obtain rfl:k=A:=o_;have hda:decide ((k:Int)<(k:Int))=false:=i_;have HZ:=q_ (show cmpJ (k:Int) (B:Int)=0↔l=m by
    rw [cmpJ_zero]
    constructor
    ·intro h
     have h:=Int.ofNat.inj h
     have h3:=Ht.out
     rw [List.take_of_length_le (by rw [HL.out.1];exact Nat.le_refl _),List.take_of_length_le (by rw [HL.out.2,← h];exact Nat.le_refl _)] at h3
     exact h3
    ·rintro rfl
     have:=HL.out;omega)
   have HO:=q_ (order_z (k:Int) (B:Int));generalize cmpJ (k:Int) (B:Int)=z at HZ HO;go_wp2_with fail;refine (HO.out _).mono ?_;rintro e w3 ⟨rfl,rfl⟩;go_wp2;go_ret;exact⟨z,rfl,HZ.out,Hf.out⟩
theorem Same_p {w:World} {l m:List PC} {a b:Option Addr} {ca cb:Nat} (hl:CellsAt w (.slice a l.length ca) l) (hm:CellsAt w (.slice b m.length cb) m) (h1:l.length≤60000) (h2:m.length≤60000) :
  Calls Tryz.prog 20 #[.slice a l.length ca,.slice b m.length cb] w fun e w'=>e=.returned (.bool (decide (l=m)))∧Fr [] w w':=by
 have HC:=q_ (Compare_p hl hm h1 h2);obtain⟨A,hA⟩:∃ A,l.length=A:=⟨_,rfl⟩;obtain⟨B,hB⟩:∃ B,m.length=B:=⟨_,rfl⟩;rw [hA,hB] at HC ⊢;obtain⟨r,hr⟩:∃ r,decide (l=m)=r:=⟨_,rfl⟩;have HR:=q_ hr;rw [hr];clear hl hm h1 h2 hA hB hr;go_enter Tryz.func20,Tryz.ntmps20;go_wp2_with fail;refine HC.out.mono ?_;rintro e w1 ⟨z,rfl,hz,hf⟩;have Hz:=q_ (show (z == 0)=r by rw [← HR.out,Bool.eq_iff_iff];simpa using hz);have Hf:=q_ hf;clear hz hf;go_wp2;go_ret;exact⟨ret_bool' Hz.out,Hf.out⟩
open Mp Qs Ev Bn Uni
theorem vis_len {v:VB} {n:Nat} {F:Fld} {x y:Int} {q:List PC} (hq:rightP q=true) (h:∀ c,c∈q↔InV v n F x y c):(visL v n (mk n F x y) x y).length=q.length :=
 ((List.perm_ext_iff_of_nodup nodup_visL (strict_nodup (right_parts hq).2.2)).2 fun c=>by rw [mem_visL,h]).length_eq
theorem run_neg {W w:World} {U:UP} {ns:List K4} {mm:List ((Int×Int)×Int)} {Ps:List Res} (h:Has W w (uniL U ns mm Ps)) {A:Nat→Prop} {vn:Value} {n:Int} (bn:BigZ w A vn n) (hn:n<0) (zn:Zok n) :
  Calls Tryz.prog 15 #[.pointer (some ⟨U.ub,0,none⟩),vn] w fun e w'=>e=.returned (.int .i64 2)∧Has W w' (uniL U ns mm Ps):=by
 have HRT:=q_ (fun w1 (hf:Fr [] w w1)=>Right_z (bn.fr0 hf) zn);obtain⟨an,cn,hvn,_⟩:=bn;rw [decide_eq_true hn] at hvn;subst hvn;have H:=q_ h;obtain⟨b2,hb2⟩:∃ b,w.heap.size=b:=⟨_,rfl⟩;clear h;go_enter Tryz.func15,Tryz.ntmps15;go_wp2;refine wS [([0,1],[]),([2,3,4,5,6,7,8,9],[8]),([10,11,12,13],[])] ?_;(simp only [wpSegs,pick,aq_,bq_,cq_,dq_,eq_]);go_wp2_with fail;refine (HRT.out _ (Fr.t)).mono ?_;rintro e w1 ⟨rfl,hf⟩;have hn_:=(hf.block (w.heap.size+1) (by first|(simp;done)|(simp;omega)) i_).trans (show _=some (.cells #[.bool true,.slice an (zd n).length cn] 30 (0,0)) from hpT);obtain⟨n0,n1,nl⟩:=l2_ hn_;have Hn:=q_ hn_;clear hn_;have Hf:=q_ (Fr.trans0 (Fr.t:Fr [] w _) hf);clear hf HRT;rw [hb2] at n0 n1 nl;go_wp2;refine mD_ ⟨trivial,?_⟩;go_wp2;refine mD_ ⟨⟨fun o ho hw=>by obtain rfl:=Option.some.inj ho;exact absurd hw (by simp [Region.wanted,yielded]),trivial⟩,?_⟩;go_wp2;refine mD_ ⟨trivial,sT_ rfl ?_⟩;go_wp2;go_ret;exact⟨rfl,H.out.step (by have:=Hf.out;exact Fr.t)⟩
end Go.Proofs.YtebolidfbflkmaaGreat
end
