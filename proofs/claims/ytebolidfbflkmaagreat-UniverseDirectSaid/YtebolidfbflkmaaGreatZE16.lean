/- Own texts of this claim, part 17: no condition. -/
import Derived.ProofKit
import Derived.OpenShut
import Derived.Deep.Slices
import Derived.Test.YtebolidfbflkmaaGreatZE15
set_option linter.unusedVariables false
set_option linter.unusedSimpArgs false
set_option maxHeartbeats 16000000
set_option maxRecDepth 100000
namespace Go.Proofs.YtebolidfbflkmaaGreat
open Go Go.RowKit Rg Mp Hp Qs Ev Bn Uni Pt
variable {b:Nat}
theorem tree_result1 {fn:Func} {p:Tmp} (h:fn.results=#[.cell p 25]) {tmps:Array Value} {w':World} {x y z:Value} (h4:tmps.getD p undef=.pointer (some ⟨b,0,none⟩)) (hb:w'.heap[b]?=some (.cells #[x,y,z] 25 (0,0))) :
  (results fn tmps).run Tryz.prog w'=.ok (.agg #[x,y,z]) w':=by
 rw [Et h,h4];simp only [asAddr,Sem.run_pure,Result.andThen];rw [run_loadVar_row w' b _ _ _ _ _ hb Tryz.underlying25 rfl k_]
def pB1 (b:Nat):Res:=Hp.blk b (.cells #[.int .i64 0,.int .i64 0,.int .i64 1,.int .i64 0] 116 (0,0))
def pB2 (b:Nat):Res:=Hp.blk b (.cells #[.int .i64 0,.int .i64 1] 3 (0,0))
def pB3 (b:Nat):Res:=Hp.blk b (.cells #[.int .i64 1,.int .i64 0] 3 (0,0))
def pB5 (b x y z:Nat):Res:=Hp.blk b (.cells #[.int .i64 1,.slice (some ⟨x,0,none⟩) 2 2,.int .i64 1,.slice (some ⟨y,0,none⟩) 2 2,.int .i64 2,.slice (some ⟨z,0,none⟩) 2 2] 118 (0,0))
def F6 (a b c d e:Nat) (Ps:List Res):List Res:=pB5 e b c d::pB2 d::pB3 c::pB2 b::pB1 a::Ps
variable {W:World}{Ps:List Res}
theorem par_src {a c d e:Nat}:RuleSrc W (.slice (some ⟨a,0,none⟩) 2 2) (.slice (some ⟨e,0,none⟩) 3 3) parR (F6 a b c d e Ps):=fun w Qs h hm=>by
 have h1:=A5 h (hm (pB1 a) (by simp [F6]));have h2:=A5 h (hm (pB2 b) (by simp [F6]));have h3:=A5 h (hm (pB3 c) (by simp [F6]));have h4:=A5 h (hm (pB2 d) (by simp [F6]));have h5:=A5 h (hm (pB5 e b c d) (by simp [F6]));refine⟨C3 (t:=116) (fr:=(0,0)) (cs:=pts parR.hood) h1 rfl,⟨[.slice (some ⟨b,0,none⟩) 2 2,.slice (some ⟨c,0,none⟩) 2 2,.slice (some ⟨d,0,none⟩) 2 2],C3 (t:=118) (fr:=(0,0)) (cs:=S0 parR.nodes _) h5 rfl,fun i x hi=>?_⟩⟩;rcases i with _|_|_|i
 ·obtain rfl:(1,[0,1])=x:=Option.some.inj hi;exact⟨_,rfl,C3 (t:=3) (fr:=(0,0)) (cs:=iv [0,1]) h2 rfl⟩
 ·obtain rfl:(1,[1,0])=x:=Option.some.inj hi;exact⟨_,rfl,C3 (t:=3) (fr:=(0,0)) (cs:=iv [1,0]) h3 rfl⟩
 ·obtain rfl:(2,[0,1])=x:=Option.some.inj hi;exact⟨_,rfl,C3 (t:=3) (fr:=(0,0)) (cs:=iv [0,1]) h4 rfl⟩
 ·simp [parR] at hi
theorem parity_calls {w:World} (h:Has W w Ps):Calls Tryz.prog 33 #[] w fun e w'=>∃ a b c d f,e=.returned (.agg #[.int .i64 2,.slice (some ⟨a,0,none⟩) 2 2,.slice (some ⟨f,0,none⟩) 3 3])∧Has W w' (F6 a b c d f Ps):=by obtain⟨o,ho⟩:∃ o,w.heap.size=o:=⟨_,rfl⟩;have h1:=hAL h #[.int .i64 2,.slice (some ⟨o+1,0,none⟩) 2 2,.slice (some ⟨o+1+1+1+1+1,0,none⟩) 3 3] 25;have h2:=hAL h1 #[.int .i64 0,.int .i64 0,.int .i64 1,.int .i64 0] 116;have h3:=hAL h2 #[.int .i64 0,.int .i64 1] 3;have h4:=hAL h3 #[.int .i64 1,.int .i64 0] 3;have h5:=hAL h4 #[.int .i64 0,.int .i64 1] 3;have h6:=hAL h5 #[.int .i64 1,.slice (some ⟨o+1+1,0,none⟩) 2 2,.int .i64 1,.slice (some ⟨o+1+1+1,0,none⟩) 2 2,.int .i64 2,.slice (some ⟨o+1+1+1+1,0,none⟩) 2 2] 118;simp only [hAz,ho] at h6;have h7:=h6.ord 6 [5,0,1,2,3,4];have H7:=q_ h7;clear h h1 h2 h3 h4 h5 h6 h7;go_enter Tryz.func33,Tryz.ntmps33;go_wp2;refine bodyPost_ret (tree_result1 rfl (b:=o) (x:=.int .i64 2) (y:=.slice (some ⟨o+1,0,none⟩) 2 2) (z:=.slice (some ⟨o+1+1+1+1+1,0,none⟩) 3 3) rfl H7.o.blk) rfl ⟨o+1,o+1+1,o+1+1+1,o+1+1+1+1,o+1+1+1+1+1,rfl,H7.o.drop⟩
end Go.Proofs.YtebolidfbflkmaaGreat
namespace Go.Proofs.YtebolidfbflkmaaGreat
open Go Go.RowKit Rg Hp Bn
theorem take_eq_succ {a b:List Nat} {i:Nat} (hi:i<a.length) (hl:a.length=b.length) (hd:a.take i=b.take i) (h:a.getD i 0=b.getD i 0):a.take (i+1)=b.take (i+1):=by rw [List.take_add_one,List.take_add_one,hd,List.getElem?_eq_getElem hi,List.getElem?_eq_getElem (by omega:i<b.length)];rw [List.getD_eq_getElem?_getD,List.getD_eq_getElem?_getD,List.getElem?_eq_getElem hi,List.getElem?_eq_getElem o_] at h;simp at h;rw [h]
variable {w:World}{va vb:Value}
theorem Same_calls {na nb:Bool} {da db:List Nat} (ha:Reads w va da.length 1 (Aw da)) (hb:Reads w vb db.length 1 (Aw db)) (hla:da.length≤10000) (hlb:db.length≤10000) :
  Calls Tryz.prog 67 #[.agg #[.bool na,va],.agg #[.bool nb,vb]] w fun e w'=>e=.returned (.bool ((na == nb) && decide (da=db)))∧Fr [] w w':=by
 obtain⟨_,a,ac,rfl,haa⟩:=ha;obtain⟨_,b,bc,rfl,hbb⟩:=hb;have Ha:=q_ haa;have Hb:=q_ hbb;obtain⟨r,hS⟩:∃ r,r=((na == nb) && decide (da=db)):=⟨_,rfl⟩;rw [← hS];clear haa hbb;by_cases hne:na=nb
 rotate_left
 ·have hr:r=false:=by rw [hS,beq_eq_false_iff_ne.2 hne];rfl
  subst hr;clear hS;cases na<;>cases nb<;>first|(exact absurd rfl hne)|clear hne
  all_goals
   go_enter Tryz.func67,Tryz.ntmps67;go_wp2;go_ret;exact⟨rfl,Fr.t⟩
 ·subst hne;have hd:(na != na)=false:=by simp
  rw [show (na == na)=true by simp,Bool.true_and] at hS;by_cases hll:da.length=db.length
  rotate_left
  ·have hd2:((da.length:Int) != db.length)=true:=(by rw [bne_iff_ne];omega);have hr:r=false:=(by rw [hS];exact decide_eq_false fun e=>hll (by rw [e]));subst hr;clear hS hll;cases na;all_goals
    go_enter Tryz.func67,Tryz.ntmps67;go_wp2;go_ret;exact⟨rfl,Fr.t⟩
  ·have hd2:((da.length:Int) != db.length)=false:=u_';obtain⟨n,hn⟩:∃ n,da.length=n:=⟨_,rfl⟩;have hnb:db.length=n:=o_;rw [hn] at Ha hd2 hla ⊢;rw [hnb] at Hb hd2 ⊢;have Hn:=q_ (And.intro hn hnb);have HS:=q_ hS;clear hS hll hn hnb hlb;go_enter Tryz.func67,Tryz.ntmps67;cases na;all_goals
    go_wp2_with fail;go_loopw [5] (fun x5 wl=>∃ i:Nat,x5=.int .i64 i∧i≤n∧da.take i=db.take i∧Fr [] w wl∧wl.heap[w.heap.size]?=some (.cells #[.bool _,.slice a n ac] 30 (0,0))∧wl.heap[w.heap.size+1]?=some (.cells #[.bool _,.slice b n bc] 30 (0,0))) (fun x5 _=>n - (intOf x5).toNat);case atStart=>exact⟨0,rfl,o_,rfl,Fr.t,by (repeat first|rw [if_pos o_]|rw [if_neg o_]|rw [hDR]|rw [hDN]|rw [hAz]|rw [hSz]|rw [hAC]|rw [hSC]|rw [oMS]|rw [uPC]|rw [lSZ]|rw [lSS]|rfl),by (repeat first|rw [if_pos o_]|rw [if_neg o_]|rw [hDR]|rw [hDN]|rw [hAz]|rw [hSz]|rw [hAC]|rw [hSC]|rw [oMS]|rw [uPC]|rw [lSZ]|rw [lSS]|rfl)⟩
    case round =>
     obtain⟨i,rfl,hi,hT,hf,hA,hB⟩:=hrel;obtain⟨a0,a1,al⟩:=l2_ hA;obtain⟨b0,b1,bl⟩:=l2_ hB;have HA:=q_ hA;have HB:=q_ hB;have HT:=q_ hT;have Hf:=q_ hf;clear hT hA hB;by_cases hin:i<n;·
      obtain⟨g1,o1,rfl,hg1,hc1⟩:=Ha.o o_;obtain⟨g2,o2,rfl,hg2,hc2⟩:=Hb.o o_;have e1:=(hf.cell (p:=⟨g1,o1+i,none⟩) hg1 i_).trans (hc1 i _ (Av (by have:=Hn.o;omega)));have e2:=(hf.cell (p:=⟨g2,o2+i,none⟩) hg2 i_).trans (hc2 i _ (Av (by have:=Hn.o;omega)));have Hst:=q_ (fun h=>take_eq_succ (i:=i) (by have:=Hn.o;omega) (by have:=Hn.o;omega) HT.o h);have Hne:=q_ (fun (h:da.getD i 0≠db.getD i 0)=>(fun e=>h (by rw [e]):da≠db));clear hc1 hc2 hf;generalize da.getD i 0=x at *
      generalize db.getD i 0=y at *
      by_cases hxy:x=y;·
       have hb:((x:Int) != y)=false:=(by rw [hxy];simp);have Hxy:=q_ hxy;clear hxy;go_wp2;(refine wT ?_);go_wp2;refine sT_ rfl ?_;go_wp2;go_roundw;case rel=>exact⟨i+1,by go_num,o_,Hst.o Hxy.o,Hf.o.drewN 1,HA.o,HB.o⟩
       case measure=>simp [intOf];omega
      ·have hb:((x:Int) != y)=true:=(by rw [bne_iff_ne];omega);have hr:r=false:=(by rw [HS.o];exact decide_eq_false (Hne.o hxy));have Hr:=q_ hr;clear hxy hr;go_wp2;(refine wT ?_);go_wp2;refine sT_ rfl ?_;go_wp2;go_ret;exact⟨by rw [Hr.o];rfl,Hf.o.drewN 1⟩
     ·have hr:r=true:=by
       rw [HS.o];have h:=HT.o;rw [List.take_of_length_le (by have:=Hn.o;omega),List.take_of_length_le (by have:=Hn.o;omega)] at h;exact decide_eq_true h
      have Hr:=q_ hr;obtain rfl:i=n:=o_;clear hr hf;go_wp2;go_ret;exact⟨by rw [Hr.o];rfl,Hf.o⟩
open Mp Qs Ev Uni Pt
variable {n:Nat}
theorem shift_three (h:n≤1000):D8 false (zd 3) n=(false,zd ((3*2 ^ n:Nat):Int),0):=by
 have h1:zd 3=[3]:=by unfold zd;rw [show (3:Int).natAbs=3 from rfl,dg_succ o_ o_,show 3 / 4294967296=0 from rfl,Bd]
 unfold D8;rw [h1,if_neg (by simp [A7]),if_neg i_,if_neg o_,if_neg o_];have hv:val 4294967296 [3]=3:=by simp [val]
 rw [hv,Int.toNat_natCast];unfold mkN zd;have hp:3*2 ^ n<4294967296 ^ 64:=by refine Nat.lt_of_lt_of_le (Nat.mul_lt_mul_of_pos_right (show 3<2 ^ 2 by omega) (Nat.pow_pos o_)) ?_;rw [← Nat.pow_add];exact Nat.le_of_lt (Fy (a:=32) (k:=64) o_)
 rw [if_neg (by have:=Nat.pow_pos (n:=n) (show 0<2 by omega);omega),if_pos hp,Int.natAbs_natCast]
variable {A:Nat→Prop}
theorem RShift3_z (ha:BigZ w A va 3) (hn:n≤1000):Calls Tryz.prog 34 #[va,.int .i64 n] w (Uh w ((3*2 ^ n:Nat):Int)):=by obtain⟨a,c,rfl,h0,_,h3⟩:=ha;refine (RShift_calls (neg:=decide ((3:Int)<0)) h3 (E8 3) (by have:=D7 (z:=3) (Bb o_ o_);omega) o_ o_).mono ?_;rw [show decide ((3:Int)<0)=false from rfl,shift_three hn];rintro e w' ⟨a,c,⟨h1,h2⟩,rfl,h3,hf⟩;refine⟨_,rfl,⟨a,c,?_,h1,h2,h3⟩,hf⟩;rw [decide_eq_false (Int.not_lt.2 (Int.natCast_nonneg _))]
variable {B:Nat→Prop}{x:Int}
theorem rsame_z (ha:BigZ w A va x) (hb:BigZ w B vb x) (hx:Zok x) :
  Calls Tryz.prog 67 #[va,vb] w fun e w'=>e=.returned (.bool true)∧Fr [] w w':=by
 obtain⟨a,c,rfl,_,_,h3⟩:=ha;obtain⟨a',c',rfl,_,_,k3⟩:=hb;have:=Same_calls (na:=decide (x<0)) (nb:=decide (x<0)) h3 k3 (by have:=D7 hx;omega) (by have:=D7 hx;omega);simpa using this
theorem S4 (ha:BigZ w A va x) (hb:BigZ w B vb x) (hx:Zok x) :
  Calls Tryz.prog 21 #[va,vb] w fun e w'=>e=.returned (.bool true)∧Fr [] w w':=by
 have HS:=q_ (fun w1 (hf:Fr [] w w1)=>rsame_z (ha.fr0 hf) (hb.fr0 hf) hx);obtain⟨xs,xa,xn,xc,rfl⟩:∃ b a n c,va=.agg #[.bool b,.slice a n c]:=by obtain⟨a,c,hv,_⟩:=ha;exact⟨_,_,_,_,hv⟩
 obtain⟨ys,ya,yn,yc,rfl⟩:∃ b a n c,vb=.agg #[.bool b,.slice a n c]:=by obtain⟨a,c,hv,_⟩:=hb;exact⟨_,_,_,_,hv⟩
 clear ha hb;go_enter Tryz.func21,Tryz.ntmps21;go_wp2_with fail;refine (HS.o _ (Fr.t)).mono ?_;rintro e w1 ⟨rfl,hf⟩;have Hf:=q_ (Fr.trans0 (Fr.t:Fr [] w _) hf);clear hf HS;go_wp2;go_ret;exact⟨rfl,Hf.o⟩
theorem far_lt:(3*2 ^ 150:Nat)+10<2 ^ 200:=by decide +kernel
theorem M0 (x y:Int):Bl par1 x y=if (x=0∨x=1)∧y=0 then 1 else 0:=by
 simp only [Bl,par1,List.find?];by_cases h1:(0:Int)=x∧(0:Int)=y;·simp [h1.1.symm,h1.2.symm]
 ·by_cases h2:(1:Int)=x∧(0:Int)=y;·simp [h2.1.symm,h2.2.symm]
  ·simp only [h1,h2,decide_false];rw [if_neg o_]
theorem par0_in (Z R:Int) (h0:0≤Z) (h1:Z+10<R):∀ c∈par0,inV R (Z+c.x)∧inV R (-Z+c.y):=by intro c hc;simp [par0] at hc;subst hc;unfold inV;simp only;omega
theorem G5 {p:List PC} (hp:p=par0∨p=par1) (Z:Int) (h0:0≤Z) (h1:Z+10<p2 200):Inside 200 (C8 (Bl p) Z (-Z)):=fun i j hn=>by
 show Bl p (i - Z) (j - -Z)=0;refine Pu fun c hc=>?_;rcases hp with rfl|rfl
 ·simp [par0] at hc;subst hc;simp only;omega
 ·simp [par1] at hc;rcases hc with rfl|rfl<;>simp only<;>omega
theorem par_holdM (Z:Int):Ln ⟨Z,-Z,21,21⟩ (C8 (Bl par0) Z (-Z)):=by have h:=hold_mov Td Z (-Z);exact R8 h o_ o_ o_ o_
theorem par_pop (Z:Int) (h0:0≤Z) (h1:Z+10<p2 200):B0 (mid 200 (C8 (Bl par1) Z (-Z)))=2:=by
 have e:=It;unfold mid;rw [mk_mov];refine pop_fld (s:=2) (p:=par1) (by decide) (fun c hc=>?_) (fun c hc=>?_);·
  unfold inSq;rw [show 200+1=201 from rfl];simp [par1] at hc;rcases hc with rfl|rfl<;>simp only<;>omega
 ·simp [par1] at hc;rcases hc with rfl|rfl<;>simp
theorem Tc (Z:Int) (h0:0≤Z) (h1:Z+10<p2 200) (c:PC):c∈par1↔InV ⟨Z,-Z,4,2⟩ 201 (C8 (Bl par1) Z (-Z)) (-p2 200) (-p2 200) c:=by
 have e:=It;have em:C8 (Bl par1) Z (-Z) (c.x+Z) (c.y+-Z)=Bl par1 c.x c.y:=by show Bl par1 (c.x+Z - Z) (c.y+-Z - -Z)=_;rw [show c.x+Z - Z=c.x by omega,show c.y+-Z - -Z=c.y by omega]
 unfold InV;simp only;rw [em,M0];constructor;·
  intro hc;simp [par1] at hc;rcases hc with rfl|rfl<;>simp only<;>refine⟨o_,o_,?_,o_⟩<;>simp
 ·rintro⟨_,h2,h3,h4⟩;split at h3;·
   rename_i h5;cases c;simp only at h3 h5;obtain⟨h5|h5,h6⟩:=h5<;>subst h5 h6 h3<;>simp [par1]
  ·exact absurd h3 h4
theorem par_box {Z z0 z1 z2 z3:Int} (hb:Ob (C8 (Bl par1) Z (-Z)) z0 z1 z2 z3):z0=Z∧z1=-Z:=by
 obtain⟨h1,⟨j,h2⟩,⟨i,h3⟩,_⟩:=hb;have hv:∀ a b,C8 (Bl par1) Z (-Z) a b=if (a - Z=0∨a - Z=1)∧b - -Z=0 then 1 else 0:=fun a b=>M0 _ _
 have k:=h1 Z (-Z) (by rw [hv,if_pos o_];omega);rw [hv] at h2 h3;have h2:(z0 - Z=0∨z0 - Z=1)∧j - -Z=0:=by refine Classical.byContradiction fun h=>h2 (if_neg h)
 have h3:(i - Z=0∨i - Z=1)∧z1 - -Z=0:=by refine Classical.byContradiction fun h=>h3 (if_neg h)
 omega
theorem par_kept:Kept parR [] []:=fun id k v h=>by simp [get?] at h
variable {W:World}{Ps:List Res}
theorem new_has (h:Has W w Ps) (s:Int) (h1:2≤s) (h2:s≤8) :
  Calls Tryz.prog 38 #[.int .i64 s] w fun e w'=>∃ b,e=.returned (.tuple #[.pointer (some ⟨b,0,none⟩),.int .i64 0])∧Has W w' (sTR b s []::Ps):=by
 refine (New_ok s w h1 h2).mono ?_;rintro e w' ⟨b,F,rfl,hS,hf,hF⟩;exact⟨b,rfl,h.new hf hS hF⟩
theorem empty_mid (n:Nat):mid n (fun _ _=>0)=Ab (n+1):=Fa (n+1) fun _ _ _ _ _ _=>rfl
theorem zd_zero:zd ((0:Nat):Int)=[]:=by unfold zd;exact (Dp o_).2 rfl
theorem big_zero (h:Has W w Ps):Has W w (B4 false (zd ((0:Nat):Int)) none 0::Ps):=by
 have hz:zd ((0:Nat):Int)=[]:=by unfold zd;exact (Dp o_).2 rfl
 rw [hz];exact h.new (Fr.refl [] w) (F:=[]) ⟨⟨reads_nil w,fun d hd=>(by cases hd),i_,i_⟩,rfl⟩ i_
theorem new_u {r:Rule} {ha na:Option Addr} {hc nc:Nat} (hsrc:RuleSrc W (.slice ha r.hood.length hc) (.slice na r.nodes.length nc) r Ps) (hlh:r.hood.length≤1000000) (hln:r.nodes.length≤1000000) (h:Has W w Ps) :
  Calls Tryz.prog 13 #[rv r ha na hc nc] w fun e w'=>(C1 r=false∧e=.returned (.tuple #[.pointer none,.int .i64 11])∧Has W w' Ps) ∨
   (C1 r=true∧∃ ub mb sb rb root ns,e=.returned (.tuple #[.pointer (some ⟨ub,0,none⟩),.int .i64 0])∧Has W w' (A6 ⟨r,.slice ha r.hood.length hc,.slice na r.nodes.length nc,ub,mb,sb,rb,root,0,none,0⟩ ns [] Ps)∧ns.length≤201∧Is r.S ns 201 root (mid 200 fun _ _=>0)):=by
 have HQT:=q_ (fun w1 Qs (h1:Has W w1 Qs) (hm:∀ P∈Ps,P∈Qs)=>Quiet_calls (hsrc w1 Qs h1 hm) hlh hln);have HNW:=q_ (fun (hq:C1 r=true) w1 Qs (h1:Has W w1 Qs)=>new_has h1 r.S (Oh (Ch hq).1).1 (Oh (Ch hq).1).2);have HMN:=q_ (fun (hq:C1 r=true) w1 sb ns Qs (h1:Has W w1 (sTR sb r.S ns::Qs)) (hm:∀ P∈Ps,P∈Qs)=>MNew_calls (hsrc w1 _ h1 fun P hP=>List.mem_cons_of_mem _ (hm P hP)) hlh hln (Ch hq).1 h1);have hs2:C1 r=true→2≤r.S∧r.S≤8:=fun hq=>Oh (Ch hq).1;have h0:=hAL h #[.int .i64 r.S,.slice ha r.hood.length hc,.slice na r.nodes.length nc] 25;unfold rv at HMN ⊢;obtain⟨m,hm⟩:∃ m,r.hood.length=m:=⟨_,rfl⟩;obtain⟨n,hn⟩:∃ m,r.nodes.length=m:=⟨_,rfl⟩;rw [hm,hn] at HQT HMN h0 ⊢;have H:=q_ h0;obtain⟨bq,hbq⟩:∃ b,C1 r=b:=⟨_,rfl⟩;have HBQ:=q_ hbq;rw [hbq] at HQT HNW HMN hs2 ⊢;have HS2:=q_ hs2;clear hsrc hlh hln h0 hm hn hbq hs2;go_enter Tryz.func13,Tryz.ntmps13;go_wp2_with fail;refine (HQT.o _ _ H.o (fun P hP=>List.mem_cons_of_mem _ hP)).mono ?_;rintro e w1 ⟨rfl,hf⟩;have h1:=H.o.step hf;obtain⟨tb,htb⟩:∃ t,w.heap.size=t:=⟨_,rfl⟩;rw [htb] at h1 ⊢;obtain⟨t_,_,tl⟩:=hCE h1;have t0:=t_ 0;have t1:=t_ 1;have t2:=t_ 2;have H1:=q_ h1;clear t_ hf HQT h h1 H htb;cases bq with
 | false =>go_wp2;go_ret2;exact⟨rfl,H1.o.drop⟩
 | true =>
  have H2:=q_ (hAL H1.o #[.int .i64 r.S,.slice ha m hc,.slice na n nc,.pointer none,.pointer none,.int .i64 0,.bool false,.slice none 0 0] 85);clear H1;go_wp2_with fail;refine (HNW.o trivial _ _ H2.o).mono ?_;rintro e w2 ⟨sb,rfl,h2⟩;obtain⟨ub,hub⟩:∃ t,w1.heap.size=t:=⟨_,rfl⟩;rw [hub] at h2;have H3:=q_ h2;clear h2 H2 t0 t1 t2 tl;obtain⟨u_,uz_,ul⟩:=hCE (H3.o.swap);have u3:=u_ 3;have u4:=u_ 4;have u5:=u_ 5;have u3z:=uz_ 3;have u4z:=uz_ 4;have u5z:=uz_ 5;obtain⟨t_,_,tl⟩:=hCE (H3.o.f2);have t0:=t_ 0;have t1:=t_ 1;have t2:=t_ 2;clear u_ uz_ t_;have h4:=hST H3.o.swap 3 (.pointer (some ⟨sb,0,none⟩));obtain⟨w4,hw4⟩:∃ t,w2.setCell ⟨ub,3,none⟩ (.pointer (some ⟨sb,0,none⟩))=t:=⟨_,rfl⟩;rw [hw4] at h4;have H4:=q_ h4;have hgd:=A4 h4.swap;obtain⟨root,ms,hq,_,_,hml,hmi⟩:=U7 hgd (L:=201) o_ i_;have he:=Rp h4.swap 201;rw [show ((201:Nat):Int)=201 from rfl] at hq;rw [hq] at he;have HE:=q_ he;have HMS:=q_ (And.intro hml hmi);clear h4 hgd hq hml hmi he H3;go_wp2_with fail;refine (HE.o).mono ?_;clear hw4 u3 u4 u5 u3z u4z u5z ul t0 t1 t2 tl hub;rintro e w5 ⟨rfl,h5⟩;have H5:=q_ h5;clear h5 H4 HE;obtain⟨u_,uz_,ul⟩:=hCE (H5.o.swap);have u3:=u_ 3;have u4:=u_ 4;have u5:=u_ 5;have u3z:=uz_ 3;have u4z:=uz_ 4;have u5z:=uz_ 5;obtain⟨t_,_,tl⟩:=hCE (H5.o.f2);have t0:=t_ 0;have t1:=t_ 1;have t2:=t_ 2;clear u_ uz_ t_;have h6:=hST H5.o.swap 5 (.int .i64 root);obtain⟨w6,hw6⟩:∃ t,w5.setCell ⟨ub,5,none⟩ (.int .i64 root)=t:=⟨_,rfl⟩;rw [hw6] at h6;have HM6:=q_ (HMN.o trivial w6 sb ms _ h6.swap (fun P hP=>List.mem_cons_of_mem _ (List.mem_cons_of_mem _ hP)));have ht6:=(Has.f2 h6).blk;have t0':=hEC ht6 0;have t1':=hEC ht6 1;have t2':=hEC ht6 2;have tl':=lBk ht6;clear h6 ht6;go_wp2_with fail;refine (HM6.o).mono ?_;clear hw6 u3 u4 u5 u3z u4z u5z ul t0 t1 t2 tl t0' t1' t2' tl'
  rintro e w7 (⟨hne,_⟩|⟨_,mb,rb,rfl,h7⟩);·exact absurd rfl hne
  ·have h8:Has W w7 (Hp.blk ub (.cells _ 85 (0,0))::sTR sb r.S ms::Iv rb []::Hp.blk mb _::Hp.blk tb _::Ps):=Has.ord 5 [3,0,1,2,4] h7;have H8:=q_ h8;clear h7 h8 H5 HM6;obtain⟨u_,uz_,ul⟩:=hCE H8.o;have u4:=u_ 4;have u4z:=uz_ 4;clear u_ uz_;go_wp2;go_ret2;refine⟨ub,rfl,mb,sb,rb,root,ms,?_,by have:=HMS.o.1;simpa using this,by rw [empty_mid];exact HMS.o.2⟩;have h9:=((hST H8.o 4 (.pointer (some ⟨mb,0,none⟩))).ord 5 [1,2,3,0]);rw [show Value.slice none 0 0=Value.slice none (zd ((0:Nat):Int)).length 0 by rw [zd_zero];rfl] at h9;exact (big_zero h9).ord 5 [1,2,3,4,0]
end Go.Proofs.YtebolidfbflkmaaGreat
namespace Go.Proofs.YtebolidfbflkmaaGreat
open Go Go.RowKit Rg Mp Hp Qs Ev Bn Uni
variable {W w:World}{U:UP}{ns:List K4}{mm:List ((Int×Int)×Int)}{Ps:List Res}{F:Fld}
theorem get_u (h:Has W w (A6 U ns mm Ps)) (hi:Is U.r.S ns 201 U.root (mid 200 F)) {x y:Int} {R:Int} (hR:((2 ^ 200:Nat):Int)=R)
  (hx:inV R x) (hy:inV R y) (zx:Zok x) (zy:Zok y) {A B:Nat→Prop} {va vb:Value} (bx:BigZ w A va x) (by':BigZ w B vb y) :
  Calls Tryz.prog 27 #[.pointer (some ⟨U.ub,0,none⟩),va,vb] w fun e w' =>
   e=.returned (.tuple #[.int .i64 (F x y),.int .i64 0])∧Has W w' (A6 U ns mm Ps):=by
 have bx:=bx.mono (B:=fun _=>True) fun _ _=>trivial;have by':=by'.mono (B:=fun _=>True) fun _ _=>trivial;have hRp:p2 200=R:=hR;have hzR:Zok R:=hR▸Bh (n:=200) o_;have hz1:Zok (x+R):=by
  have:=Bh (n:=201) o_;refine E7 this ?_;have e:((2 ^ 201:Nat):Int)=R+R:=by rw [← hRp];exact Ac 200
  unfold inV at hx;omega
 have hz2:Zok (y+R):=by
  have:=Bh (n:=201) o_;refine E7 this ?_;have e:((2 ^ 201:Nat):Int)=R+R:=by rw [← hRp];exact Ac 200
  unfold inV at hy;omega
 have hq:=get_mid (n:=200) (A4 (uS_ h)) hi (x:=x) (y:=y) (by rw [hRp];exact hx) (by rw [hRp];exact hy) (by rw [hRp];exact hz1) (by rw [hRp];exact hz2);rw [hRp] at hq;have hce:Sl R x y=0:=if_pos ⟨hx,hy⟩;have HPW:=q_ (fun w1=>(hR▸Dz w1 (k:=200) (H:=2 ^ 200) rfl o_:Calls Tryz.prog 49 #[.int .i64 200] w1 (D2 w1 R)));have HP1:=q_ (fun w1 (hf:Fr [] w w1) (A:Nat→Prop) v (hv:BigZ w1 A v R)=>Co (bx.fr0 hf) hv zx hzR hz1);have HP2:=q_ (fun w1 (hf:Fr [] w w1) (A:Nat→Prop) v (hv:BigZ w1 A v R)=>Co (by'.fr0 hf) hv zy hzR hz2);have HCK:=q_ (fun w1 (hf:Fr [] w w1)=>Sm hR (bx.fr0 hf) (by'.fr0 hf) zx zy);rw [hce] at HCK;have HZ:=q_ (And.intro hz1 hz2);have H:=q_ h;have HQ:=q_ hq;have Hu:=q_ (uH_ h);obtain⟨a1,c1,rfl,hh1⟩:=_root_.id bx;obtain⟨a2,c2,rfl,hh2⟩:=_root_.id by';clear hRp hzR hz1 hz2 hq bx by' h hi hx hy zx zy hR hh1 hh2 hce;have u3:=hEC Hu.o 3;have u5:=hEC Hu.o 5;have ul:=lBk Hu.o;go_enter Tryz.func27,Tryz.ntmps27;go_wp2_with fail;refine (HCK.o _ (Fr.t)).mono ?_;rintro e w1 ⟨rfl,hf⟩;have hx_:=(hf.block (w.heap.size) f_' i_).trans (show _=some (.cells #[.bool (decide (x<0)),.slice a1 (zd x).length c1] 30 (0,0)) from hpT);obtain⟨x0,x1,xl⟩:=l2_ hx_;have Hx:=q_ hx_;clear hx_;have hy_:=(hf.block (w.heap.size+1) f_' i_).trans (show _=some (.cells #[.bool (decide (y<0)),.slice a2 (zd y).length c2] 30 (0,0)) from hpT);obtain⟨y0,y1,yl⟩:=l2_ hy_;have Hy:=q_ hy_;clear hy_;have hf:=Fr.trans0 (Fr.t:Fr [] w _) hf;(try clear u0 u1 u2 u3 u4 u5 u6 u7 ul);have hu_:=tk hf Hu;clear Hu;obtain⟨u0,u1,u2,u3,u4,u5,u6,u7,ul⟩:=l8_ hu_;have Hu:=q_ hu_;clear hu_;have Hf0:=q_ hf
 clear hf HCK;go_wp2;refine wS [([0,1,2,3,4,5,6,7,8,11,9],[3,7,8,11]),([10],[3,7,11]),([12],[3,7,11]),([13],[3,7]),([14,15,16,17,18],[])] ?_;(simp only [A2,pick,aq_,bq_,cq_,dq_,eq_]);go_wp2_with fail;refine (HPW.o _).mono ?_;rintro e w2 ⟨v1,rfl,hb1,hf⟩;have hf:=Fr.trans0 (Fr.t:Fr [] w1 _) hf;have Hf1:=q_ (Hf0.o.trans0 hf);(try clear u0 u1 u2 u3 u4 u5 u6 u7 ul);have hu_:=tk hf Hu;clear Hu;obtain⟨u0,u1,u2,u3,u4,u5,u6,u7,ul⟩:=l8_ hu_;have Hu:=q_ hu_;clear hu_;(try clear x0 x1 xl);have hx_:=tk hf Hx;clear Hx;obtain⟨x0,x1,xl⟩:=l2_ hx_;have Hx:=q_ hx_;clear hx_;(try clear y0 y1 yl);have hy_:=tk hf Hy;clear Hy;obtain⟨y0,y1,yl⟩:=l2_ hy_;have Hy:=q_ hy_;clear hy_;have HQ1:=q_ (HP1.o _ Hf1.o _ _ hb1);clear hf hb1;go_wp2;refine mD_ ⟨⟨ac_ (T:=82) rfl rfl rfl Tryz.underlying82 rfl u3 rfl,ac_ (T:=3) rfl rfl rfl Tryz.underlying3 rfl u5 rfl,ab_ (T:=30) rfl rfl rfl Tryz.underlying30 rfl k_ Hx.o rfl,
  ab_ (T:=30) rfl rfl rfl Tryz.underlying30 rfl k_ Hy.o rfl,trivial⟩,?_⟩
 go_wp2_with fail;refine HQ1.o.mono ?_;rintro e w3 ⟨v2,rfl,hb2,hf⟩;(try clear u0 u1 u2 u3 u4 u5 u6 u7 ul);have hu_:=tk hf Hu;clear Hu;obtain⟨u0,u1,u2,u3,u4,u5,u6,u7,ul⟩:=l8_ hu_;have Hu:=q_ hu_;clear hu_;(try clear x0 x1 xl);have hx_:=tk hf Hx;clear Hx;obtain⟨x0,x1,xl⟩:=l2_ hx_;have Hx:=q_ hx_;clear hx_;(try clear y0 y1 yl);have hy_:=tk hf Hy;clear Hy;obtain⟨y0,y1,yl⟩:=l2_ hy_;have Hy:=q_ hy_;clear hy_;have Hf2:=q_ (Hf1.o.trans0 hf);obtain⟨p1,q1,rfl,h2⟩:=Bj (H.o.step Hf1.o) hf hb2 HZ.o.1;have H2:=q_ h2;clear hf hb2 h2 HQ1;go_wp2;refine mD_ ⟨⟨ac_ (T:=82) rfl rfl rfl Tryz.underlying82 rfl u3 rfl,ac_ (T:=3) rfl rfl rfl Tryz.underlying3 rfl u5 rfl,ab_ (T:=30) rfl rfl rfl Tryz.underlying30 rfl k_ Hy.o rfl,trivial⟩,?_⟩;go_wp2_with fail;refine (HPW.o _).mono ?_;rintro e w4 ⟨v3,rfl,hb3,hf⟩;(try clear u0 u1 u2 u3 u4 u5 u6 u7 ul);have hu_:=tk hf Hu;clear Hu;obtain⟨u0,u1,u2,u3,u4,u5,u6,u7,ul⟩:=l8_ hu_;have Hu:=q_ hu_;clear hu_;(try clear x0 x1 xl);have hx_:=tk hf Hx;clear Hx;obtain⟨x0,x1,xl⟩:=l2_ hx_;have Hx:=q_ hx_;clear hx_;(try clear y0 y1 yl);have hy_:=tk hf Hy;clear Hy;obtain⟨y0,y1,yl⟩:=l2_ hy_;have Hy:=q_ hy_;clear hy_;have Hf3:=q_ (Hf2.o.trans0 hf);have HQ3:=q_ (HP2.o _ Hf3.o _ _ hb3);have H3:=q_ (H2.o.step hf);clear hf hb3;go_wp2;refine mD_ ⟨⟨ac_ (T:=82) rfl rfl rfl Tryz.underlying82 rfl u3 rfl,ac_ (T:=3) rfl rfl rfl Tryz.underlying3 rfl u5 rfl,ab_ (T:=30) rfl rfl rfl Tryz.underlying30 rfl k_ Hy.o rfl,trivial⟩,?_⟩;go_wp2_with fail
 refine HQ3.o.mono ?_;rintro e w5 ⟨v4,rfl,hb4,hf⟩;(try clear u0 u1 u2 u3 u4 u5 u6 u7 ul);have hu_:=tk hf Hu;clear Hu;obtain⟨u0,u1,u2,u3,u4,u5,u6,u7,ul⟩:=l8_ hu_;have Hu:=q_ hu_;clear hu_;(try clear x0 x1 xl);have hx_:=tk hf Hx;clear Hx;obtain⟨x0,x1,xl⟩:=l2_ hx_;have Hx:=q_ hx_;clear hx_;(try clear y0 y1 yl);have hy_:=tk hf Hy;clear Hy;obtain⟨y0,y1,yl⟩:=l2_ hy_;have Hy:=q_ hy_;clear hy_;obtain⟨p2,q2,rfl,h4⟩:=Bj H3.o hf hb4 HZ.o.2;have h5:=(Has.f2 h4);have HS:=q_ (Get_q h5 U.root (h4.swap.head.elim fun _ h=>h.1) (h4.head.elim fun _ h=>h.1));rw [HQ.o] at HS;have H4:=q_ h5;clear hf hb4 h4 h5 HQ3;go_wp2;refine mD_ ⟨⟨ac_ (T:=82) rfl rfl rfl Tryz.underlying82 rfl u3 rfl,ac_ (T:=3) rfl rfl rfl Tryz.underlying3 rfl u5 rfl,trivial⟩,?_⟩;go_wp2_with fail;refine HS.o.mono ?_;rintro e w6 ⟨rfl,h5,_⟩;have H5:=q_ (R9 h5);clear h5 HS;go_wp2;refine mD_ ⟨trivial,sT_ rfl ?_⟩;go_wp2;go_ret2;exact⟨rfl,H5.o⟩
theorem gen_u (h:Has W w (A6 U ns mm Ps)) :
  Calls Tryz.prog 25 #[.pointer (some ⟨U.ub,0,none⟩)] w fun e w'=>e=.returned (.agg #[.bool false,.slice U.ga (zd (U.G:Int)).length U.gc])∧Has W w' (A6 U ns mm Ps):=by
 obtain⟨_,_,_,_,⟨u6,u7⟩,ul⟩:=uC_ h;have H:=q_ h;clear h;go_enter Tryz.func25,Tryz.ntmps25;go_wp2;refine bodyPost_ret (Ai rfl (b:=w.heap.size) (x:=.bool false) (y:=.slice U.ga (zd (U.G:Int)).length U.gc) rfl ?_) rfl ⟨rfl,H.o.step (Fr.t)⟩;exact hpT
theorem pop_u (h:Has W w (A6 U ns mm Ps)) (hi:Is U.r.S ns 201 U.root (mid 200 F)) :
  Calls Tryz.prog 22 #[.pointer (some ⟨U.ub,0,none⟩)] w fun e w'=>∃ a c,e=.returned (bvV (B0 (mid 200 F),a,c))∧Has W w' (B4 false (zd ((B0 (mid 200 F):Nat):Int)) a c::A6 U ns mm Ps):=by
 have hg:=A4 (uS_ h);have hpq:=fun w1 Qs (h1:Has W w1 (sTR U.sb U.r.S ns::Qs))=>Population_q h1 U.root;rw [popq_is hg hi,Pi hg hi] at hpq;have HPQ:=q_ hpq;obtain⟨V,hV⟩:∃ V,B0 (mid 200 F)=V:=⟨_,rfl⟩;rw [hV] at HPQ ⊢;have h0:=ui_ (hAL h #[.bool false,.slice none 0 0] 30);obtain⟨w1,hw1⟩:∃ t,w.alloc (.cells #[.bool false,.slice none 0 0] 30 (0,0))=t:=⟨_,rfl⟩;obtain⟨rb,hrb⟩:∃ t,w.heap.size=t:=⟨_,rfl⟩;rw [hw1,hrb] at h0;obtain⟨_,u3,_,u5,_,ul⟩:=uC_ h0;have H:=q_ h0;unfold bvV;unfold bvV at HPQ;simp only at HPQ ⊢;clear h h0 hg hi hpq hV;go_enter Tryz.func22,Tryz.ntmps22;go_wp2;clear hw1 hrb;refine wK_ [[8,12]] [[([0,1,2,3,4,5,6,7,12,8,9,10,11,13,14],[])],[([0,1,2,3,4,5,6,7,8,9,10,11,12,13,14],[])]] k_ k_ ?_;simp only [Ml];refine⟨?_,?_⟩;·
  (simp only [A2,pick,aq_,bq_,cq_,dq_,eq_]);have h2:=ui_ (hAL (H.o.step (w':=w1.drew) (Fr.t)) #[.bool false,.slice none 0 0] 30);obtain⟨w2,hw2⟩:∃ t,w1.drew.alloc (.cells #[.bool false,.slice none 0 0] 30 (0,0))=t:=⟨_,rfl⟩;obtain⟨tb,htb⟩:∃ t,w1.heap.size=t:=⟨_,rfl⟩;rw [hw2,show w1.drew.heap.size=tb from htb] at h2;have H2:=q_ h2;clear h2;go_wp2_with fail;refine (HPQ.o _ _ (uS_ H2.o)).mono ?_;clear hw2 htb;rintro e w3 ⟨a,c,rfl,h3⟩;have hk1:=A5 h3 (b:=tb) (o:=.cells #[.bool false,.slice none 0 0] 30 (0,0)) i_;obtain⟨t0,t1⟩:=e2_ hk1;have t0z:=hEF hk1 0;have t1z:=hEF hk1 1;have tl:=lBk hk1;have h4:Has W ((w3.setCell ⟨tb,0,none⟩ (.bool false)).setCell ⟨tb,1,none⟩ (.slice a (zd (V:Int)).length c)) (B4 false (zd (V:Int)) a c::A6 U ns mm (Hp.blk tb (.cells #[.bool false,.slice a (zd (V:Int)).length c] 30 (0,0))::Hp.blk rb (.cells #[.bool false,.slice none 0 0] 30 (0,0))::Ps)) :=
   (hST (hST (h3.ord 7 [6,1,0,2,3,4,5]) 0 (.bool false)) 1 (.slice a (zd (V:Int)).length c)).ord 7 [1,2,3,4,5,6,0]
  obtain⟨w4,hw4⟩:∃ t,(w3.setCell ⟨tb,0,none⟩ (.bool false)).setCell ⟨tb,1,none⟩ (.slice a (zd (V:Int)).length c)=t:=⟨_,rfl⟩;rw [hw4] at h4;have H4:=q_ h4;clear h3 h4 hk1 H2;go_wp2;refine mD_ ⟨trivial,sT_ rfl ?_⟩;clear hw4 t0 t1 t0z t1z tl;have H6:=q_ H4.o;have hk1:=A5 H6.o (b:=tb) (o:=.cells #[.bool false,.slice a (zd (V:Int)).length c] 30 (0,0)) (by simp [A6,A9]);have hk2:=A5 H6.o (b:=rb) (o:=.cells #[.bool false,.slice none 0 0] 30 (0,0)) (by simp [A6,A9]);obtain⟨t0,t1,tl⟩:=l2_ hk1;obtain⟨r0,r1⟩:=e2_ hk2;have r0z:=hEF hk2 0;have r1z:=hEF hk2 1;have rl:=lBk hk2;clear hk1;have HRB:=q_ hk2;clear hk2;go_wp2;have h7:=(hST (hST (H6.o.ord 8 [7,0,1,2,3,4,5]) 0 (.bool false)) 1 (.slice a (zd (V:Int)).length c));refine bodyPost_ret (Ai rfl (b:=rb) (x:=.bool false) (y:=.slice a (zd (V:Int)).length c) rfl ?_) rfl ⟨a,c,rfl,h7.drop⟩;exact h7.blk
 ·(simp only [A2,pick,aq_,bq_,cq_,dq_,eq_]);go_wp2_with fail;refine (HPQ.o w1.drew _ (uS_ (H.o.step (Fr.t)))).mono ?_;rintro e w3 ⟨a,c,rfl,h3⟩;have h4:=hAL h3 #[.bool false,.slice a (zd (V:Int)).length c] 30;obtain⟨w4,hw4⟩:∃ t,w3.alloc (.cells #[.bool false,.slice a (zd (V:Int)).length c] 30 (0,0))=t:=⟨_,rfl⟩;obtain⟨tb,htb⟩:∃ t,w3.heap.size=t:=⟨_,rfl⟩;rw [hw4,htb] at h4;have h5:Has W w4 (B4 false (zd (V:Int)) a c::A6 U ns mm (Hp.blk tb (.cells #[.bool false,.slice a (zd (V:Int)).length c] 30 (0,0))::Hp.blk rb (.cells #[.bool false,.slice none 0 0] 30 (0,0))::Ps)):=h4.ord 7 [2,1,3,4,5,6,0];have H5:=q_ h5;clear h3 h4 h5;go_wp2;refine mD_ ⟨trivial,sT_ rfl ?_⟩;clear hw4 htb;have H6:=q_ H5.o;have hk1:=A5 H6.o (b:=tb) (o:=.cells #[.bool false,.slice a (zd (V:Int)).length c] 30 (0,0)) (by simp [A6,A9]);have hk2:=A5 H6.o (b:=rb) (o:=.cells #[.bool false,.slice none 0 0] 30 (0,0)) (by simp [A6,A9]);obtain⟨t0,t1,tl⟩:=l2_ hk1;obtain⟨r0,r1⟩:=e2_ hk2;have r0z:=hEF hk2 0;have r1z:=hEF hk2 1;have rl:=lBk hk2;clear hk1;have HRB:=q_ hk2;clear hk2;go_wp2;have h7:=(hST (hST (H6.o.ord 8 [7,0,1,2,3,4,5]) 0 (.bool false)) 1 (.slice a (zd (V:Int)).length c));refine bodyPost_ret (Ai rfl (b:=rb) (x:=.bool false) (y:=.slice a (zd (V:Int)).length c) rfl ?_) rfl ⟨a,c,rfl,h7.drop⟩;exact h7.blk
end Go.Proofs.YtebolidfbflkmaaGreat
namespace Go.Proofs.YtebolidfbflkmaaGreat
open Go Go.RowKit Rg Hp Pt
theorem M1 (a b:Int) (w:World):Calls Tryz.prog 109 #[.int .i64 a,.int .i64 b] w fun e w'=>e=.returned (.int .i64 (Ga a b))∧w'=w:=by
 unfold Ga;by_cases h:a<b;·
  rw [if_pos h];go_enter Tryz.func109,Tryz.ntmps109;go_wp2;go_ret;exact⟨rfl,rfl⟩
 ·rw [if_neg h];by_cases h':b<a;·
   rw [if_pos h'];go_enter Tryz.func109,Tryz.ntmps109;go_wp2;go_ret;exact⟨rfl,rfl⟩
  ·rw [if_neg h'];go_enter Tryz.func109,Tryz.ntmps109;go_wp2;go_ret;exact⟨rfl,rfl⟩
variable {a b:Int}
theorem Mh (h:a≠b):Ga a b≠0:=by
 unfold Ga;split;·omega
 ·split<;>omega
theorem cmpJ_zero:Ga a b=0↔a=b:=by
 constructor;·
  intro h;by_cases e:a=b;·exact e
  ·exact absurd h (Mh e)
 ·rintro rfl;simp [Ga]
def CRel (l m:List PC) (B k:Nat):Prop:=k≤B∧l.take k=m.take k
def X5 (w:World) (l m:List PC) (e:Ending) (w':World):Prop:=∃ z,e=.returned (.int .i64 z)∧(z=0↔l=m)∧Fr [] w w'
variable {l m:List PC}
theorem ne_at {i:Nat} {a b:PC} (ha:l[i]?=some a) (hb:m[i]?=some b) (h:a≠b):l≠m:=by rintro rfl;exact h (Option.some.inj (ha.symm.trans hb))
variable {w:World}{ca cb:Nat}
theorem Compare_p {a b:Option Addr} (hl:CellsAt w (.slice a l.length ca) l) (hm:CellsAt w (.slice b m.length cb) m) (h1:l.length≤60000) (h2:m.length≤60000) :
  Calls Tryz.prog 66 #[.slice a l.length ca,.slice b m.length cb] w (X5 w l m):=by
 have Hl:=q_ hl;have Hm:=q_ hm;clear hl hm;obtain⟨A,hA⟩:∃ A,l.length=A:=⟨_,rfl⟩;obtain⟨B,hB⟩:∃ B,m.length=B:=⟨_,rfl⟩;rw [hA] at h1 Hl ⊢;rw [hB] at h2 Hm ⊢;have HL:=q_ (And.intro hA hB);clear hA hB;unfold X5;go_enter Tryz.func66,Tryz.ntmps66;go_wp2;go_loopw [5] (fun x wr=>∃ k:Nat,x=.int .i64 (k:Nat)∧k≤A∧CRel l m B k∧Fr [] w wr) (fun x _=>A - (intOf x).toNat);case atStart=>exact⟨0,rfl,o_,⟨o_,rfl⟩,Fr.refl _ _⟩
 case round =>
  obtain⟨k,rfl,hkA,⟨hkB,ht⟩,hf⟩:=hrel;have Hf:=q_ hf;have Ht:=q_ ht;clear hf ht;by_cases hla:k<A;·
   have hda:decide ((k:Int)<(A:Int))=true:=u_';by_cases hlb:k<B;·
    have hdb:decide ((k:Int)<(B:Int))=true:=u_';obtain⟨⟨x,y,st⟩,hp⟩:∃ p,l[k]?=some p:=⟨_,List.getElem?_eq_getElem (by rw [HL.o.1];exact hla)⟩;obtain⟨⟨u,v,su⟩,hq⟩:∃ p,m[k]?=some p:=⟨_,List.getElem?_eq_getElem (by rw [HL.o.2];exact hlb)⟩;obtain⟨g,off,rfl,hg,e0,e1,e2⟩:=(Hl.o.fr Hf.o).cell hp;obtain⟨g',off',rfl,hg',e3,e4,e5⟩:=(Hm.o.fr Hf.o).cell hq;simp only at e0 e1 e2 e3 e4 e5;have Ha:=q_ hp;have Hb:=q_ hq;clear hp hq;by_cases hy:y=v;·
     subst hy;have hyb:(y != y)=false:=by simp
     by_cases hx:x=u;·
      subst hx;have hxb:(x != x)=false:=by simp
      by_cases hs:st=su;·
       subst hs;have hsb:(st != st)=false:=by simp
       go_wp2;(refine wT ?_);go_wp2;refine sT_ rfl ?_;go_wp2;(refine wT ?_);go_wp2;refine sT_ rfl ?_;go_wp2;(refine wT ?_);go_wp2;refine sT_ rfl ?_;have HLB:=q_ hlb;go_wp2;go_roundw;case rel =>refine⟨k+1,by go_num,o_,⟨by have:=HLB.o;omega,?_⟩,by have:=Hf.o;exact Fr.t⟩;rw [List.take_add_one,List.take_add_one,Ht.o,Ha.o,Hb.o]
       case measure=>simp [intOf];omega
      ·have HS1:=q_ hs;clear hs;go_wp2;(refine wT ?_);go_wp2;refine sT_ rfl ?_;go_wp2;(refine wT ?_);go_wp2;refine sT_ rfl ?_;have hs:=HS1.o;have HNE:=q_ (And.intro (ne_at Ha.o Hb.o (by intro e;cases e;exact hs rfl)) (Mh hs));have HO:=q_ (M1 st su);generalize Ga st su=z at HNE HO;have hnb:(st != su)=true:=(by simpa using hs);clear hs;go_wp2;(refine wT ?_);go_wp2;refine sT_ rfl ?_
       skip
       go_wp2;(refine wT ?_);go_wp2_with fail;refine (HO.o _).mono ?_;rintro e w3 ⟨rfl,rfl⟩;go_wp2;refine sT_ rfl ?_;go_wp2;go_ret;exact⟨z,rfl,⟨fun h=>absurd h HNE.o.2,fun h=>absurd h HNE.o.1⟩,by have:=Hf.o;exact Fr.t⟩
     ·go_wp2;(refine wT ?_);go_wp2;refine sT_ rfl ?_;have HNE:=q_ (And.intro (ne_at Ha.o Hb.o (by intro e;cases e;exact hx rfl)) (Mh hx));have HO:=q_ (M1 x u);generalize Ga x u=z at HNE HO;have hnb:(x != u)=true:=by simpa using hx
      clear hx;go_wp2;(refine wT ?_);go_wp2;refine sT_ rfl ?_
      skip
      go_wp2;(refine wT ?_);go_wp2_with fail;refine (HO.o _).mono ?_;rintro e w3 ⟨rfl,rfl⟩;go_wp2;refine sT_ rfl ?_;go_wp2;go_ret;exact⟨z,rfl,⟨fun h=>absurd h HNE.o.2,fun h=>absurd h HNE.o.1⟩,by have:=Hf.o;exact Fr.t⟩
    ·have HNE:=q_ (And.intro (ne_at Ha.o Hb.o (by intro e;cases e;exact hy rfl)) (Mh hy));have HO:=q_ (M1 y v);generalize Ga y v=z at HNE HO;have hnb:(y != v)=true:=(by simpa using hy);clear hy;go_wp2;(refine wT ?_);go_wp2;refine sT_ rfl ?_
     skip
     go_wp2;(refine wT ?_);go_wp2_with fail;refine (HO.o _).mono ?_;rintro e w3 ⟨rfl,rfl⟩;go_wp2;refine sT_ rfl ?_;go_wp2;go_ret;exact⟨z,rfl,⟨fun h=>absurd h HNE.o.2,fun h=>absurd h HNE.o.1⟩,by have:=Hf.o;exact Fr.t⟩
   ·have hdb:decide ((k:Int)<(B:Int))=false:=u_';have hne:l≠m:=(by rintro rfl;have:=HL.o;omega);have hAB:(A:Int)≠(B:Int):=o_;have HNE:=q_ (And.intro hne (Mh hAB));have HO:=q_ (M1 (A:Int) (B:Int));generalize Ga (A:Int) (B:Int)=z at HNE HO;clear hne hAB;go_wp2_with fail;refine (HO.o _).mono ?_;rintro e w3 ⟨rfl,rfl⟩;go_wp2;go_ret;exact⟨z,rfl,⟨fun h=>absurd h HNE.o.2,fun h=>absurd h HNE.o.1⟩,Hf.o⟩
  ·obtain rfl:k=A:=o_;have hda:decide ((k:Int)<(k:Int))=false:=i_;have HZ:=q_ (show Ga (k:Int) (B:Int)=0↔l=m by
    rw [cmpJ_zero]
    constructor
    ·intro h
     have h:=Int.ofNat.inj h
     have h3:=Ht.o
     rw [List.take_of_length_le (by rw [HL.o.1];exact Nat.le_refl _),List.take_of_length_le (by rw [HL.o.2,← h];exact Nat.le_refl _)] at h3
     exact h3
    ·rintro rfl
     have:=HL.o;omega)
   have HO:=q_ (M1 (k:Int) (B:Int));generalize Ga (k:Int) (B:Int)=z at HZ HO;go_wp2_with fail;refine (HO.o _).mono ?_;rintro e w3 ⟨rfl,rfl⟩;go_wp2;go_ret;exact⟨z,rfl,HZ.o,Hf.o⟩
theorem Same_p {a b:Option Addr} (hl:CellsAt w (.slice a l.length ca) l) (hm:CellsAt w (.slice b m.length cb) m) (h1:l.length≤60000) (h2:m.length≤60000) :
  Calls Tryz.prog 20 #[.slice a l.length ca,.slice b m.length cb] w fun e w'=>e=.returned (.bool (decide (l=m)))∧Fr [] w w':=by
 have HC:=q_ (Compare_p hl hm h1 h2);obtain⟨A,hA⟩:∃ A,l.length=A:=⟨_,rfl⟩;obtain⟨B,hB⟩:∃ B,m.length=B:=⟨_,rfl⟩;rw [hA,hB] at HC ⊢;obtain⟨r,hr⟩:∃ r,decide (l=m)=r:=⟨_,rfl⟩;have HR:=q_ hr;rw [hr];clear hl hm h1 h2 hA hB hr;go_enter Tryz.func20,Tryz.ntmps20;go_wp2_with fail;refine HC.o.mono ?_;rintro e w1 ⟨z,rfl,hz,hf⟩;have Hz:=q_ (show (z == 0)=r by rw [← HR.o,Bool.eq_iff_iff];simpa using hz);have Hf:=q_ hf;clear hz hf;go_wp2;go_ret;exact⟨Ag Hz.o,Hf.o⟩
open Mp Qs Ev Bn Uni
theorem vis_len {v:VB} {n:Nat} {F:Fld} {x y:Int} {q:List PC} (hq:Cn q=true) (h:∀ c,c∈q↔InV v n F x y c):(Bt v n (mk n F x y) x y).length=q.length :=
 ((List.perm_ext_iff_of_nodup Ef (Lt (Cx hq).2.2)).2 fun c=>by rw [Bv,h]).length_eq
theorem run_neg {W:World} {U:UP} {ns:List K4} {mm:List ((Int×Int)×Int)} {Ps:List Res} (h:Has W w (A6 U ns mm Ps)) {A:Nat→Prop} {vn:Value} {n:Int} (bn:BigZ w A vn n) (hn:n<0) (zn:Zok n) :
  Calls Tryz.prog 15 #[.pointer (some ⟨U.ub,0,none⟩),vn] w fun e w'=>e=.returned (.int .i64 2)∧Has W w' (A6 U ns mm Ps):=by
 have HRT:=q_ (fun w1 (hf:Fr [] w w1)=>Gm (bn.fr0 hf) zn);obtain⟨an,cn,hvn,_⟩:=bn;rw [decide_eq_true hn] at hvn;subst hvn;have H:=q_ h;obtain⟨b2,hb2⟩:∃ b,w.heap.size=b:=⟨_,rfl⟩;clear h;go_enter Tryz.func15,Tryz.ntmps15;go_wp2;refine wS [([0,1],[]),([2,3,4,5,6,7,8,9],[8]),([10,11,12,13],[])] ?_;(simp only [A2,pick,aq_,bq_,cq_,dq_,eq_]);go_wp2_with fail;refine (HRT.o _ (Fr.t)).mono ?_;rintro e w1 ⟨rfl,hf⟩;have hn_:=(hf.block (w.heap.size+1) f_' i_).trans (show _=some (.cells #[.bool true,.slice an (zd n).length cn] 30 (0,0)) from hpT);obtain⟨n0,n1,nl⟩:=l2_ hn_;have Hn:=q_ hn_;clear hn_;have Hf:=q_ (Fr.trans0 (Fr.t:Fr [] w _) hf);clear hf HRT;rw [hb2] at n0 n1 nl;go_wp2;refine mD_ ⟨trivial,?_⟩;go_wp2;refine mD_ ⟨⟨fun o ho hw=>by obtain rfl:=Option.some.inj ho;exact absurd hw (by simp [Region.wanted,yielded]),trivial⟩,?_⟩;go_wp2;refine mD_ ⟨trivial,sT_ rfl ?_⟩;go_wp2;go_ret;exact⟨rfl,H.o.step (by have:=Hf.o;exact Fr.t)⟩
end Go.Proofs.YtebolidfbflkmaaGreat
namespace Go.Proofs.YtebolidfbflkmaaGreat
open Go Go.RowKit Rg Mp Hp Qs Ev Bn Uni Pt
def AwSt (W w:World) (Z:Nat) (a b c d f ub mb sb rb fb:Nat) (fs:Bool) (fa:Option Addr) (fn fc:Nat):Prop :=
 ∃ root2 ga2 gc2 ns mm,Has W w (A6 (⟨parR,(.slice (some ⟨a,0,none⟩) 2 2),(.slice (some ⟨f,0,none⟩) 3 3),ub,mb,sb,rb,root2,1,ga2,gc2⟩:UP) ns mm (Hp.blk fb (.cells #[.bool fs,.slice fa fn fc] 30 (0,0))::zp_ [(.agg #[.bool fs,.slice fa fn fc],(Z:Int))]::F6 a b c d f []))∧Is 2 ns 201 root2 (mid 200 (C8 (Bl par1) (Z:Int) (-(Z:Int))))
variable {w:World}
theorem same_par {a:Option Addr} {ca qb:Nat} (h:CellsAt w (.slice a par1.length ca) par1) (hq:w.heap[qb]?=some (.cells #[.int .i64 0,.int .i64 0,.int .i64 1,.int .i64 1,.int .i64 0,.int .i64 1] 41 (0,0))) :
  Calls Tryz.prog 20 #[.slice a 2 ca,.slice (some ⟨qb,0,none⟩) 2 2] w fun e w'=>e=.returned (.bool true)∧Fr [] w w':=by
 have:=Same_p (a:=a) (ca:=ca) (b:=some ⟨qb,0,none⟩) (cb:=2) h (C3 (t:=41) (fr:=(0,0)) (cs:=pcs par1) hq rfl) (by decide) (by decide);rw [decide_eq_true rfl] at this;exact this
variable {w1:World}{Z a b c d f ub mb sb rb fb pb fn fc gn gc:Nat}{fs gs:Bool}{fa ga:Option Addr}{ns:List K4}
theorem V6 {root:Int} (h:Has w w1 (A6 (⟨parR,(.slice (some ⟨a,0,none⟩) 2 2),(.slice (some ⟨f,0,none⟩) 3 3),ub,mb,sb,rb,root,0,none,0⟩:UP) ns [] (zp_ [(.agg #[.bool gs,.slice ga gn gc],-(Z:Int))]::Hp.blk pb (.cells #[.int .i64 1,.int .i64 0,.int .i64 1] 41 (0,0))::Hp.blk fb (.cells #[.bool fs,.slice fa fn fc] 30 (0,0))::zp_ [(.agg #[.bool fs,.slice fa fn fc],(Z:Int))]::F6 a b c d f []))) (hl:ns.length≤201) (hi:Is 2 ns 201 root (mid 200 fun _ _=>0)) (hz:(Z:Int)+10<p2 200) :
  Calls Tryz.prog 14 #[.pointer (some ⟨ub,0,none⟩),.slice (some ⟨pb,0,none⟩) 1 1,.agg #[.bool fs,.slice fa fn fc],.agg #[.bool gs,.slice ga gn gc]] w1 fun e w'=>e=.returned (.int .i64 0) ∧
   ∃ root1 ns1,Has w w' (A6 (⟨parR,(.slice (some ⟨a,0,none⟩) 2 2),(.slice (some ⟨f,0,none⟩) 3 3),ub,mb,sb,rb,root1,0,none,0⟩:UP) ns1 [] (zp_ [(.agg #[.bool gs,.slice ga gn gc],-(Z:Int))]::Hp.blk pb (.cells #[.int .i64 1,.int .i64 0,.int .i64 1] 41 (0,0))::Hp.blk fb (.cells #[.bool fs,.slice fa fn fc] 30 (0,0))::zp_ [(.agg #[.bool fs,.slice fa fn fc],(Z:Int))]::F6 a b c d f []))∧ns1.length≤402∧Is 2 ns1 201 root1 (mid 200 (C8 (Bl par0) (Z:Int) (-(Z:Int)))):=by
 have hcs:Uk w (zp_ [(.agg #[.bool gs,.slice ga gn gc],-(Z:Int))]::Hp.blk pb (.cells #[.int .i64 1,.int .i64 0,.int .i64 1] 41 (0,0))::Hp.blk fb (.cells #[.bool fs,.slice fa fn fc] 30 (0,0))::zp_ [(.agg #[.bool fs,.slice fa fn fc],(Z:Int))]::F6 a b c d f []) (.slice (some ⟨pb,0,none⟩) par0.length 1) par0:=fun w1 Qs h1 hm=>C3 (t:=41) (fr:=(0,0)) (cs:=pcs par0) (A5 h1 (hm (Hp.blk pb (.cells #[.int .i64 1,.int .i64 0,.int .i64 1] 41 (0,0))) i_)) rfl;have hsf:bZ_ w (zp_ [(.agg #[.bool gs,.slice ga gn gc],-(Z:Int))]::Hp.blk pb (.cells #[.int .i64 1,.int .i64 0,.int .i64 1] 41 (0,0))::Hp.blk fb (.cells #[.bool fs,.slice fa fn fc] 30 (0,0))::zp_ [(.agg #[.bool fs,.slice fa fn fc],(Z:Int))]::F6 a b c d f []) (.agg #[.bool fs,.slice fa fn fc]) (Z:Int):=fun w1 Qs h1 hm=>zi_ (e:=(.agg #[.bool fs,.slice fa fn fc],(Z:Int))) h1 (hm (zp_ [(.agg #[.bool fs,.slice fa fn fc],(Z:Int))]) i_) i_;have hsg:bZ_ w (zp_ [(.agg #[.bool gs,.slice ga gn gc],-(Z:Int))]::Hp.blk pb (.cells #[.int .i64 1,.int .i64 0,.int .i64 1] 41 (0,0))::Hp.blk fb (.cells #[.bool fs,.slice fa fn fc] 30 (0,0))::zp_ [(.agg #[.bool fs,.slice fa fn fc],(Z:Int))]::F6 a b c d f []) (.agg #[.bool gs,.slice ga gn gc]) (-(Z:Int)):=fun w1 Qs h1 hm=>zi_ (e:=(.agg #[.bool gs,.slice ga gn gc],-(Z:Int))) h1 (hm (zp_ [(.agg #[.bool gs,.slice ga gn gc],-(Z:Int))]) i_) i_;have e202:=Jo;refine (put_u (U:=(⟨parR,(.slice (some ⟨a,0,none⟩) 2 2),(.slice (some ⟨f,0,none⟩) 3 3),ub,mb,sb,rb,root,0,none,0⟩:UP)) (R:=p2 200) h hi hcs (by decide) (show ∀ c∈par0,c.st<2 by decide) (show (2:Int)≤2 by decide) hsf hsg (Cg o_) (Cg o_) rfl (par0_in _ _ o_ hz) (by rw [show par0.length=1 from rfl];omega)).mono ?_;rintro e w' ⟨rfl,root1,ns1,h1,_,h2,h3⟩;rw [putF_zero _ _ (by decide)] at h3;rw [show par0.length=1 from rfl] at h2
 exact⟨rfl,root1,ns1,h1,o_,h3⟩
theorem V3 {root1:Int} {hs:Bool} {ha:Option Addr} {hn hc:Nat} {ns1:List K4} (h:Has w w1 (A6 (⟨parR,(.slice (some ⟨a,0,none⟩) 2 2),(.slice (some ⟨f,0,none⟩) 3 3),ub,mb,sb,rb,root1,0,none,0⟩:UP) ns1 [] (zp_ [(.agg #[.bool hs,.slice ha hn hc],1)]::zp_ [(.agg #[.bool gs,.slice ga gn gc],-(Z:Int))]::Hp.blk pb (.cells #[.int .i64 1,.int .i64 0,.int .i64 1] 41 (0,0))::Hp.blk fb (.cells #[.bool fs,.slice fa fn fc] 30 (0,0))::zp_ [(.agg #[.bool fs,.slice fa fn fc],(Z:Int))]::F6 a b c d f []))) (hl:ns1.length≤402) (hi:Is 2 ns1 201 root1 (mid 200 (C8 (Bl par0) (Z:Int) (-(Z:Int))))) (hz:(Z:Int)+10<p2 200) :
  Calls Tryz.prog 15 #[.pointer (some ⟨ub,0,none⟩),.agg #[.bool hs,.slice ha hn hc]] w1 fun e w'=>e=.returned (.int .i64 0)∧AwSt w w' Z a b c d f ub mb sb rb fb fs fa fn fc:=by
 have hs1:bZ_ w (zp_ [(.agg #[.bool hs,.slice ha hn hc],1)]::zp_ [(.agg #[.bool gs,.slice ga gn gc],-(Z:Int))]::Hp.blk pb (.cells #[.int .i64 1,.int .i64 0,.int .i64 1] 41 (0,0))::Hp.blk fb (.cells #[.bool fs,.slice fa fn fc] 30 (0,0))::zp_ [(.agg #[.bool fs,.slice fa fn fc],(Z:Int))]::F6 a b c d f []) (.agg #[.bool hs,.slice ha hn hc]) ((1:Nat):Int):=fun w1 Qs h1 hm=>zi_ (e:=(.agg #[.bool hs,.slice ha hn hc],1)) h1 (hm (zp_ [(.agg #[.bool hs,.slice ha hn hc],1)]) i_) i_;have hr0:=runL_le parR (C8 (Bl par0) (Z:Int) (-(Z:Int))) (Z:Int) (-(Z:Int)) (n:=1) o_;refine (run_u (U:=⟨parR,(.slice (some ⟨a,0,none⟩) 2 2),(.slice (some ⟨f,0,none⟩) 3 3),ub,mb,sb,rb,root1,0,none,0⟩) (L:=X8 parR (C8 (Bl par0) (Z:Int) (-(Z:Int))) (Z:Int) (-(Z:Int)) 21 1) (n:=1) h Kc (ha:=some ⟨a,0,none⟩) (hc:=2) (na:=some ⟨f,0,none⟩) (nc:=3) rfl rfl (par_src.more fun P hP=>List.mem_cons_of_mem _ (List.mem_cons_of_mem _ (List.mem_cons_of_mem _ (List.mem_cons_of_mem _ (List.mem_cons_of_mem _ hP))))) hi (G5 (.inl rfl) _ o_ hz) o_ hs1 (by rw [Vd];exact G5 (.inr rfl) _ o_ hz)
  (fun k hk hb u hu=>run_need Kc o_ (par_holdM Z) hk hb u hu) (roomC_of o_) (par_kept.grow (List.nil_prefix)) (show 0+1<2 ^ 200 by decide +kernel)).mono ?_
 rintro e w' ⟨rfl,root2,ga2,gc2,ns2,mm2,hr2,_,_,_,hi2⟩;rw [Vd] at hi2;exact⟨rfl,root2,ga2,gc2,ns2,mm2,hr2.ord 8 [0,1,2,3,4],hi2⟩
variable {mm:List ((Int×Int)×Int)}
theorem view_par {root2:Int} {ga2:Option Addr} {gc2:Nat} (h:Has w w1 (A6 (⟨parR,(.slice (some ⟨a,0,none⟩) 2 2),(.slice (some ⟨f,0,none⟩) 3 3),ub,mb,sb,rb,root2,1,ga2,gc2⟩:UP) ns mm (zp_ [(.agg #[.bool gs,.slice ga gn gc],-(Z:Int))]::Hp.blk fb (.cells #[.bool fs,.slice fa fn fc] 30 (0,0))::zp_ [(.agg #[.bool fs,.slice fa fn fc],(Z:Int))]::F6 a b c d f []))) (hi:Is 2 ns 201 root2 (mid 200 (C8 (Bl par1) (Z:Int) (-(Z:Int))))) (hz:(Z:Int)+10<p2 200) (hz1:1≤Z) :
  Calls Tryz.prog 18 #[.pointer (some ⟨ub,0,none⟩),.agg #[.bool fs,.slice fa fn fc],.agg #[.bool gs,.slice ga gn gc],.int .i64 4,.int .i64 2] w1 fun e w'=>∃ v,e=.returned (.tuple #[v,.int .i64 0]) ∧
   Has w w' (Hp.row 41 3 v par1.length (pcs par1)::A6 (⟨parR,(.slice (some ⟨a,0,none⟩) 2 2),(.slice (some ⟨f,0,none⟩) 3 3),ub,mb,sb,rb,root2,1,ga2,gc2⟩:UP) ns mm (zp_ [(.agg #[.bool gs,.slice ga gn gc],-(Z:Int))]::Hp.blk fb (.cells #[.bool fs,.slice fa fn fc] 30 (0,0))::zp_ [(.agg #[.bool fs,.slice fa fn fc],(Z:Int))]::F6 a b c d f [])):=by
 have hsf:bZ_ w (zp_ [(.agg #[.bool gs,.slice ga gn gc],-(Z:Int))]::Hp.blk fb (.cells #[.bool fs,.slice fa fn fc] 30 (0,0))::zp_ [(.agg #[.bool fs,.slice fa fn fc],(Z:Int))]::F6 a b c d f []) (.agg #[.bool fs,.slice fa fn fc]) (Z:Int):=fun w1 Qs h1 hm=>zi_ (e:=(.agg #[.bool fs,.slice fa fn fc],(Z:Int))) h1 (hm (zp_ [(.agg #[.bool fs,.slice fa fn fc],(Z:Int))]) i_) i_;have hsg:bZ_ w (zp_ [(.agg #[.bool gs,.slice ga gn gc],-(Z:Int))]::Hp.blk fb (.cells #[.bool fs,.slice fa fn fc] 30 (0,0))::zp_ [(.agg #[.bool fs,.slice fa fn fc],(Z:Int))]::F6 a b c d f []) (.agg #[.bool gs,.slice ga gn gc]) (-(Z:Int)):=fun w1 Qs h1 hm=>zi_ (e:=(.agg #[.bool gs,.slice ga gn gc],-(Z:Int))) h1 (hm (zp_ [(.agg #[.bool gs,.slice ga gn gc],-(Z:Int))]) i_) i_;have e:=It;exact view_u h hi hsf hsg o_ o_ (L9 (hsf _ _ h fun P hP=>um_ hP) o_) (L9 (hsg _ _ h fun P hP=>um_ hP) o_) o_ o_ (from_vis (by decide) (Tc _ o_ hz)) (by rw [vis_len (q:=par1) (by decide) (Tc _ o_ hz)];decide)
variable {U:UP}{Ps:List Res}
theorem get_par (h:Has w w1 (A6 U ns mm Ps)) (hi:Is U.r.S ns 201 U.root (mid 200 (C8 (Bl par1) (Z:Int) (-(Z:Int))))) (hz:(Z:Int)+10<p2 200) {A B:Nat→Prop} {va vb:Value} (ha:BigZ w1 A va (Z:Int)) (hb:BigZ w1 B vb (-(Z:Int))) :
  Calls Tryz.prog 27 #[.pointer (some ⟨U.ub,0,none⟩),va,vb] w1 fun e w'=>e=.returned (.tuple #[.int .i64 1,.int .i64 0])∧Has w w' (A6 U ns mm Ps):=by
 have e202:=Jo;have:=get_u (R:=p2 200) h hi rfl (x:=(Z:Int)) (y:=-(Z:Int)) (by unfold inV;omega) (by unfold inV;omega) (Cg o_) (Cg o_) ha hb;have e:C8 (Bl par1) (Z:Int) (-(Z:Int)) (Z:Int) (-(Z:Int))=1:=by show Bl par1 ((Z:Int) - Z) (-(Z:Int) - -(Z:Int))=1;rw [M0,if_pos o_]
 rwa [e] at this
theorem bounds_par (h:Has w w1 (A6 U ns mm Ps)) (hi:Is U.r.S ns 201 U.root (mid 200 (C8 (Bl par1) (Z:Int) (-(Z:Int))))) (hz:(Z:Int)+10<p2 200) :
  Calls Tryz.prog 28 #[.pointer (some ⟨U.ub,0,none⟩)] w1 fun e w'=>∃ p0 q0 p1 q1 p2 q2 p3 q3 L,e=.returned (.tuple #[.agg #[p0,q0,p1,q1,p2,q2,p3,q3],.bool true])∧Has w w' (zp_ L::A6 U ns mm Ps)∧(Value.agg #[p0,q0],(Z:Int))∈L∧(Value.agg #[p1,q1],-(Z:Int))∈L∧∃ z2 z3,(Value.agg #[p2,q2],z2)∈L∧(Value.agg #[p3,q3],z3)∈L:=by
 refine (bounds_u h hi (G5 (.inr rfl) _ o_ hz)).mono ?_;rintro e w' (⟨p0,q0,p1,q1,p2,q2,p3,q3,L,z0,z1,z2,z3,rfl,hb,h1,m0,m1,m2,m3⟩|⟨h0,_⟩);·
  obtain⟨rfl,rfl⟩:=par_box hb;exact⟨p0,q0,p1,q1,p2,q2,p3,q3,L,rfl,h1,m0,m1,z2,z3,m2,m3⟩
 ·have:=h0 (Z:Int) (-(Z:Int));have e:C8 (Bl par1) (Z:Int) (-(Z:Int)) (Z:Int) (-(Z:Int))=1:=by
   show Bl par1 ((Z:Int) - Z) (-(Z:Int) - -(Z:Int))=1;rw [M0,if_pos o_]
  rw [e] at this;omega
theorem pop_par (h:Has w w1 (A6 U ns mm Ps)) (hi:Is U.r.S ns 201 U.root (mid 200 (C8 (Bl par1) (Z:Int) (-(Z:Int))))) (hz:(Z:Int)+10<p2 200) :
  Calls Tryz.prog 22 #[.pointer (some ⟨U.ub,0,none⟩)] w1 fun e w'=>∃ a c,e=.returned (.agg #[.bool false,.slice a (zd ((2:Nat):Int)).length c])∧Has w w' (B4 false (zd ((2:Nat):Int)) a c::A6 U ns mm Ps):=by
 have:=pop_u h hi;rw [par_pop _ o_ hz] at this;exact this
theorem awake_calls (w:World):Calls Tryz.prog 11 #[] w fun e w'=>e=.returned (.bool true)∧Fr [] w w':=by
 go_enter Tryz.func11,Tryz.ntmps11;go_wp2_with fail;refine (parity_calls (Has.nil (Fr.refl [] w))).mono ?_;rintro e w1 ⟨a,b,c,d,f,rfl,h1⟩;have hn:Calls Tryz.prog 13 #[.agg #[.int .i64 2,(.slice (some ⟨a,0,none⟩) 2 2),(.slice (some ⟨f,0,none⟩) 3 3)]] w1 _:=new_u (r:=parR) (ha:=some ⟨a,0,none⟩) (na:=some ⟨f,0,none⟩) (hc:=2) (nc:=3) par_src (by decide) (by decide) h1;have HN:=q_ hn;clear hn h1;go_wp2_with fail;refine (HN.o).mono ?_;rintro e w2 (⟨hq,_⟩|⟨_,ub,mb,sb,rb,root,ns,rfl,h2,hl,hi⟩);·rw [Kc] at hq;cases hq
 have H2:=q_ h2;have HIS:=q_ (And.intro hl hi);clear h2 hl hi HN;go_wp2_with fail;refine (Ko (x:=3) o_ o_).mono ?_;rintro e w3 ⟨v3,rfl,hb,hf⟩;have H3:=q_ (H2.o.step hf);have hsh:=RShift3_z (n:=150) hb o_;obtain⟨Z,hZ⟩:∃ Z:Nat,3*2 ^ 150=Z:=⟨_,rfl⟩;have hfar:=far_lt;rw [hZ] at hsh hfar;have HSH:=q_ (hsh:Calls Tryz.prog 34 #[v3,.int .i64 150] w3 (Uh w3 (Z:Int)));have hfi:((Z:Int)+10<p2 200):=by show ((Z:Int)+10<((2 ^ 200:Nat):Int));have:=Int.ofNat_lt.2 hfar;rw [Int.natCast_add] at this;exact this
 have HZ1:=q_ (show 1≤Z by rw [← hZ];decide +kernel);have e202:=Jo;have hzk:Zok (Z:Int):=Cg o_;have hzn:Zok (-(Z:Int)):=Cg o_;have HZ:=q_ (And.intro hfi (And.intro hzk (And.intro hzn (And.intro (rfl:((2 ^ 200:Nat):Int)=p2 200) hfi))));have HIN:=q_ (And.intro (G5 (.inl rfl) (Z:Int) o_ hfi) (G5 (.inr rfl) (Z:Int) o_ hfi));clear hb hf H2 hsh hZ hfar hfi e202 hzk hzn;go_wp2_with fail;refine (HSH.o).mono ?_;rintro e w4 ⟨v4,rfl,hb,hf⟩;obtain⟨fs,fa,fn,fc,rfl⟩:∃ b a n c,v4=.agg #[.bool b,.slice a n c]:=by obtain⟨a,c,hv,_⟩:=hb;exact⟨_,_,_,_,hv⟩
 have h5:=ui_ (hAL (ui_ (zm_ (Ah H3.o) hf hb HZ.o.2.1)) #[.bool fs,.slice fa fn fc] 30);obtain⟨fb,hfb⟩:∃ t,w4.heap.size=t:=⟨_,rfl⟩;obtain⟨w5,hw5⟩:∃ t,w4.alloc (.cells #[.bool fs,.slice fa fn fc] 30 (0,0))=t:=⟨_,rfl⟩;rw [hfb,hw5] at h5;have H5:=q_ (show Has w w5 (A6 (⟨parR,(.slice (some ⟨a,0,none⟩) 2 2),(.slice (some ⟨f,0,none⟩) 3 3),ub,mb,sb,rb,root,0,none,0⟩:UP) ns [] (Hp.blk fb (.cells #[.bool fs,.slice fa fn fc] 30 (0,0))::zp_ [(.agg #[.bool fs,.slice fa fn fc],(Z:Int))]::F6 a b c d f [])) from h5);clear hb hf h5 H3 HSH;go_wp2;clear hfb hw5;(try clear f0 f1 fl Hf);have hf_:w5.heap[fb]?=some (.cells #[.bool fs,.slice fa fn fc] 30 (0,0)):=A5 H5.o (um_ i_);obtain⟨f0,f1,fl⟩:=l2_ hf_;have Hf:=q_ hf_;clear hf_;go_cut [36] (fun s36 wx=>s36=.bool false∧Hid (Unit→AwSt w wx Z a b c d f ub mb sb rb fb fs fa fn fc));case first =>
  refine wK_ [[2,5]] [[([0,1,3,4,2,5],[3]),([6],[]),([7,8,9,10],[]),([11,12,13],[])],[([0,1,3,4,5],[3]),([2,6],[]),([7,8,9,10],[]),([11,12,13],[])]] k_ k_ ?_;simp only [Ml];refine⟨?_,?_⟩;·
   (simp only [A2,pick,aq_,bq_,cq_,dq_,eq_]);have hA:=ui_ (hAL (H5.o.step (w':=w5.drew) (Fr.t)) #[.int .i64 1,.int .i64 0,.int .i64 1] 41);obtain⟨wA,hwA⟩:∃ t,w5.drew.alloc (.cells #[.int .i64 1,.int .i64 0,.int .i64 1] 41 (0,0))=t:=⟨_,rfl⟩;obtain⟨pb,hpb⟩:∃ t,w5.heap.size=t:=⟨_,rfl⟩;rw [hwA,show w5.drew.heap.size=pb from hpb] at hA;have HA:=q_ hA;have hng:=Qe (zi_ (L:=[(.agg #[.bool fs,.slice fa fn fc],(Z:Int))]) (e:=(.agg #[.bool fs,.slice fa fn fc],(Z:Int))) hA (um_ i_) i_) HZ.o.2.1;have HNG:=q_ hng;clear hA hng;go_wp2_with fail;refine (HNG.o).mono ?_;clear hwA hpb;rintro e wB ⟨vg,rfl,hb,hf⟩;obtain⟨gs,ga,gn,gc,rfl⟩:∃ b a n c,vg=.agg #[.bool b,.slice a n c]:=by obtain⟨a,c,hv,_⟩:=hb;exact⟨_,_,_,_,hv⟩
   have hB:=ui_ (zm_ (Ah HA.o) hf hb HZ.o.2.2.1);have HB:=q_ (show Has w wB (A6 (⟨parR,(.slice (some ⟨a,0,none⟩) 2 2),(.slice (some ⟨f,0,none⟩) 3 3),ub,mb,sb,rb,root,0,none,0⟩:UP) ns [] (zp_ [(.agg #[.bool gs,.slice ga gn gc],-(Z:Int))]::Hp.blk pb (.cells #[.int .i64 1,.int .i64 0,.int .i64 1] 41 (0,0))::Hp.blk fb (.cells #[.bool fs,.slice fa fn fc] 30 (0,0))::zp_ [(.agg #[.bool fs,.slice fa fn fc],(Z:Int))]::F6 a b c d f [])) from hB);clear hB hb hf HA HNG H5;(try clear f0 f1 fl Hf);have hf_:wB.heap[fb]?=some (.cells #[.bool fs,.slice fa fn fc] 30 (0,0)):=A5 HB.o (um_ i_);obtain⟨f0,f1,fl⟩:=l2_ hf_;have Hf:=q_ hf_;clear hf_;go_wp2;refine mD_ ⟨⟨ab_ (T:=30) rfl rfl rfl Tryz.underlying30 rfl k_ Hf.o rfl,trivial⟩,?_⟩;have HPT:=q_ (V6 HB.o HIS.o.1 HIS.o.2 HZ.o.1);go_wp2_with fail;refine (HPT.o).mono ?_;(try clear hwB hpb);rintro e wp ⟨rfl,root1,ns1,hp1,hpl,hpi⟩;have HP1:=q_ hp1;have HPI:=q_ (And.intro hpl hpi);clear hp1 hpl hpi HPT HB;go_wp2;refine mD_ ⟨trivial,?_⟩;go_wp2_with fail;refine (Ko (x:=1) o_ o_).mono ?_;rintro e wq ⟨v1,rfl,hb,hf⟩;obtain⟨hs,ha,hn,hc,rfl⟩:∃ b a n c,v1=.agg #[.bool b,.slice a n c]:=(by obtain⟨a,c,hv,_⟩:=hb;exact⟨_,_,_,_,hv⟩);have hz:=ui_ (zm_ (Ah (HP1.o.step (Fr.t))) hf hb (Bb o_ o_));have HRN:=q_ (V3 hz HPI.o.1 HPI.o.2 HZ.o.1);clear hz hb hf;go_wp2;refine mD_ ⟨trivial,?_⟩;go_wp2_with fail;refine (HRN.o).mono ?_;rintro e wr ⟨rfl,hw⟩;have HW:=q_ (fun (_:Unit)=>hw);clear hw HRN HP1 HPI;go_wp2;refine mD_ ⟨trivial,sT_ rfl ?_⟩;go_wp2_with fail;go_meet;exact⟨rfl,HW⟩
  ·(simp only [A2,pick,aq_,bq_,cq_,dq_,eq_]);have hng:=Qe (zi_ (L:=[(.agg #[.bool fs,.slice fa fn fc],(Z:Int))]) (e:=(.agg #[.bool fs,.slice fa fn fc],(Z:Int))) (H5.o.step (w':=w5.drew) (Fr.t)) (um_ i_) i_) HZ.o.2.1;have HNG:=q_ hng;clear hng;go_wp2_with fail;refine (HNG.o).mono ?_;rintro e wA ⟨vg,rfl,hb,hf⟩;obtain⟨gs,ga,gn,gc,rfl⟩:∃ b a n c,vg=.agg #[.bool b,.slice a n c]:=by obtain⟨a,c,hv,_⟩:=hb;exact⟨_,_,_,_,hv⟩
   have hA:=zm_ (Ah (H5.o.step (w':=w5.drew) (Fr.t))) hf hb HZ.o.2.2.1;have HA:=q_ hA;have hB:=hAL hA #[.int .i64 1,.int .i64 0,.int .i64 1] 41;obtain⟨wB,hwB⟩:∃ t,wA.alloc (.cells #[.int .i64 1,.int .i64 0,.int .i64 1] 41 (0,0))=t:=⟨_,rfl⟩;obtain⟨pb,hpb⟩:∃ t,wA.heap.size=t:=⟨_,rfl⟩;rw [hwB,hpb] at hB;have HB:=q_ (show Has w wB (A6 (⟨parR,(.slice (some ⟨a,0,none⟩) 2 2),(.slice (some ⟨f,0,none⟩) 3 3),ub,mb,sb,rb,root,0,none,0⟩:UP) ns [] (zp_ [(.agg #[.bool gs,.slice ga gn gc],-(Z:Int))]::Hp.blk pb (.cells #[.int .i64 1,.int .i64 0,.int .i64 1] 41 (0,0))::Hp.blk fb (.cells #[.bool fs,.slice fa fn fc] 30 (0,0))::zp_ [(.agg #[.bool fs,.slice fa fn fc],(Z:Int))]::F6 a b c d f [])) from hB.ord 7 [2,3,4,5,6,1,0]);clear hA hB hb hf HNG H5;(try clear f0 f1 fl Hf);have hf_:wA.heap[fb]?=some (.cells #[.bool fs,.slice fa fn fc] 30 (0,0)):=A5 HA.o ((List.mem_cons_of_mem _ (um_ i_)));obtain⟨f0,f1,fl⟩:=l2_ hf_;have Hf:=q_ hf_;clear hf_;go_wp2;refine mD_ ⟨⟨ab_ (T:=30) rfl rfl rfl Tryz.underlying30 rfl k_ Hf.o rfl,trivial⟩,?_⟩;clear HA f0 f1 fl Hf;have HPT:=q_ (V6 HB.o HIS.o.1 HIS.o.2 HZ.o.1);go_wp2_with fail;refine (HPT.o).mono ?_;(try clear hwB hpb);rintro e wp ⟨rfl,root1,ns1,hp1,hpl,hpi⟩;have HP1:=q_ hp1;have HPI:=q_ (And.intro hpl hpi);clear hp1 hpl hpi HPT HB;go_wp2;refine mD_ ⟨trivial,?_⟩;go_wp2_with fail;refine (Ko (x:=1) o_ o_).mono ?_;rintro e wq ⟨v1,rfl,hb,hf⟩;obtain⟨hs,ha,hn,hc,rfl⟩:∃ b a n c,v1=.agg #[.bool b,.slice a n c]:=(by obtain⟨a,c,hv,_⟩:=hb;exact⟨_,_,_,_,hv⟩);have hz:=ui_ (zm_ (Ah (HP1.o.step (Fr.t))) hf hb (Bb o_ o_));have HRN:=q_ (V3 hz HPI.o.1 HPI.o.2 HZ.o.1);clear hz hb hf;go_wp2;refine mD_ ⟨trivial,?_⟩;go_wp2_with fail;refine (HRN.o).mono ?_
   rintro e wr ⟨rfl,hw⟩;have HW:=q_ (fun (_:Unit)=>hw);clear hw HRN HP1 HPI;go_wp2;refine mD_ ⟨trivial,sT_ rfl ?_⟩;go_wp2_with fail;go_meet;exact⟨rfl,HW⟩
 case rest =>
  obtain⟨rfl,HAW⟩:=hcut;obtain⟨root2,ga2,gc2,ns2,mm2,h6,hi6⟩:=HAW.o ();have H6:=q_ h6;have HI6:=q_ (fun (_:Unit)=>hi6);clear h6 hi6 HAW H5 f0 f1 fl Hf HIS HIN;(try clear f0 f1 fl Hf);have hf_:wc.heap[fb]?=some (.cells #[.bool fs,.slice fa fn fc] 30 (0,0)):=A5 H6.o (um_ i_);obtain⟨f0,f1,fl⟩:=l2_ hf_;have Hf:=q_ hf_;clear hf_;go_wp2;refine wS [([0,1,2,3],[1]),([4,5,6,7,8,9],[])] ?_;(simp only [A2,pick,aq_,bq_,cq_,dq_,eq_]);have HNG:=q_ (Qe (zi_ (L:=[(.agg #[.bool fs,.slice fa fn fc],(Z:Int))]) (e:=(.agg #[.bool fs,.slice fa fn fc],(Z:Int))) (H6.o.step (w':=wc.drew) (Fr.t)) (um_ i_) i_) HZ.o.2.1);go_wp2_with fail;refine (HNG.o).mono ?_;rintro e w7 ⟨vg,rfl,hb,hf⟩;obtain⟨gs,ga,gn,gc,rfl⟩:∃ b a n c,vg=.agg #[.bool b,.slice a n c]:=by obtain⟨a,c,hv,_⟩:=hb;exact⟨_,_,_,_,hv⟩
  have h7:=ui_ (zm_ (Ah (H6.o.step (w':=wc.drew) (Fr.t))) hf hb HZ.o.2.2.1);have H7:=q_ (show Has w w7 (A6 (⟨parR,(.slice (some ⟨a,0,none⟩) 2 2),(.slice (some ⟨f,0,none⟩) 3 3),ub,mb,sb,rb,root2,1,ga2,gc2⟩:UP) ns2 mm2 (zp_ [(.agg #[.bool gs,.slice ga gn gc],-(Z:Int))]::Hp.blk fb (.cells #[.bool fs,.slice fa fn fc] 30 (0,0))::zp_ [(.agg #[.bool fs,.slice fa fn fc],(Z:Int))]::F6 a b c d f [])) from h7);clear h7 hb hf HNG H6;(try clear f0 f1 fl Hf);have hf_:w7.heap[fb]?=some (.cells #[.bool fs,.slice fa fn fc] 30 (0,0)):=A5 H7.o (um_ i_);obtain⟨f0,f1,fl⟩:=l2_ hf_;have Hf:=q_ hf_;clear hf_;have HVW:=q_ (view_par H7.o (HI6.o ()) HZ.o.1 HZ1.o);go_wp2;refine mD_ ⟨⟨ab_ (T:=30) rfl rfl rfl Tryz.underlying30 rfl k_ Hf.o rfl,trivial⟩,?_⟩;go_wp2_with fail;refine (HVW.o).mono ?_;rintro e w8 ⟨v8,rfl,h8⟩;have hrd:CellsAt w8 v8 par1:=Reads.of_owns h8.row;obtain⟨_,pa,pc,rfl,_⟩:=_root_.id hrd;have H8:=q_ (show Has w w8 (A6 (⟨parR,(.slice (some ⟨a,0,none⟩) 2 2),(.slice (some ⟨f,0,none⟩) 3 3),ub,mb,sb,rb,root2,1,ga2,gc2⟩:UP) ns2 mm2 (Hp.row 41 3 (.slice pa par1.length pc) par1.length (pcs par1)::Hp.blk fb (.cells #[.bool fs,.slice fa fn fc] 30 (0,0))::zp_ [(.agg #[.bool fs,.slice fa fn fc],(Z:Int))]::F6 a b c d f [])) from h8.ord 7 [1,2,3,4,5,0]);clear h8 hrd HVW H7 f0 f1 fl Hf;(try clear f0 f1 fl Hf);have hf_:w8.heap[fb]?=some (.cells #[.bool fs,.slice fa fn fc] 30 (0,0)):=A5 H8.o (um_ i_);obtain⟨f0,f1,fl⟩:=l2_ hf_;have Hf:=q_ hf_;clear hf_;go_wp2;refine mD_ ⟨trivial,sT_ rfl ?_⟩;go_wp2;refine wS [([0,1,2,3],[1]),([4,5,6,7,8,9],[])] ?_;(simp only [A2,pick,aq_,bq_,cq_,dq_,eq_])
  have HNG:=q_ (Qe (zi_ (L:=[(.agg #[.bool fs,.slice fa fn fc],(Z:Int))]) (e:=(.agg #[.bool fs,.slice fa fn fc],(Z:Int))) (H8.o.step (w':=w8.drew) (Fr.t)) (um_ i_) i_) HZ.o.2.1);go_wp2_with fail;refine (HNG.o).mono ?_;rintro e w9 ⟨vh,rfl,hb,hf⟩;have h9:=(H8.o.step (w':=w8.drew) (Fr.t)).step hf;have H9:=q_ h9;have HGT:=q_ (get_par h9 (HI6.o ()) HZ.o.1 (zi_ (L:=[(.agg #[.bool fs,.slice fa fn fc],(Z:Int))]) (e:=(.agg #[.bool fs,.slice fa fn fc],(Z:Int))) h9 (um_ i_) i_) hb);clear h9 hb hf HNG H8;(try clear f0 f1 fl Hf);have hf_:w9.heap[fb]?=some (.cells #[.bool fs,.slice fa fn fc] 30 (0,0)):=A5 H9.o (um_ i_);obtain⟨f0,f1,fl⟩:=l2_ hf_;have Hf:=q_ hf_;clear hf_;go_wp2;refine mD_ ⟨⟨ab_ (T:=30) rfl rfl rfl Tryz.underlying30 rfl k_ Hf.o rfl,trivial⟩,?_⟩;go_wp2_with fail;refine (HGT.o).mono ?_;rintro e w10 ⟨rfl,h10⟩;have H10:=q_ h10;clear h10 HGT H9 f0 f1 fl Hf;go_wp2;refine mD_ ⟨trivial,sT_ rfl ?_⟩;have HBD:=q_ (bounds_par (H10.o.step (w':=w10) (Fr.t)) (HI6.o ()) HZ.o.1);go_wp2_with fail;refine (HBD.o).mono ?_;rintro e w11 ⟨p0,q0,p1,q1,p2,q2,p3,q3,L,rfl,h11,m0,m1,z2,z3,m2,m3⟩;have hone:∀ {v:Value×Int},v∈L→∃ b a n c,v.1=.agg #[.bool b,.slice a n c]:=fun hv=>by obtain⟨a,c,he,_⟩:=zi_ h11 i_ hv;exact⟨_,_,_,_,he⟩
  obtain⟨b0,a0,n0,c0,hv0⟩:∃ b a n c,Value.agg #[p0,q0]=.agg #[.bool b,.slice a n c]:=hone m0;obtain⟨rfl,rfl⟩:p0=.bool b0∧q0=.slice a0 n0 c0:=by injection hv0 with h;injection h with h;injection h with h1 h;injection h with h2 _;exact⟨h1,h2⟩
  clear hv0;obtain⟨b1,a1,n1,c1,hv1⟩:∃ b a n c,Value.agg #[p1,q1]=.agg #[.bool b,.slice a n c]:=hone m1;obtain⟨rfl,rfl⟩:p1=.bool b1∧q1=.slice a1 n1 c1:=by injection hv1 with h;injection h with h;injection h with h1 h;injection h with h2 _;exact⟨h1,h2⟩
  clear hv1;obtain⟨b2,a2,n2,c2,hv2⟩:∃ b a n c,Value.agg #[p2,q2]=.agg #[.bool b,.slice a n c]:=hone m2;obtain⟨rfl,rfl⟩:p2=.bool b2∧q2=.slice a2 n2 c2:=by injection hv2 with h;injection h with h;injection h with h1 h;injection h with h2 _;exact⟨h1,h2⟩
  clear hv2;obtain⟨b3,a3,n3,c3,hv3⟩:∃ b a n c,Value.agg #[p3,q3]=.agg #[.bool b,.slice a n c]:=hone m3;obtain⟨rfl,rfl⟩:p3=.bool b3∧q3=.slice a3 n3 c3:=by injection hv3 with h;injection h with h;injection h with h1 h;injection h with h2 _;exact⟨h1,h2⟩
  clear hv3;have HMM:=q_ (And.intro m0 m1);have h12:=ui_ (hAL (ui_ h11) #[.bool b0,.slice a0 n0 c0,.bool b1,.slice a1 n1 c1,.bool b2,.slice a2 n2 c2,.bool b3,.slice a3 n3 c3] 66);obtain⟨lb,hlb⟩:∃ t,w11.heap.size=t:=⟨_,rfl⟩;obtain⟨w12,hw12⟩:∃ t,w11.alloc (.cells #[.bool b0,.slice a0 n0 c0,.bool b1,.slice a1 n1 c1,.bool b2,.slice a2 n2 c2,.bool b3,.slice a3 n3 c3] 66 (0,0))=t:=⟨_,rfl⟩;rw [hlb,hw12] at h12;have H12:=q_ (show Has w w12 (A6 (⟨parR,(.slice (some ⟨a,0,none⟩) 2 2),(.slice (some ⟨f,0,none⟩) 3 3),ub,mb,sb,rb,root2,1,ga2,gc2⟩:UP) ns2 mm2 (Hp.blk lb (.cells #[.bool b0,.slice a0 n0 c0,.bool b1,.slice a1 n1 c1,.bool b2,.slice a2 n2 c2,.bool b3,.slice a3 n3 c3] 66 (0,0))::zp_ L::Hp.row 41 3 (.slice pa par1.length pc) par1.length (pcs par1)::Hp.blk fb (.cells #[.bool fs,.slice fa fn fc] 30 (0,0))::zp_ [(.agg #[.bool fs,.slice fa fn fc],(Z:Int))]::F6 a b c d f [])) from h12);clear h11 h12 hone m0 m1 m2 m3 HBD H10;go_wp2;clear hlb hw12;refine wS [([0,1,2,3,4,5,6,7],[]),([8,9,10,11,12,13,14,15,16,17,18,19,20,21,22,23,24],[]),([25,26,27,28,29,30],[28]),([31],[]),([32,33,34,35],[]),([36],[]),([37],[]),([38,39,40,41],[]),([42],[]),([43],[]),([44,45,46,47],[]),([48,49,50,51],[])] ?_;(simp only [A2,pick,aq_,bq_,cq_,dq_,eq_]);have hq:=ui_ (hAL (H12.o.step (w':=w12.drew) (Fr.t)) #[.int .i64 0,.int .i64 0,.int .i64 1,.int .i64 1,.int .i64 0,.int .i64 1] 41);obtain⟨qb,hqb⟩:∃ t,w12.heap.size=t:=⟨_,rfl⟩;obtain⟨w13,hw13⟩:∃ t,w12.drew.alloc (.cells #[.int .i64 0,.int .i64 0,.int .i64 1,.int .i64 1,.int .i64 0,.int .i64 1] 41 (0,0))=t:=⟨_,rfl⟩;rw [hw13,show w12.drew.heap.size=qb from hqb] at hq;have HSM:=q_ (same_par (a:=pa) (ca:=pc) (qb:=qb) (Reads.of_owns (hq.ord 9 [8]).row) (A5 hq (um_ i_)));have HQ:=q_ hq;clear hq H12;go_wp2_with fail;refine (HSM.o).mono ?_;clear hw13 hqb;rintro e w14 ⟨rfl,hf⟩
  have H14:=q_ (show Has w w14 (A6 (⟨parR,(.slice (some ⟨a,0,none⟩) 2 2),(.slice (some ⟨f,0,none⟩) 3 3),ub,mb,sb,rb,root2,1,ga2,gc2⟩:UP) ns2 mm2 (Hp.blk lb (.cells #[.bool b0,.slice a0 n0 c0,.bool b1,.slice a1 n1 c1,.bool b2,.slice a2 n2 c2,.bool b3,.slice a3 n3 c3] 66 (0,0))::zp_ L::Hp.row 41 3 (.slice pa par1.length pc) par1.length (pcs par1)::Hp.blk fb (.cells #[.bool fs,.slice fa fn fc] 30 (0,0))::zp_ [(.agg #[.bool fs,.slice fa fn fc],(Z:Int))]::F6 a b c d f [])) from (HQ.o.step hf).ord 6 [0,1,2,3,4]);clear hf HSM HQ;(try clear f0 f1 fl Hf);have hf_:w14.heap[fb]?=some (.cells #[.bool fs,.slice fa fn fc] 30 (0,0)):=A5 H14.o (um_ i_);obtain⟨f0,f1,fl⟩:=l2_ hf_;have Hf:=q_ hf_;clear hf_;(try clear l0 l1 l2 l3 ll Hl);have hl_:=A5 H14.o (b:=lb) (o:=.cells #[.bool b0,.slice a0 n0 c0,.bool b1,.slice a1 n1 c1,.bool b2,.slice a2 n2 c2,.bool b3,.slice a3 n3 c3] 66 (0,0)) (um_ i_);obtain⟨l0,l1,l2,l3,ll⟩:=l4_ hl_;have Hl:=q_ hl_;clear hl_;have HB0:=q_ (S4 (zi_ H14.o (um_ i_) HMM.o.1) (zi_ (L:=[(.agg #[.bool fs,.slice fa fn fc],(Z:Int))]) (e:=(.agg #[.bool fs,.slice fa fn fc],(Z:Int))) H14.o (um_ i_) i_) HZ.o.2.1);go_wp2;refine mD_ ⟨trivial,?_⟩;go_wp2_with fail;refine (HB0.o).mono ?_;rintro e w15 ⟨rfl,hf⟩;have H15:=q_ (H14.o.step hf);clear hf HB0 H14;(try clear f0 f1 fl Hf);have hf_:w15.heap[fb]?=some (.cells #[.bool fs,.slice fa fn fc] 30 (0,0)):=A5 H15.o (um_ i_);obtain⟨f0,f1,fl⟩:=l2_ hf_;have Hf:=q_ hf_;clear hf_;(try clear l0 l1 l2 l3 ll Hl);have hl_:=A5 H15.o (b:=lb) (o:=.cells #[.bool b0,.slice a0 n0 c0,.bool b1,.slice a1 n1 c1,.bool b2,.slice a2 n2 c2,.bool b3,.slice a3 n3 c3] 66 (0,0)) (um_ i_);obtain⟨l0,l1⟩:=e2_ hl_
  have l2:=hEC hl_ 2;have l3:=hEC hl_ 3;have ll:=lBk hl_;have Hl:=q_ hl_;clear hl_;have HNG:=q_ (Qe (zi_ (L:=[(.agg #[.bool fs,.slice fa fn fc],(Z:Int))]) (e:=(.agg #[.bool fs,.slice fa fn fc],(Z:Int))) H15.o (um_ i_) i_) HZ.o.2.1);go_wp2;refine mD_ ⟨trivial,?_⟩;go_wp2_with fail;refine (HNG.o).mono ?_;rintro e w16 ⟨vi,rfl,hb,hf⟩;have H16:=q_ (H15.o.step hf);have HB1:=q_ (S4 (zi_ H16.o (um_ i_) HMM.o.2) hb HZ.o.2.2.1);clear hb hf HNG H15;(try clear f0 f1 fl Hf);have hf_:w16.heap[fb]?=some (.cells #[.bool fs,.slice fa fn fc] 30 (0,0)):=A5 H16.o (um_ i_);obtain⟨f0,f1,fl⟩:=l2_ hf_;have Hf:=q_ hf_;clear hf_;(try clear l0 l1 l2 l3 ll Hl);have hl_:=A5 H16.o (b:=lb) (o:=.cells #[.bool b0,.slice a0 n0 c0,.bool b1,.slice a1 n1 c1,.bool b2,.slice a2 n2 c2,.bool b3,.slice a3 n3 c3] 66 (0,0)) (um_ i_);obtain⟨l0,l1,l2,l3,ll⟩:=l4_ hl_;have Hl:=q_ hl_;clear hl_;go_wp2;refine mD_ ⟨⟨ao_ (T:=30) rfl rfl rfl Tryz.underlying30 rfl k_ Hl.o rfl rfl rfl,trivial⟩,?_⟩;go_wp2_with fail;refine (HB1.o).mono ?_;rintro e w17 ⟨rfl,hf⟩;have H17:=q_ (H16.o.step hf);have HPO:=q_ (pop_par H17.o (HI6.o ()) HZ.o.1);clear hf HB1 H16 f0 f1 fl Hf l0 l1 l2 l3 ll Hl;go_wp2;refine mD_ ⟨trivial,?_⟩;go_wp2_with fail;refine (HPO.o).mono ?_;rintro e w18 ⟨ka,kc,rfl,h18⟩;have H18:=q_ h18;clear h18 HPO H17;go_wp2;refine mD_ ⟨trivial,?_⟩;go_wp2_with fail;refine (Ko (x:=2) o_ o_).mono ?_;rintro e w19 ⟨v2,rfl,hb,hf⟩;have H19:=q_ (H18.o.step hf);have HB2:=q_ (S4 (O8 (z:=((2:Nat):Int)) (ng:=false) H19.o (decide_eq_false o_) List.mem_cons_self) hb (Bb o_ o_));clear hb hf H18;go_wp2;refine mD_ ⟨trivial,?_⟩;go_wp2_with fail
  refine (HB2.o).mono ?_;rintro e w20 ⟨rfl,hf⟩;have H20:=q_ ((H19.o.step hf).drop);have HGE:=q_ (gen_u H20.o);clear hf HB2 H19;go_wp2;refine mD_ ⟨trivial,?_⟩;go_wp2_with fail;refine (HGE.o).mono ?_;rintro e w21 ⟨rfl,h21⟩;have H21:=q_ h21;clear h21 HGE H20;go_wp2;refine mD_ ⟨trivial,?_⟩;go_wp2_with fail;refine (Ko (x:=1) o_ o_).mono ?_;rintro e w22 ⟨v1,rfl,hb,hf⟩;have H22:=q_ (H21.o.step hf);have HB3:=q_ (S4 (O8 (z:=((1:Nat):Int)) (a:=ga2) (c:=gc2) (ng:=false) H22.o (decide_eq_false o_) (by simp [A6,A9])) hb (Bb o_ o_));clear hb hf H21;go_wp2;refine mD_ ⟨trivial,?_⟩;go_wp2_with fail;refine (HB3.o).mono ?_;rintro e w23 ⟨rfl,hf⟩;have H23:=q_ (H22.o.step hf);clear hf HB3 H22;go_wp2;refine mD_ ⟨trivial,?_⟩;go_wp2_with fail;refine (Ko (x:=-1) o_ o_).mono ?_;rintro e w24 ⟨vm,rfl,hb,hf⟩;have h24:=H23.o.step hf;have HRN:=q_ (run_neg h24 hb o_ (Bb o_ o_));clear hb hf H23 h24;go_wp2;refine mD_ ⟨trivial,?_⟩;go_wp2_with fail;refine (HRN.o).mono ?_;rintro e w25 ⟨rfl,h25⟩;have H25:=q_ h25.fr;clear h25 HRN;go_wp2;refine mD_ ⟨trivial,sT_ rfl ?_⟩;go_wp2;go_ret;exact⟨rfl,H25.o⟩
end Go.Proofs.YtebolidfbflkmaaGreat
namespace Go.Proofs.Lw
open Go Go.ChangeShapes Go.WideShapes Go.ChangeAt Go.RowKit Hp
variable {P:Program}{W W':World}
theorem args_stay {H:Type} {enc:TypeId×Value→H} (hl:laidOutB P=true) (hb:Below W.heap.size W W') :
  ∀ {ts:List TypeId} {vs:List Value} {ds:List (DataW H)} {ps:List MemPlace},ts.all (fun t=>P.readableRec t && decide (t<P.types.size))=true→DataW.TrodAll enc P W 0 (fun _=>true) true ts vs ds ps →
   (∀ x∈ps,x.block<W.heap.size)→DataW.TrodAll enc P W' 0 (fun b=>decide (b<W.heap.size)) true ts vs ds ps:=by
 intro ts
 induction ts with
 | nil=>intro vs ds ps _ h _;obtain⟨rfl,rfl,rfl⟩:=trodAll_nil h;exact trodAll_mk0
 | cons t ts ih =>intro vs ds ps hok h hlt;obtain⟨v,vs1,d,ds1,p,q,rfl,rfl,rfl,h1,h2⟩:=trodAll_cons h;simp only [List.all_cons,Bool.and_eq_true,decide_eq_true_eq] at hok;exact trodAll_cons_mk (Below.trod hl hok.1.1 hok.1.2 h1 hb fun x hx=>hlt x (List.mem_append_left _ hx)) (ih (by simpa only [List.all_eq_true,Bool.and_eq_true,decide_eq_true_eq] using hok.2) h2 fun x hx=>hlt x (List.mem_append_right _ hx))
theorem law_post {H:Type} {enc:TypeId×Value→H} (hl:laidOutB P=true) {f:Func} {s:ChangeSpec} {ts:List TypeId} {tb:TypeId} (hf:f.params.toList=ts) (hr:f.resultTypes=#[tb])
  (hb:P.underlying tb=some .bool) (hv:s.vars=[]) (hok:ts.all (fun t=>P.readableRec t && decide (t<P.types.size))=true)
  (hfn:∀ ds:List (DataW H),ds.length=ts.length→s.fn H ds={ results:=[.lit (.bool true)],args:=ds }) {args:Array Value} {ds gs:List (DataW H)} {before:List MemPlace}
  (hW:DataW.Whole enc P f.params.toList s.vars false W args.toList ds gs before) (hB:Fr [] W W'):s.post enc P f false true false false W args (.bool true) W':=by
 have hW':=hW;obtain⟨p,q,hA,hV,rfl,hfz,hnd⟩:=hW;rw [hf] at hA;rw [hv] at hV;obtain⟨rfl,rfl⟩:=trodVars_none hV;have hlen:∀ {ts:List TypeId} {vs:List Value} {ds:List (DataW H)} {ps:List MemPlace},DataW.TrodAll enc P W 0 (fun _=>true) true ts vs ds ps→ds.length=ts.length:=by
  intro ts
  induction ts with
  | nil=>intro vs ds ps h;obtain⟨rfl,rfl,rfl⟩:=trodAll_nil h;rfl
  | cons t ts ih=>intro vs ds ps h;obtain⟨v,vs1,d,ds1,p,q,rfl,rfl,rfl,h1,h2⟩:=trodAll_cons h;simp [ih h2]
 have e:=hfn (ds++[]) (by simpa using hlen hA);refine⟨ds,[],p++[],[],p,[],hW',?_,?_,?_,hB.below.frame _ |> World.keptBut_mono (w:=W) (w':=W') (fun x hx=>hx),fun h=>by cases h⟩;·
  rw [e,hr];exact trodAll_mk1 (shut_bool hb true)
 ·rw [e,hf,List.append_nil];exact args_stay hl hB.below hok hA fun x hx=>by simpa using hW'.lt x (by simpa using hx)
 ·rw [e,hv];exact rfl
theorem open_rows {H:Type} {enc:TypeId×Value→H} {t e:TypeId} {sz fuel n c:Nat} {a:Option Addr} {x:DataW H×List MemPlace} (ht:P.underlying t=some (.slice e)) (hsz:P.cellsOf e=sz) (hpos:0<sz)
  (h:DataW.trod enc P W 0 (fun _=>true) true fuel t [.slice a n c]=some x) :
  n≤c∧c≤maxLen∧∃ xs:List (List Value),xs.length=n∧(∀ cs'∈xs,cs'.length=sz∧∃ fuel y,DataW.trod enc P W 0 (fun _=>true) true fuel e cs'=some y) ∧
   (a=none→n=0∧c=0)∧(0<n→∃ g off,a=some ⟨g,off,none⟩∧g<W.heap.size∧∀ j u,xs.flatten[j]?=some u→W.cell? ⟨g,off+j,none⟩=some u):=by
 rcases Go.Deep.open_slice ht h with ⟨h0,_⟩|⟨ad,len,cap,m,k,D,Pl,hcs,_,hlc,hcm,hm,_,hx⟩
 ·simp only [List.cons.injEq,Value.slice.injEq,and_true] at h0;obtain⟨rfl,rfl,rfl⟩:=h0;exact⟨Nat.le_refl _,Nat.zero_le _,[],rfl,i_,i_,o_⟩
 ·simp only [List.cons.injEq,Value.slice.injEq,and_true] at hcs;obtain⟨rfl,rfl,rfl⟩:=hcs;simp only [if_true] at hm;subst hm;rw [hsz] at hx;obtain⟨C,hC⟩:=Go.Deep.choose_lt (α:=List Value) (n:=m) (p:=fun i cs'=>W.cells? 0 (ad.add (i*sz)) sz=some cs'∧DataW.trod enc P W 0 (fun _=>true) true k e cs'=some (D i,Pl i)) hx;have hlen:∀ i,i<n→(C i).length=sz:=fun i hi=>(World.cells?_some (hC i o_).1).2.1;refine⟨hlc,hcm,(List.range n).map C,i_,?_,i_,?_⟩;·
   intro cs' hm';obtain⟨i,hi,rfl⟩:=List.mem_map.1 hm';have hi':=List.mem_range.1 hi;exact⟨hlen i hi',k,_,(hC i o_).2⟩
  ·intro hn;have h0:=(hC 0 o_).1;have hblock:=World.cells?_block h0 hpos;obtain⟨g,off,spot⟩:=ad;have hsp:spot=none:=by
    have hl0:=(World.cells?_some h0).2.1;have hc0:=(World.cells?_some h0).2.2 0 o_;rw [List.getElem?_eq_getElem o_] at hc0;simpa [Addr.add] using World.cell?_spot hc0
   subst hsp;refine⟨g,off,rfl,by simpa [Addr.add] using hblock,?_⟩;have key:∀ k,k≤n→∀ j u,((List.range k).map C).flatten[j]?=some u→W.cell? ⟨g,off+j,none⟩=some u:=by
    intro k
    induction k with
    | zero=>intro _ j u hj;simp at hj
    | succ k ih =>
     intro hk j u hj;have hfl:∀ q,q≤n→((List.range q).map C).flatten.length=q*sz:=by
      intro q
      induction q with
      | zero=>intro _;simp
      | succ q iq=>intro hq;rw [List.range_succ,List.map_append,List.flatten_append,List.length_append,iq o_];simp [hlen q o_,Nat.succ_mul]
     rw [List.range_succ,List.map_append,List.flatten_append] at hj;rcases Nat.lt_or_ge j (k*sz) with h1|h1
     ·rw [List.getElem?_append_left (by rw [hfl k o_];exact h1)] at hj;exact ih o_ j u hj
     ·rw [List.getElem?_append_right (by rw [hfl k o_];exact h1),hfl k o_] at hj;simp only [List.map_cons,List.map_nil,List.flatten_cons,List.flatten_nil,List.append_nil] at hj;have hjl:=(List.getElem?_eq_some_iff.1 hj).1;rw [hlen k o_] at hjl;have:=(World.cells?_some (hC k o_).1).2.2 (j - k*sz) o_;rw [hj,add_plain,add_plain] at this;rw [show off+j=off+k*sz+(j - k*sz) by omega];exact this
   exact key n (Nat.le_refl _)
end Go.Proofs.Lw
namespace Go.Proofs.YtebolidfbflkmaaGreat
open Go Go.ChangeShapes Go.WideShapes Go.ChangeAt Go.RowKit Hp Lw Bn
theorem flat_u32s (L:List Nat):(L.map (fun (k:Nat)=>[Value.int .u32 k])).flatten=Aw L:=by
 induction L with
 | nil=>rfl
 | cons x L ih=>rw [List.map_cons,List.flatten_cons,ih];rfl
theorem open_big {H:Type} {enc:TypeId×Value→H} {W:World} {base:Nat} {v:Value} {d:DataW H} {ps:List MemPlace} (hval:Value.okWide Tryz.prog W .any base 30 v)
  (h:DataW.Trod enc Tryz.prog W 0 (fun _=>true) true 30 v d ps) :
  ∃ (neg:Bool) (a:Option Addr) (c:Nat) (L:List Nat),v=.agg #[.bool neg,.slice a L.length c]∧Reads W (.slice a L.length c) L.length 1 (Aw L)∧Dig 4294967296 L∧L.length≤c∧(a=none→c=0):=by
 obtain⟨cs,rfl,hsz⟩:=okWide_struct Tryz.underlying30 hval;have hs2:cs.size=2:=hsz.trans k_;obtain⟨fuel,hf⟩:=h;obtain⟨xs,n,rfl,_,_,hn,hf⟩:=DataW.trod_struct Tryz.underlying30 hf;obtain⟨c0,c1,rfl⟩:∃ c0 c1,cs=#[c0,c1]:=⟨cs[0],cs[1],by apply Array.ext<;>simp [hs2];intro i hi;match i,hi with|0,_=>intro _;rfl|1,_=>intro _;rfl⟩;have hc1:Tryz.prog.cellsOf 4=1:=by kernel_rfl
 have hc2:Tryz.prog.cellsOf 28=1:=by kernel_rfl
 have hx2:xs.length=2:=hn;have h0:=hf 0 _ rfl;have h1:=hf 1 _ rfl;rw [List.getElem?_eq_getElem o_] at h0 h1;change DataW.trod enc Tryz.prog W 0 (fun _=>true) true n 4 (([c0,c1].drop 0).take (Tryz.prog.cellsOf 4))=some _ at h0;change DataW.trod enc Tryz.prog W 0 (fun _=>true) true n 28 (([c0,c1].drop 1).take (Tryz.prog.cellsOf 28))=some _ at h1;rw [hc1] at h0;rw [hc2] at h1;simp only [List.drop_zero,List.drop_succ_cons,List.take_succ_cons,List.take_zero] at h0 h1;obtain⟨s,hs,_⟩:=DataW.trod_bool Tryz.underlying4 h0;simp only [List.cons.injEq,and_true] at hs;subst hs;have hform:∃ a n c,c1=.slice a n c:=by
  rcases DataW.trod_slice Tryz.underlying28 h1 with ⟨h,_⟩|⟨a,len,cap,_,_,_,_,h,_⟩
  ·simp only [List.cons.injEq,and_true] at h;exact⟨_,_,_,h⟩
  ·simp only [List.cons.injEq,and_true] at h;exact⟨_,_,_,h⟩
 obtain⟨a,len,c,rfl⟩:=hform;obtain⟨hlc,_,xs,hxl,hxs,hnone,hcell⟩:=open_rows Tryz.underlying28 (sz:=1) k_ o_ h1;obtain⟨L,hL,hLx⟩:∃ L:List Nat,xs=L.map (fun (k:Nat)=>[Value.int .u32 k])∧∀ x∈L,x<4294967296:=by
  have key:∀ ys:List (List Value),(∀ y∈ys,y∈xs)→∃ L:List Nat,ys=L.map (fun (k:Nat)=>[Value.int .u32 k])∧∀ x∈L,x<4294967296:=by
   intro ys
   induction ys with
   | nil=>intro _;exact⟨[],rfl,i_⟩
   | cons y ys ih =>
    intro hy;obtain⟨L,rfl,hL⟩:=ih fun z hz=>hy z (by simp [hz]);obtain⟨_,fuel,q,hq⟩:=hxs y (hy y i_);obtain⟨z,hz,_,hwf⟩:=DataW.trod_int Tryz.underlying75 hq;have hb:0≤z∧z≤4294967295:=by simpa [Lit.wf,IntKind.min,IntKind.max,IntKind.signed,IntKind.bits] using hwf
    refine⟨z.toNat::L,?_,?_⟩;·
     rw [hz];show [Value.int .u32 z]::_=[Value.int .u32 ((z.toNat:Nat):Int)]::_;rw [Int.toNat_of_nonneg hb.1]
    ·intro x hx;rw [List.mem_cons] at hx;rcases hx with rfl|hx
     ·omega
     ·exact hL x hx
  exact key xs fun _ h=>h
 subst hL;obtain rfl:L.length=len:=by simpa using hxl
 have hfl:=flat_u32s L;rw [hfl] at hcell;exact⟨s,a,c,L,rfl,⟨by simp [Aw],a,c,rfl,hcell⟩,hLx,hlc,fun h=>(hnone h).2⟩
end Go.Proofs.YtebolidfbflkmaaGreat
