/- Own texts of this claim, part 18: no condition. -/
import Derived.Test.YtebolidfbflkmaaGreatZE13
set_option linter.unusedVariables false
set_option linter.unusedSimpArgs false
set_option maxHeartbeats 16000000
set_option maxRecDepth 100000
namespace Go.Proofs.YtebolidfbflkmaaGreat
open Go Go.RowKit Rg Hp Bn
variable {w:World}{da db:List Nat}{va vb:Value}
theorem less_calls (ha:Reads w va da.length 1 (Bi da)) (hb:Reads w vb db.length 1 (Bi db)) (hDa:Dig 256 da) (hDb:Dig 256 db) (ca:Canon da) (cb:Canon db) (hla:da.length≤1000000) (hlb:db.length≤1000000) :
  Calls Tryz.prog 60 #[va,vb] w fun e w'=>e=.returned (.bool (decide (val 256 da<val 256 db)))∧Drew w w':=by
 obtain⟨_,a,ac,rfl,haa⟩:=ha;obtain⟨_,b,bc,rfl,hbb⟩:=hb;have Ha:=q_ haa;have Hb:=q_ hbb;clear haa hbb;obtain⟨r,hr0⟩:∃ r,decide (val 256 da<val 256 db)=r:=⟨_,rfl⟩;rw [hr0];have Hr0:=q_ hr0;clear hr0;by_cases hne:da.length=db.length
 rotate_left
 ·have hd:((da.length:Int) != (db.length:Int))=true:=by simp;omega
  have hc:r=decide (da.length<db.length):=by
   rw [← Hr0.o];by_cases hlt:da.length<db.length;·rw [decide_eq_true hlt,decide_eq_true (Im o_ hDa hDb cb hlt)]
   ·have:=Im o_ hDb hDa ca o_;rw [decide_eq_false hlt,decide_eq_false o_]
  obtain⟨q,hq⟩:∃ q,decide (da.length<db.length)=q:=⟨_,rfl⟩;rw [hq] at hc;have hq2:decide ((da.length:Int)<db.length)=q:=by rw [← hq,decide_eq_decide];omega
  subst hc;clear hDa hDb ca cb hne;go_enter Tryz.func60,Tryz.ntmps60;go_wp2;go_ret;exact⟨rfl,Drew.refl _⟩
 ·have hd:((da.length:Int) != (db.length:Int))=false:=by simp;omega
  have HDa:=q_ hDa;have HDb:=q_ hDb;have Hne:=q_ hne;clear hDa hDb ca cb hne;go_enter Tryz.func60,Tryz.ntmps60;go_wp2;go_loopw [5] (fun x wr=>∃ (k:Nat) (z:Int),x=.int .i64 z∧z=(k:Int) - 1∧k≤da.length∧da.drop k=db.drop k∧Drew w wr) (fun x _=>(intOf x+1).toNat);case atStart=>exact⟨da.length,_,rfl,rfl,Nat.le_refl _,by rw [List.drop_length,Hne.o,List.drop_length],Drew.refl _⟩
  case round =>
   obtain⟨k,z,rfl,hz,hk,hdr,m,rfl⟩:=hrel;have Hdr:=q_ hdr;clear hdr;cases k with
   | zero =>have hz':z=-1:=o_;subst hz';clear hz;have heq:=Hdr.o;rw [List.drop_zero,List.drop_zero] at heq;have hc:r=false:=(by rw [← Hr0.o,heq];simp);have Hc:=q_ hc;clear hc heq;go_wp2;go_ret;exact⟨by rw [Hc.o];rfl,m,rfl⟩
   | succ k =>
    obtain rfl:z=(k:Int):=o_;clear hz;have hkb:k<db.length:=(by have:=Hne.o;omega);obtain⟨g1,off1,rfl,hg1,hc1⟩:=Ha.o o_;obtain⟨g2,off2,rfl,hg2,hc2⟩:=Hb.o o_;have e1:=hc1 k _ (Pn o_);have e2:=hc2 k _ (Pn hkb);have hxl:=HDa.o.getD o_ k;have hyl:=HDb.o.getD o_ k;have htop:=fun h=>Ov (B:=256) o_ HDa.o HDb.o (i:=k) o_ Hne.o Hdr.o h;have htop2:=fun h=>Ov (B:=256) o_ HDb.o HDa.o (i:=k) o_ Hne.o.symm Hdr.o.symm h;have hde:=drop_eq_succ (i:=k) o_ Hne.o Hdr.o;have Htop:=q_ htop;have Htop2:=q_ htop2;have Hde:=q_ hde;clear hc1 hc2 htop htop2 hde hxl hyl;generalize da.getD k 0=x at *
    generalize db.getD k 0=y at *
    by_cases hxy:x=y;·
     subst hxy;have hn:((x:Int) != x)=false:=by simp
     go_wp2;(refine wT ?_);go_wp2;refine sT_ rfl ?_;go_wp2;go_roundw;case rel=>exact⟨k,_,rfl,rfl,o_,Hde.o (by first|rfl|trivial),m+1,rfl⟩
     case measure=>first|(simp [intOf];done)|(simp [intOf];omega)
    ·have hn:((x:Int) != y)=true:=(by rw [bne_iff_ne];omega);have hc:r=decide ((x:Int)<y):=by
      rw [← Hr0.o];by_cases h:x<y;·rw [decide_eq_true (Htop.o h),decide_eq_true o_]
      ·have:=Htop2.o o_;rw [decide_eq_false o_,decide_eq_false o_]
     obtain⟨q,hq⟩:∃ q,decide ((x:Int)<y)=q:=⟨_,rfl⟩;rw [hq] at hc;have hq2:decide (x<y)=q:=(by rw [← hq,decide_eq_decide];omega);have Hc:=q_ hc;clear hc hxy;go_wp2;(refine wT ?_);go_wp2;refine sT_ rfl ?_;go_wp2;(refine wT ?_);go_wp2;refine sT_ rfl ?_;go_wp2;go_ret;exact⟨by rw [Hc.o];rfl,m+1+1,rfl⟩
theorem rminus_calls (ha:Reads w va da.length 1 (Bi da)) (hb:Reads w vb db.length 1 (Bi db)) (hDa:Dig 256 da) (hDb:Dig 256 db) (hle:db.length≤da.length) (hvv:val 256 db≤val 256 da) (hla:da.length≤100000) :
  Calls Tryz.prog 61 #[va,vb] w (Mq w (w.heap.size≤·) (dg 256 (val 256 da - val 256 db))):=by
 have hdb:=fun w1 (hf:Fr [] w w1) i=>Fo (hb.fr hf) o_ i;have Hdb:=q_ hdb;obtain⟨_,a,ac,rfl,haa⟩:=ha;obtain⟨_,b,bc,rfl,hbb⟩:=hb;have Ha:=q_ haa;have HDa:=q_ hDa;have HDb:=q_ hDb;have Hvv:=q_ hvv;obtain⟨n,hn⟩:∃ n,da.length=n:=⟨_,rfl⟩;have Hn:=q_ hn;rw [hn] at Ha hle hla ⊢;have Hle:=q_ hle;clear hdb haa hbb hDa hDb hvv hn hle;go_enter Tryz.func61,Tryz.ntmps61;go_wp2_with fail;go_loopw [5,6,7] (fun x5 x6 x7 wl=>∃ (i c:Nat) (L:List Nat),x6=.int .i64 c∧x7=.int .i64 i∧i≤n∧c≤1∧Dig 256 L∧L.length=i∧val 256 L+val 256 (db.take i)=val 256 (da.take i)+256 ^ i*c∧wl.ownsRow w.heap.size 3 1 x5 L.length (Bi L)∧Fr [] w wl) (fun _ _ x7 _=>n - (intOf x7).toNat);case atStart=>exact⟨0,0,[],rfl,rfl,o_,o_,Dig.nil,rfl,by simp [val],World.ownsRow_nil _ _ _ _,Fr.refl _ _⟩
 case round =>
  obtain⟨i,c,L,rfl,rfl,hi,hc,hD,hL,hv,ho,hf⟩:=hrel;obtain⟨oa,oc,rfl,hoa,hon⟩:=oFM ho;have HDL:=q_ hD;have HL:=q_ hL;have Hv:=q_ hv;have Ho:=q_ ho;have Hf:=q_ hf;clear hoa hon hD hL hv ho;by_cases hin:i<n;·
   obtain⟨g1,o1,rfl,hg1,hc1⟩:=Ha.o o_;have e1:=(hf.cell (p:=⟨g1,o1+i,none⟩) hg1 i_).trans (hc1 i _ (Pn (by have:=Hn.o;omega)));have hx:da.getD i 0<256:=HDa.o.getD o_ i;have hy:db.getD i 0<256:=HDb.o.getD o_ i;have Hta:=q_ (And.intro (Am 256 da i) (Am 256 db i));have Hdb2:=q_ (fun w1 hf=>Hdb.o w1 hf i);clear hc1 hf;generalize da.getD i 0=x at *
   generalize db.getD i 0=y at *
   obtain⟨d,c2,hd1,hd2,hd3,hd4⟩:∃ d c2:Nat,d<256∧c2≤1∧d+y+c=x+256*c2∧(c2=1↔x<y+c):=by
    by_cases h:x<y+c;·exact⟨x+256 - y - c,1,o_,o_,o_,o_⟩
    ·exact⟨x - y - c,0,o_,o_,o_,o_⟩
   have Hst:=q_ (diff_step Hv.o hd3);have hneg:decide ((x:Int) - y - c<0)=decide (c2=1):=(by rw [decide_eq_decide];omega);have Hd:=q_ (And.intro hd3 hd4);clear hd4;go_wp2_with fail;refine wS [([0,1,2,3,4,5,6],[3]),([7,8,9,10],[])] ?_;(simp only [A2,pick,aq_,bq_,cq_,dq_,eq_]);go_wp2_with fail;refine (Hdb2.o _ (by have:=Hf.o;exact Fr.t)).mono ?_;rintro e w2 ⟨rfl,rfl⟩;go_wp2;refine mD_ ⟨⟨ac_ (T:=3) rfl rfl rfl Tryz.underlying3 rfl e1 rfl,trivial⟩,?_⟩;go_wp2;refine mD_ ⟨trivial,sT_ rfl ?_⟩;rcases Nat.lt_or_ge c2 1 with h1|h1
   ·obtain rfl:c2=0:=o_;have Ed:((x:Int) - y - c)=(d:Nat):=o_;have hng:decide ((x:Int) - y - c<0)=false:=(by rw [decide_eq_false_iff_not];omega);clear hneg hd3;have hsz9:=Hf.o.size;have Hf0:=q_ (show Fr [] w _ from Hf.o.drewN 1);have Ho1:=q_ (oOB (w':=wr.drewN 1) Ho.o (fun g _=>rfl));go_wp2_with (at_builtin;refine Bz (n:=L.length) (base:=w.heap.size) (xs:=(Bi L)) (y:=(d:Int)) rfl rfl rfl ?e1 rfl ?e2 ?e3 ?e4 ?_);case e1=>exact oOB Ho1.o fun y hy=>hAE _ _ _ (oLT Ho1.o hy)
    case e2=>first|(first|(rw [hAC,if_pos rfl];done)|exact (Array.getElem?_eq_some_iff.1 ((hAC _ _ _).trans (if_pos rfl))).2|(simp only [hDR,hDN];rw [hAC,if_pos rfl];done))|(repeat first|rw [if_pos o_]|rw [if_neg o_]|rw [hDR]|rw [hDN]|rw [hAz]|rw [hSz]|rw [hAC]|rw [hSC]|rw [oMS]|rw [uPC]|rw [lSZ]|rw [lSS]|rfl)
    case e3=>(have:=HL.o;omega)
    case e4=>have:=Hf0.o.size;(first|omega|(simp only [hDR,hDN,hAz];omega)|(simp;omega))
    intro g2 cap w9 hown1 hW1 hF1 hloc1 hg1;rw [D5] at hown1;have Hown1:=q_ hown1;have Hf9:=q_ (Bs Hf0.o Ho1.o hF1);clear hown1 hW1 hF1 hloc1;go_wp2;go_roundw;case rel=>exact⟨i+1,0,L++[d],by go_num,by go_num,o_,o_,HDL.o.append (fun z hz=>by rw [List.mem_singleton] at hz;omega),by rw [List.length_append,HL.o];rfl,by rw [Ck,HL.o,Hta.o.1,Hta.o.2,Nat.pow_succ];exact Hst.o,by rw [List.length_append];exact Hown1.o,Hf9.o⟩
    case measure=>simp [intOf];omega
   ·obtain rfl:c2=1:=o_;have Ed:((x:Int) - y - c+256)=(d:Nat):=o_;have hng:decide ((x:Int) - y - c<0)=true:=(by rw [decide_eq_true_eq];omega);clear hneg hd3;have hsz9:=Hf.o.size;have Hf0:=q_ (show Fr [] w _ from Hf.o.drewN 1);have Ho1:=q_ (oOB (w':=wr.drewN 1) Ho.o (fun g _=>rfl));go_wp2_with (at_builtin;refine Bz (n:=L.length) (base:=w.heap.size) (xs:=(Bi L)) (y:=(d:Int)) rfl rfl rfl ?e1 rfl ?e2 ?e3 ?e4 ?_);case e1=>exact oOB Ho1.o fun y hy=>hAE _ _ _ (oLT Ho1.o hy)
    case e2=>first|(first|(rw [hAC,if_pos rfl];done)|exact (Array.getElem?_eq_some_iff.1 ((hAC _ _ _).trans (if_pos rfl))).2|(simp only [hDR,hDN];rw [hAC,if_pos rfl];done))|(repeat first|rw [if_pos o_]|rw [if_neg o_]|rw [hDR]|rw [hDN]|rw [hAz]|rw [hSz]|rw [hAC]|rw [hSC]|rw [oMS]|rw [uPC]|rw [lSZ]|rw [lSS]|rfl)
    case e3=>(have:=HL.o;omega)
    case e4=>have:=Hf0.o.size;(first|omega|(simp only [hDR,hDN,hAz];omega)|(simp;omega))
    intro g2 cap w9 hown1 hW1 hF1 hloc1 hg1;rw [D5] at hown1;have Hown1:=q_ hown1;have Hf9:=q_ (Bs Hf0.o Ho1.o hF1);clear hown1 hW1 hF1 hloc1;go_wp2;go_roundw;case rel=>exact⟨i+1,1,L++[d],by go_num,by go_num,o_,o_,HDL.o.append (fun z hz=>by rw [List.mem_singleton] at hz;omega),by rw [List.length_append,HL.o];rfl,by rw [Ck,HL.o,Hta.o.1,Hta.o.2,Nat.pow_succ];exact Hst.o,by rw [List.length_append];exact Hown1.o,Hf9.o⟩
    case measure=>simp [intOf];omega
  ·obtain rfl:i=n:=o_;have hfin:val 256 L=val 256 da - val 256 db:=by
    have hv:=Hv.o;have hll:=Ce HDL.o;have h1:=Hle.o;have h2:=Hvv.o;rw [List.take_of_length_le o_,List.take_of_length_le (by have:=Hn.o;omega)] at hv;rw [HL.o] at hll;rcases Nat.lt_or_ge c 1 with h|h
    ·obtain rfl:c=0:=o_;omega
    ·obtain rfl:c=1:=o_;omega
   have ht:=L5 (Reads.of_owns Ho.o) HDL.o (by have:=HL.o;omega) (F7 Ho.o) (A:=fun g=>w.heap.size≤g) (fun g hg=>B7 Ho.o hg);rw [hfin] at ht;have Ht:=q_ ht;clear ht hfin hf;go_wp2_with fail;refine Ht.o.mono ?_;rintro e w4 ⟨ra,rc,hlo,rfl,hr,hf⟩;have Hf5:=q_ (Hf.o.trans0 hf);have Hr:=q_ hr;have Hlo:=q_ hlo;clear hf hr hlo;go_wp2;go_ret;exact⟨ra,rc,Hlo.o,rfl,Hr.o,Hf5.o⟩
end Go.Proofs.YtebolidfbflkmaaGreat
namespace Go.Proofs.Hp
open Go Go.RowKit
theorem iv_length (l:List Int):(iv l).length=l.length:=by simp [iv]
end Go.Proofs.Hp
namespace Go.Proofs.Pt
theorem sortP_snoc (l:List PC) (c:PC):Sz (l++[c])=Qk c (Sz l):=by simp [Sz]
end Go.Proofs.Pt
namespace Go.Proofs.Pt
open Qs Ev
variable {p:List PC}
theorem right_make (h1:p.length≤5000) (h2:∀ c∈p,Ig c=true) (h3:Al p=true):Cn p=true:=by unfold Cn;simp only [Bool.and_eq_true,decide_eq_true_eq,List.all_eq_true];exact⟨h1,h2,h3⟩
theorem fld_range {s:Int} (hs:0<s) (hc:∀ c∈p,0≤c.st∧c.st<s) (x y:Int):0≤Bl p x y∧Bl p x y<s:=by
 by_cases h:Bl p x y=0;·rw [h];omega
 ·obtain⟨c,hcm,_,_,he⟩:=fld_some h;rw [he];exact hc c hcm
def Wi (B:Int) (p:List PC):Prop:=∀ c∈p,-B≤c.x∧c.x<B∧-B≤c.y∧c.y<B
theorem nearL_length (b:Bx):(M2 b).length=(b.h+4)*(b.w+4):=by simp [M2]
theorem nearL_get {b:Bx} {k:Nat} (hk:k<(b.h+4)*(b.w+4)):(M2 b)[k]?=some (Rz b k):=by unfold M2;rw [List.getElem?_map,List.getElem?_range hk];rfl
theorem nextL_snoc (r:Rule) (F:Fld) (l:List (Int×Int)) (q:Int×Int):Ns r F (l++[q])=Ns r F l++if gen r F q.1 q.2=0 then [] else [⟨q.1,q.2,gen r F q.1 q.2⟩]:=by unfold Ns;rw [List.filterMap_append];congr 1;unfold cellAt;by_cases h:gen r F q.1 q.2=0<;>simp [h]
theorem nextL_len (r:Rule) (F:Fld) (l:List (Int×Int)):(Ns r F l).length≤l.length:=List.length_filterMap_le _ _
structure StepOk (r:Rule) (B:Int) (p q:List PC):Prop where
 right:Cn q=true
 wi:Wi (B+2) q
 st:∀ c∈q,c.st<r.S
 fld:Bl q=gen r (Bl p)
theorem step_ok {r:Rule} (h:C1 r=true) {B:Int} (hB0:0≤B) (hB:B≤30) (hst:∀ c∈p,0≤c.st∧c.st<r.S) {b:Bx} (hb:Ln b (Bl p)) (hx:-B≤b.x∧b.x+b.w≤B∧-B≤b.y∧b.y+b.h≤B) :
  StepOk r B p (Ns r (Bl p) (M2 b))∧(Ns r (Bl p) (M2 b)).length≤5000:=by
 obtain⟨hr,_⟩:=Ch h;have hS:=Oh hr;have hwi:Wi (B+2) (Ns r (Bl p) (M2 b)):=fun c hc=>by have:=mem_near.1 (R1.1 hc).1;simp only at this;omega
 have hgs:∀ c∈Ns r (Bl p) (M2 b),0<c.st∧c.st<r.S:=fun c hc=>by obtain⟨_,h2,h3⟩:=R1.1 hc;have:=gen_ok hr (F:=Bl p) (x:=c.x) (y:=c.y) fun i j _ _ _ _=>fld_range o_ hst _ _;omega
 have hlen:(Ns r (Bl p) (M2 b)).length≤5000:=by refine Nat.le_trans (nextL_len _ _ _) ?_;rw [nearL_length];have:(b.h+4)*(b.w+4)≤64*64:=Nat.mul_le_mul o_ o_;omega
 refine⟨⟨right_make hlen (fun c hc=>?_) (nextL_strict b),hwi,fun c hc=>(hgs c hc).2,nextL_fld h hb⟩,hlen⟩;have h1:=hwi c hc;have h2:=hgs c hc;unfold Ig Ir;simp only [Bool.and_eq_true,decide_eq_true_eq];omega
end Go.Proofs.Pt
namespace Go.Proofs.Hp
open Go Go.RowKit Ev
theorem pts_length (l:List (Int×Int)):(pts l).length=l.length*2:=by
 unfold pts
 induction l with
 | nil=>rfl
 | cons p l ih=>simp only [List.flatMap_cons,List.length_append,List.length_cons,List.length_nil,ih];omega
end Go.Proofs.Hp
namespace Go.Proofs.YtebolidfbflkmaaGreat
open Go Go.RowKit Rg Mp Hp Qs Ev Pt
def few12 (r:Rule):Bool:=decide (r.hood.length≤40) && decide (r.nodes.length≤400) && r.nodes.all fun x=>decide (x.2.length≤20)
variable {w:World}{r:Rule}{ha na:Option Addr}{hc nc:Nat}
theorem LFew12_calls (hru:RuleAt w (.slice ha r.hood.length hc) (.slice na r.nodes.length nc) r) :
  Calls Tryz.prog 31 #[.agg #[.int .i64 r.S,.slice ha r.hood.length hc,.slice na r.nodes.length nc]] w fun e w'=>e=.returned (.bool (few12 r))∧Fr [] w w':=by
 have HN:=q_ hru.2;clear hru;by_cases h1:r.hood.length≤40;·
  by_cases h2:r.nodes.length≤400;·
   go_enter Tryz.func31,Tryz.ntmps31;go_wp2;obtain⟨w1,hw1⟩:∃ w1,w.alloc (Obj.cells #[Value.int .i64 r.S,.slice ha r.hood.length hc,.slice na r.nodes.length nc] 25 (0,0))=w1:=⟨_,rfl⟩;have hb1:w1.heap[w.heap.size]?=some (.cells #[Value.int .i64 r.S,.slice ha r.hood.length hc,.slice na r.nodes.length nc] 25 (0,0)):=by rw [← hw1];(repeat first|rw [if_pos o_]|rw [if_neg o_]|rw [hDR]|rw [hDN]|rw [hAz]|rw [hSz]|rw [hAC]|rw [hSC]|rw [oMS]|rw [uPC]|rw [lSZ]|rw [lSS]|rfl)
   have Hf:=q_ (show Fr [] w w1 by rw [← hw1];exact Fr.t);rw [hw1];have Ht:=q_ hb1;obtain⟨tb,htb⟩:∃ t,w.heap.size=t:=⟨_,rfl⟩;rw [htb] at Ht ⊢;clear hw1 hb1 htb;have hfk:=Fr.refl [] w1;(try clear t0 t1 t2 tl);have ht_:=tk hfk Ht;clear Ht;obtain⟨t0,t1,t2,tl⟩:=l3_ ht_;have Ht:=q_ ht_;clear ht_;clear hfk;go_loopw [17] (fun x wr=>∃ i:Nat,x=.int .i64 i∧i≤r.nodes.length∧Hid (∀ j x,j<i→r.nodes[j]?=some x→x.2.length≤20)∧wr=w1) (fun z _=>r.nodes.length - (intOf z).toNat);case atStart=>exact⟨0,rfl,o_,q_ o_,rfl⟩
   case round =>
    obtain⟨i,rfl,hi,HE,rfl⟩:=hrel;by_cases hlt:i<r.nodes.length;·
     obtain⟨x,hx⟩:∃ x,r.nodes[i]?=some x:=⟨_,List.getElem?_eq_getElem hlt⟩;obtain⟨g,off,ra,rc,rfl,hg,e0,e1,hi9⟩:=(HN.o.fr Hf.o).node hx;have HX:=q_ hx;clear hx hi9 e0;by_cases hle:x.2.length≤20
     ·have HE':=q_ (show ∀ j x,j<i+1→r.nodes[j]?=some x→x.2.length≤20 from fun j y hj hy=>by
       by_cases e:j=i
       ·subst e;rw [HX.o] at hy;obtain rfl:=Option.some.inj hy;exact hle
       ·exact HE.o j y o_ hy)
      generalize x.2.length=xl at *
      go_wp2;go_roundw;case rel=>exact⟨i+1,by go_num,o_,HE',trivial⟩
      case measure=>simp [intOf];omega
     ·have HNE:=q_ (show few12 r=false by
       unfold few12
       have:r.nodes.all (fun x=>decide (x.2.length≤20))=false:=Km HX.o (by simpa using hle)
       rw [this];simp)
      generalize x.2.length=xl at *
      go_wp2;go_ret;exact⟨Ag HNE.o.symm,by have:=Hf.o;exact Fr.t⟩
    ·have HEQ:=q_ (show few12 r=true by
      unfold few12
      rw [decide_eq_true h1,decide_eq_true h2,all_true (fun j x hx hj=>decide_eq_true (HE.o j x o_ hx))];rfl)
     obtain rfl:i=r.nodes.length:=o_;go_wp2;go_ret;exact⟨Ag HEQ.o.symm,by have:=Hf.o;exact Fr.t⟩
  ·have HNE:=q_ (show few12 r=false by unfold few12;rw [decide_eq_false h2];simp);go_enter Tryz.func31,Tryz.ntmps31;go_wp2;go_ret;exact⟨Ag HNE.o.symm,Fr.t⟩
 ·have HNE:=q_ (show few12 r=false by unfold few12;rw [decide_eq_false h1];simp);go_enter Tryz.func31,Tryz.ntmps31;go_wp2;go_ret;exact⟨Ag HNE.o.symm,Fr.t⟩
def smallP (r:Rule) (p:List PC):Bool:=few12 r && decide (p.length≤60)
theorem LSmall_calls (hru:RuleAt w (.slice ha r.hood.length hc) (.slice na r.nodes.length nc) r) {p:List PC} {a:Option Addr} {c:Nat} :
  Calls Tryz.prog 8 #[.agg #[.int .i64 r.S,.slice ha r.hood.length hc,.slice na r.nodes.length nc],.slice a p.length c] w fun e w'=>e=.returned (.bool (smallP r p))∧Fr [] w w':=by
 have HF:=q_ (fun w' (hf:Fr [] w w')=>LFew12_calls (hru.fr hf));obtain⟨B,hB⟩:∃ B,few12 r=B:=⟨_,rfl⟩;rw [hB] at HF;have hP:smallP r p=(B && decide (p.length≤60)):=by unfold smallP;rw [hB]
 rw [hP];obtain⟨l,hl⟩:∃ l,p.length=l:=⟨_,rfl⟩;rw [hl];clear hru hB hP hl;have e1:decide ((l:Int)≤60)=decide (l≤60):=decide_eq_decide.2 o_;have E1:=q_ e1;clear e1;cases B<;>(
  go_enter Tryz.func8,Tryz.ntmps8
  go_wp2_with fail
  refine (HF.o _ (Fr.t)).mono ?_
  rintro e w1 ⟨rfl,hf1⟩
  have Hf:=q_ (Fr.trans0 (Fr.t:Fr [] w _) hf1)
  clear hf1
  go_wp2
  go_ret)
 ·exact⟨rfl,by have:=Hf.o;exact Fr.t⟩
 ·exact⟨congrArg (fun b:Bool=>Ending.returned (Value.bool b)) E1.o,by have:=Hf.o;exact Fr.t⟩
end Go.Proofs.YtebolidfbflkmaaGreat
namespace Go.Proofs.YtebolidfbflkmaaGreat
open Go Go.RowKit Rg Hp Bn
variable {w:World}{neg:Bool}{ds:List Nat}{a:Option Addr}{c:Nat}
theorem big_nil (hv:Reads w (.slice a ds.length c) ds.length 1 (Bi ds)) (hD:Dig 256 ds) (hl:ds.length≤100000) (hc:ds.length≤c) (hz:val 256 ds=0) :
  Calls Tryz.prog 58 #[.bool neg,.slice a ds.length c] w fun e w'=>e=.returned (.tuple #[.agg #[.bool false,.slice none 0 0],.int .i64 0])∧Fr [] w w':=by
 have htr:=fun w1 (hf:Fr [] w w1)=>L5 (hv.fr hf) hD o_ hc (A:=fun _=>True) (fun _ _=>trivial);rw [hz,Bd] at htr;have Htr:=q_ htr;generalize ds.length=m at *
 clear htr hv hD hc hl hz;go_enter Tryz.func58,Tryz.ntmps58;go_wp2_with fail;refine (Htr.o _ (Fr.t)).mono ?_;rintro e w1 ⟨ta,tc,hlo,rfl,hr,hf⟩;rw [List.length_nil];have hc_:=(hf.block (w.heap.size) f_' i_).trans (show _=some (.cells #[.bool false,.slice none 0 0] 30 (0,0)) from hpT);have c0:=hEC hc_ 0;have c0z:=hEF hc_ 0;have c1:=hEC hc_ 1;have c1z:=hEF hc_ 1;have cl:=lBk hc_;have Hc:=q_ hc_;clear hc_;have Hf:=q_ (Fr.trans0 (Fr.t:Fr [] w _) hf);clear hf hlo hr Htr c0 c1 c0z c1z;go_wp2_with fail;go_loopw [7] (fun x7 wl=>x7=.int .i64 0∧Fr [] w1 wl∧wl.heap[w1.heap.size]?=some (.cells #[.bool false,.slice none 0 0] 30 (0,0))) (fun x7 _=>0);case atStart=>exact⟨rfl,Fr.t,by (repeat first|rw [if_pos o_]|rw [if_neg o_]|rw [hDR]|rw [hDN]|rw [hAz]|rw [hSz]|rw [hAC]|rw [hSC]|rw [oMS]|rw [uPC]|rw [lSZ]|rw [lSS]|rfl)⟩
 case round =>
  obtain⟨rfl,hf,hb⟩:=hrel;obtain⟨b0,b1⟩:=e2_ hb;have b0z:=hEF hb 0;have b1z:=hEF hb 1;have bl:=lBk hb;(try clear c0 c1 c0z c1z cl);have hc_:=tk hf Hc;clear Hc;have c0:=hEC hc_ 0;have c0z:=hEF hc_ 0;have c1:=hEC hc_ 1;have c1z:=hEF hc_ 1;have cl:=lBk hc_;have Hc:=q_ hc_;clear hc_;have Hf9:=q_ (Hf.o.trans0 hf);have h1:=Hc.o;clear hf hb;cases neg<;>(
   go_wp2
   (try simp only [Exit.inBlock,Exit.then])
   refine bodyPost_ret (bRS rfl (b:=w.heap.size) (x:=.bool false) (y:=.slice none 0 0) rfl ?_ rfl) rfl ⟨rfl,?_⟩
   ·have h:=Hc.o
    (repeat first|rw [if_pos o_]|rw [if_neg o_]|rw [hDR]|rw [hDN]|rw [hAz]|rw [hSz]|rw [hAC]|rw [hSC]|rw [oMS]|rw [uPC]|rw [lSZ]|rw [lSS]|rfl)
    rw [h]
    exact hpT
   ·exact ((Hf9.o.setCell (.inr t_) _).setCell (.inr t_) _).setCell (.inr t_) _)
def BigPostN (w:World) (A:Nat→Prop) (r:Bool×List Nat×Int) (e:Ending) (w':World):Prop :=
 ∃ a c,(a=none→c=0)∧(r.2.1.length≤c∧∀ g,(Value.slice a r.2.1.length c).ownBlock=some g→A g)∧e=.returned (.tuple #[.agg #[.bool r.1,.slice a r.2.1.length c],.int .i64 r.2.2])∧Reads w' (.slice a r.2.1.length c) r.2.1.length 1 (Aw r.2.1)∧Fr [] w w'
theorem bigN_calls (hv:Reads w (.slice a ds.length c) ds.length 1 (Bi ds)) (hD:Dig 256 ds) (hl:ds.length≤100000) (hc:ds.length≤c) (hs:val 256 ds<4294967296 ^ 64) :
  Calls Tryz.prog 58 #[.bool neg,.slice a ds.length c] w (BigPostN w (w.heap.size≤·) (mkN neg (val 256 ds))):=by
 by_cases hz:val 256 ds=0;·
  refine (big_nil hv hD hl hc hz).mono ?_;rintro e w' ⟨rfl,hf⟩;have hr:mkN neg (val 256 ds)=(false,[],0):=by unfold mkN;rw [if_pos hz]
  rw [hr];exact⟨none,0,fun _=>rfl,⟨Nat.le_refl _,fun g hg=>(by cases hg)⟩,rfl,reads_nil _,hf⟩
 ·refine (B5 hv hD hl hc).mono ?_;rintro e w' ⟨a,c,h1,rfl,h3,h4⟩;refine⟨a,c,fun ha=>?_,h1,rfl,h3,h4⟩;exfalso;subst ha;have hr:(mkN neg (val 256 ds)).2.1=dg 4294967296 (val 256 ds):=by unfold mkN;rw [if_neg hz,if_pos hs]
  rw [hr] at h3;have hp:0<(dg 4294967296 (val 256 ds)).length:=List.length_pos_iff.2 fun h=>hz ((Dp o_).1 h);obtain⟨_,a2,c2,he,h⟩:=h3;cases he;obtain⟨g,off,he,_⟩:=h hp;cases he
theorem RAddR_calls {na nb:Bool} {da db:List Nat} {va vb:Value} (ha:Reads w va da.length 1 (Aw da)) (hb:Reads w vb db.length 1 (Aw db)) (hDa:Dig 4294967296 da) (hDb:Dig 4294967296 db) (hR1:A7 na da=true) (hR2:A7 nb db=true) (hla:da.length≤10) (hlb:db.length≤10) :
  Calls Tryz.prog 17 #[.agg #[.bool na,va],.agg #[.bool nb,vb]] w (BigPostN w (w.heap.size≤·) (Xd na da nb db)):=by
 have hra:=fun w1 (hf:Fr [] w w1)=>Mo (neg:=na) (ha.fr hf) o_;have hrb:=fun w1 (hf:Fr [] w w1)=>Mo (neg:=nb) (hb.fr hf) o_;have Ha0:=q_ ha;have Hb0:=q_ hb;obtain⟨_,a,ac,rfl,_⟩:=ha;obtain⟨_,b,bc,rfl,_⟩:=hb;have HDa:=q_ hDa;have HDb:=q_ hDb;obtain⟨r,hS⟩:∃ r,r=Xd na da nb db:=⟨_,rfl⟩;rw [← hS];unfold Xd at hS;rw [hR1] at hra hS;rw [hR2] at hrb hS;simp only [Bool.and_self,Bool.true_eq_false,if_false] at hS;have Hra:=q_ hra;have Hrb:=q_ hrb;have HS:=q_ hS;clear hDa hDb hR1 hR2 hra hrb hS;go_enter Tryz.func17,Tryz.ntmps17;go_wp2_with fail;refine (Hra.o _ (Fr.t)).mono ?_;rintro e w1 ⟨rfl,hf⟩;have ha_:=(hf.block (w.heap.size) f_' i_).trans (show _=some (.cells #[.bool na,.slice a da.length ac] 30 (0,0)) from hpT);obtain⟨a0,a1,al⟩:=l2_ ha_;have Ha:=q_ ha_;clear ha_;have hb_:=(hf.block (w.heap.size+1) f_' i_).trans (show _=some (.cells #[.bool nb,.slice b db.length bc] 30 (0,0)) from hpT);obtain⟨b0,b1,bl⟩:=l2_ hb_;have Hb:=q_ hb_;clear hb_;have hc_:=(hf.block (w.heap.size+1+1) f_' i_).trans (show _=some (.cells #[.bool false,.slice none 0 0] 30 (0,0)) from hpT);have c0:=hEC hc_ 0;have c0z:=hEF hc_ 0;have c1:=hEC hc_ 1;have c1z:=hEF hc_ 1;have cl:=lBk hc_;have Hc:=q_ hc_;clear hc_;have Hf:=q_ (Fr.trans0 (Fr.t:Fr [] w _) hf);clear hf;go_wp2_with fail;refine (Hrb.o _ Hf.o).mono ?_;rintro e w2 ⟨rfl,hf⟩;(try clear a0 a1 al);have ha_:=tk hf Ha;clear Ha;obtain⟨a0,a1,al⟩:=l2_ ha_;have Ha:=q_ ha_;clear ha_;(try clear b0 b1 bl);have hb_:=tk hf Hb;clear Hb;obtain⟨b0,b1,bl⟩:=l2_ hb_;have Hb:=q_ hb_;clear hb_;(try clear c0 c1 c0z c1z cl);have hc_:=tk hf Hc;clear Hc;have c0:=hEC hc_ 0
 have c0z:=hEF hc_ 0;have c1:=hEC hc_ 1;have c1z:=hEF hc_ 1;have cl:=lBk hc_;have Hc:=q_ hc_;clear hc_;have Hf:=q_ (Hf.o.trans0 hf);clear hf;go_wp2;refine wS [([0,2,1],[2]),([3,4,5],[])] ?_;(simp only [A2,pick,aq_,bq_,cq_,dq_,eq_]);go_wp2_with fail;refine (O6 (neg:=na) (Ha0.o.fr (by have:=Hf.o;exact Fr.t)) HDa.o o_).mono ?_;rintro e w3 ⟨xa,xc,hlo,rfl,hr,hf0⟩;have hf:Fr [] w2 w3:=Fr.trans0 (Fr.t) hf0;(try clear a0 a1 al);have ha_:=tk hf Ha;clear Ha;obtain⟨a0,a1,al⟩:=l2_ ha_;have Ha:=q_ ha_;clear ha_;(try clear b0 b1 bl);have hb_:=tk hf Hb;clear Hb;obtain⟨b0,b1,bl⟩:=l2_ hb_;have Hb:=q_ hb_;clear hb_;(try clear c0 c1 c0z c1z cl);have hc_:=tk hf Hc;clear Hc;have c0:=hEC hc_ 0;have c0z:=hEF hc_ 0;have c1:=hEC hc_ 1;have c1z:=hEF hc_ 1;have cl:=lBk hc_;have Hc:=q_ hc_;clear hc_;have Hf:=q_ (Hf.o.trans0 hf);have Hx:=q_ hr;have Hxc:=q_ hlo.1;clear hf hf0 hr hlo;go_wp2;refine mD_ ⟨⟨aGR (T:=30) (cs:=[.bool nb,.slice b db.length bc]) rfl rfl rfl Tryz.underlying30 rfl k_ (fun j v hj=>?rng) rfl,trivial⟩,?_⟩;case rng =>rw [Nat.zero_add,hEC Hb.o,← hj];exact (Array.getElem?_toList (xs:=#[Value.bool nb,.slice b db.length bc])).symm
 go_wp2_with fail;refine (O6 (neg:=nb) (Hb0.o.fr Hf.o) HDb.o o_).mono ?_;rintro e w4 ⟨ya,yc,hlo,rfl,hr,hf⟩;(try clear a0 a1 al);have ha_:=tk hf Ha;clear Ha;obtain⟨a0,a1,al⟩:=l2_ ha_;have Ha:=q_ ha_;clear ha_;(try clear b0 b1 bl);have hb_:=tk hf Hb;clear Hb;obtain⟨b0,b1,bl⟩:=l2_ hb_;have Hb:=q_ hb_;clear hb_;(try clear c0 c1 c0z c1z cl);have hc_:=tk hf Hc;clear Hc;have c0:=hEC hc_ 0;have c0z:=hEF hc_ 0;have c1:=hEC hc_ 1;have c1z:=hEF hc_ 1;have cl:=lBk hc_;have Hc:=q_ hc_;clear hc_;have Hf:=q_ (Hf.o.trans0 hf);have Hx:=q_ (Hx.o.fr hf);have Hy:=q_ hr;have Hyc:=q_ hlo.1;clear hf hr hlo;go_wp2;refine mD_ ⟨trivial,sT_ rfl ?_⟩;obtain⟨Va,hVa⟩:∃ Va,val 4294967296 da=Va:=⟨_,rfl⟩;obtain⟨Vb,hVb⟩:∃ Vb,val 4294967296 db=Vb:=⟨_,rfl⟩;rw [hVa] at Hx HS Hxc ⊢;rw [hVb] at Hy HS Hyc ⊢;obtain⟨X,hX⟩:∃ X,dg 256 Va=X:=⟨_,rfl⟩;obtain⟨Y,hY⟩:∃ Y,dg 256 Vb=Y:=⟨_,rfl⟩;have hXV:val 256 X=Va:=by rw [← hX];exact Gn o_ Va
 have hYV:val 256 Y=Vb:=by rw [← hY];exact Gn o_ Vb
 have hXD:Dig 256 X:=by rw [← hX];exact Jw o_ Va
 have hYD:Dig 256 Y:=by rw [← hY];exact Jw o_ Vb
 have hXC:Canon X:=by rw [← hX];exact Q1 o_ Va
 have hYC:Canon Y:=by rw [← hY];exact Q1 o_ Vb
 have hlen:∀ (ds:List Nat) V,Dig 4294967296 ds→ds.length≤64→val 4294967296 ds=V→(dg 256 V).length≤256:=by intro ds V hD hl h;rw [Az o_,show 256 ^ 256=4294967296 ^ 64 from Mz 64,← h];exact Nat.lt_of_lt_of_le (Ce hD) (Nat.pow_le_pow_right o_ hl)
 have HSM:=q_ (show Va+Vb<4294967296 ^ 64 from by
  have h1:=Nat.lt_of_lt_of_le (Ce HDa.o) (Nat.pow_le_pow_right (show 0<4294967296 by omega) hla)
  have h2:=Nat.lt_of_lt_of_le (Ce HDb.o) (Nat.pow_le_pow_right (show 0<4294967296 by omega) hlb)
  rw [hVa] at h1
  rw [hVb] at h2
  exact Nat.lt_of_lt_of_le (Nat.add_lt_add h1 h2) (by decide +kernel))
 have hXl:=hlen _ _ HDa.o o_ hVa;have hYl:=hlen _ _ HDb.o o_ hVb;rw [hX] at Hx Hxc hXl ⊢;rw [hY] at Hy Hyc hYl ⊢;have HXV:=q_ hXV;have HYV:=q_ hYV;have HXD:=q_ hXD;have HYD:=q_ hYD;have HXC:=q_ hXC;have HYC:=q_ hYC;clear hVa hVb hX hY hXV hYV hXD hYD hXC hYC hlen;have hw24:w.heap.size+1+1<w4.heap.size:=lBk Hc.o;have Hw24:=q_ hw24;clear hw24;by_cases hn:na=nb;·
  subst hn;have hS:=HS.o;rw [if_pos rfl] at hS;have HS1:=q_ hS;clear hS HS;go_wp2;refine wS [([0,1,2,3,4],[1]),([5,6,7,8,9],[])] ?_;(simp only [A2,pick,aq_,bq_,cq_,dq_,eq_]);go_wp2_with fail;refine (Jh (Hx.o.fr (Fr.t)) (Hy.o.fr (Fr.t)) HXD.o HYD.o o_ o_).mono ?_;rintro e w5 ⟨L,hLD,hLV,hLl,la,lc,hlo,rfl,hr,hf0⟩;have hf:Fr [] w4 w5:=Fr.trans0 (Fr.t) hf0;have h45:=hf.size;(try clear a0 a1 al);have ha_:=tk hf Ha;clear Ha;obtain⟨a0,a1,al⟩:=l2_ ha_;have Ha:=q_ ha_;clear ha_;(try clear b0 b1 bl);have hb_:=tk hf Hb;clear Hb;obtain⟨b0,b1,bl⟩:=l2_ hb_;have Hb:=q_ hb_;clear hb_;(try clear c0 c1 c0z c1z cl);have hc_:=tk hf Hc;clear Hc;have c0:=hEC hc_ 0;have c0z:=hEF hc_ 0;have c1:=hEC hc_ 1;have c1z:=hEF hc_ 1;have cl:=lBk hc_;have Hc:=q_ hc_;clear hc_;have Hf:=q_ (Hf.o.trans0 hf);have hbg:=bigN_calls (neg:=na) hr hLD o_ hlo.1 (by rw [hLV,HXV.o,HYV.o];exact HSM.o);rw [hLV,HXV.o,HYV.o,← HS1.o] at hbg;have Hbg:=q_ hbg;have H45:=q_ (show w.heap.size+1+1<w5.heap.size by have:=Hw24.o;omega);clear hf hf0 hr hlo hLD hLV hLl hbg h45;go_wp2;refine mD_ ⟨⟨ac_ (T:=4) rfl rfl rfl Tryz.underlying4 rfl a0 rfl,trivial⟩,?_⟩;go_wp2_with fail;refine (Hbg.o).mono ?_;rintro e w6 ⟨ra,rc,hno,hlo,rfl,hr,hf⟩;have HNO:=q_ hno;(try clear c0 c1 c0z c1z cl);have hc_:=tk hf Hc;clear Hc;have c0:=hEC hc_ 0;have c0z:=hEF hc_ 0;have c1:=hEC hc_ 1;have c1z:=hEF hc_ 1;have cl:=lBk hc_;have Hc:=q_ hc_;clear hc_;have Hf:=q_ (Hf.o.trans0 hf);have Hlo:=q_ hlo;have Hr:=q_ hr;have Hs5:=q_ H45.o;clear hlo hr hf hno;(try clear a0 a1 al b0 b1 bl);obtain⟨r1,r2,r3⟩:=r;go_wp2;refine mD_ ⟨trivial,sT_ rfl ?_⟩;go_wp2;(try simp only [Exit.inBlock,Exit.then])
  refine bodyPost_ret (bRS rfl (b:=w.heap.size+1+1) (x:=.bool r1) (y:=.slice ra r2.length rc) rfl ?_ rfl) rfl ⟨_,_,HNO.o,⟨Hlo.o.1,fun g hg=>(by have:=Hlo.o.2 g hg;have:=Hs5.o;omega)⟩,rfl,?_,?_⟩;·
   have h:=Hc.o;(repeat first|rw [if_pos o_]|rw [if_neg o_]|rw [hDR]|rw [hDN]|rw [hAz]|rw [hSz]|rw [hAC]|rw [hSC]|rw [oMS]|rw [uPC]|rw [lSZ]|rw [lSS]|rfl);rw [h];exact hpT
  ·refine Hr.o.keep fun x hx hl=>?_;have:=Hlo.o.2 x hx;have:=Hs5.o;rw [sCE _ _ _ u_',sCE _ _ _ u_']
  ·exact (Hf.o.setCell (.inr t_) _).setCell (.inr t_) _
 ·have hS:=HS.o;rw [if_neg hn] at hS;have hnb:(na == nb)=false:=by simpa using hn
  have HN:=q_ hn;clear hn HS;by_cases hv:Va<Vb;·
   rw [if_pos hv] at hS;have HS1:=q_ hS;have Hle:=q_ (Nat.le_of_lt hv);have hls:=less_calls Hx.o Hy.o HXD.o HYD.o HXC.o HYC.o o_ o_;rw [HXV.o,HYV.o,decide_eq_true hv] at hls;have hYX:X.length≤Y.length:=by
    rcases Nat.lt_or_ge Y.length X.length with h|h
    ·have:=Im o_ HYD.o HXD.o HXC.o h;rw [HXV.o,HYV.o] at this;omega
    ·exact h
   have Hls:=q_ hls;have HYX:=q_ hYX;clear hS hls hYX hv;go_wp2_with fail;refine Hls.o.mono ?_;rintro e w5 ⟨rfl,hd⟩;have hf:=hd.fr [];have h45:=hf.size;(try clear a0 a1 al);have ha_:=tk hf Ha;clear Ha;obtain⟨a0,a1,al⟩:=l2_ ha_;have Ha:=q_ ha_;clear ha_;(try clear b0 b1 bl);have hb_:=tk hf Hb;clear Hb;obtain⟨b0,b1,bl⟩:=l2_ hb_;have Hb:=q_ hb_;clear hb_;(try clear c0 c1 c0z c1z cl);have hc_:=tk hf Hc;clear Hc;have c0:=hEC hc_ 0;have c0z:=hEF hc_ 0;have c1:=hEC hc_ 1;have c1z:=hEF hc_ 1;have cl:=lBk hc_;have Hc:=q_ hc_;clear hc_;have Hf:=q_ (Hf.o.trans0 hf);have H45:=q_ (show w.heap.size+1+1<w5.heap.size by have:=Hw24.o;omega);have Hm:=q_ (fun w1 (hf1:Fr [] w5 w1)=>rminus_calls (Hy.o.fr (hf.trans0 hf1)) (Hx.o.fr (hf.trans0 hf1)) HYD.o HXD.o HYX.o (by rw [HYV.o,HXV.o];exact Hle.o) o_);clear hf hd h45;go_wp2_with fail;refine wS [([0,1,2,3,4],[1]),([5,6,7,8,9],[])] ?_;(simp only [A2,pick,aq_,bq_,cq_,dq_,eq_]);go_wp2_with fail;refine (Hm.o _ (Fr.t)).mono ?_;rintro e w6 ⟨la,lc,hlo,rfl,hr,hf0⟩;have hf:Fr [] w5 w6:=Fr.trans0 (Fr.t) hf0;have h56:=hf.size;(try clear a0 a1 al);have ha_:=tk hf Ha;clear Ha;obtain⟨a0,a1,al⟩:=l2_ ha_;have Ha:=q_ ha_;clear ha_;(try clear b0 b1 bl);have hb_:=tk hf Hb;clear Hb;obtain⟨b0,b1,bl⟩:=l2_ hb_;have Hb:=q_ hb_;clear hb_;(try clear c0 c1 c0z c1z cl);have hc_:=tk hf Hc;clear Hc;have c0:=hEC hc_ 0;have c0z:=hEF hc_ 0;have c1:=hEC hc_ 1;have c1z:=hEF hc_ 1;have cl:=lBk hc_;have Hc:=q_ hc_;clear hc_;have Hf:=q_ (Hf.o.trans0 hf);obtain⟨D,hDe⟩:∃ D,dg 256 (val 256 Y - val 256 X)=D:=⟨_,rfl⟩;have hDD:Dig 256 D:=(by rw [← hDe];exact Jw o_ _);have hDV:val 256 D=val 256 Y - val 256 X:=(by rw [← hDe];exact Gn o_ _);have hDl:D.length≤Y.length:=by
    rw [← hDe,Az o_];exact Nat.lt_of_le_of_lt (Nat.sub_le _ _) (Ce HYD.o)
   rw [hDe] at hr hlo ⊢;rw [HYV.o,HXV.o] at hDV;clear hDe;have hbg:=bigN_calls (neg:=nb) hr hDD o_ hlo.1 (by rw [hDV];exact Nat.lt_of_le_of_lt (show _≤Va+Vb by omega) HSM.o);rw [hDV,← HS1.o] at hbg;clear hDD hDV hDl;have Hbg:=q_ hbg;have H46:=q_ (show w.heap.size+1+1<w6.heap.size by have:=H45.o;omega);clear hf hf0 hr hlo hbg h56;go_wp2;refine mD_ ⟨⟨ac_ (T:=4) rfl rfl rfl Tryz.underlying4 rfl b0 rfl,trivial⟩,?_⟩;go_wp2_with fail;refine (Hbg.o).mono ?_;rintro e w6 ⟨ra,rc,hno,hlo,rfl,hr,hf⟩;have HNO:=q_ hno;(try clear c0 c1 c0z c1z cl);have hc_:=tk hf Hc;clear Hc;have c0:=hEC hc_ 0;have c0z:=hEF hc_ 0;have c1:=hEC hc_ 1;have c1z:=hEF hc_ 1;have cl:=lBk hc_;have Hc:=q_ hc_;clear hc_;have Hf:=q_ (Hf.o.trans0 hf);have Hlo:=q_ hlo;have Hr:=q_ hr;have Hs5:=q_ H46.o;clear hlo hr hf hno;(try clear a0 a1 al b0 b1 bl);obtain⟨r1,r2,r3⟩:=r;go_wp2;refine mD_ ⟨trivial,sT_ rfl ?_⟩;go_wp2;(try simp only [Exit.inBlock,Exit.then]);refine bodyPost_ret (bRS rfl (b:=w.heap.size+1+1) (x:=.bool r1) (y:=.slice ra r2.length rc) rfl ?_ rfl) rfl ⟨_,_,HNO.o,⟨Hlo.o.1,fun g hg=>(by have:=Hlo.o.2 g hg;have:=Hs5.o;omega)⟩,rfl,?_,?_⟩;·
    have h:=Hc.o;(repeat first|rw [if_pos o_]|rw [if_neg o_]|rw [hDR]|rw [hDN]|rw [hAz]|rw [hSz]|rw [hAC]|rw [hSC]|rw [oMS]|rw [uPC]|rw [lSZ]|rw [lSS]|rfl);rw [h];exact hpT
   ·refine Hr.o.keep fun x hx hl=>?_;have:=Hlo.o.2 x hx;have:=Hs5.o;rw [sCE _ _ _ u_',sCE _ _ _ u_']
   ·exact (Hf.o.setCell (.inr t_) _).setCell (.inr t_) _
  ·rw [if_neg hv] at hS;have HS1:=q_ hS;have Hle:=q_ (Nat.le_of_not_lt hv);have hls:=less_calls Hx.o Hy.o HXD.o HYD.o HXC.o HYC.o o_ o_;rw [HXV.o,HYV.o,decide_eq_false hv] at hls;have hYX:Y.length≤X.length:=by
    rcases Nat.lt_or_ge X.length Y.length with h|h
    ·have:=Im o_ HXD.o HYD.o HYC.o h;rw [HXV.o,HYV.o] at this;omega
    ·exact h
   have Hls:=q_ hls;have HYX:=q_ hYX;clear hS hls hYX hv;go_wp2_with fail;refine Hls.o.mono ?_;rintro e w5 ⟨rfl,hd⟩;have hf:=hd.fr [];have h45:=hf.size;(try clear a0 a1 al);have ha_:=tk hf Ha;clear Ha;obtain⟨a0,a1,al⟩:=l2_ ha_;have Ha:=q_ ha_;clear ha_;(try clear b0 b1 bl);have hb_:=tk hf Hb;clear Hb;obtain⟨b0,b1,bl⟩:=l2_ hb_;have Hb:=q_ hb_;clear hb_;(try clear c0 c1 c0z c1z cl);have hc_:=tk hf Hc;clear Hc;have c0:=hEC hc_ 0;have c0z:=hEF hc_ 0;have c1:=hEC hc_ 1;have c1z:=hEF hc_ 1;have cl:=lBk hc_;have Hc:=q_ hc_;clear hc_;have Hf:=q_ (Hf.o.trans0 hf);have H45:=q_ (show w.heap.size+1+1<w5.heap.size by have:=Hw24.o;omega);have Hm:=q_ (fun w1 (hf1:Fr [] w5 w1)=>rminus_calls (Hx.o.fr (hf.trans0 hf1)) (Hy.o.fr (hf.trans0 hf1)) HXD.o HYD.o HYX.o (by rw [HXV.o,HYV.o];exact Hle.o) o_);clear hf hd h45;go_wp2_with fail;refine wS [([0,1,2,3,4],[1]),([5,6,7,8,9],[])] ?_;(simp only [A2,pick,aq_,bq_,cq_,dq_,eq_]);go_wp2_with fail;refine (Hm.o _ (Fr.t)).mono ?_;rintro e w6 ⟨la,lc,hlo,rfl,hr,hf0⟩;have hf:Fr [] w5 w6:=Fr.trans0 (Fr.t) hf0;have h56:=hf.size;(try clear a0 a1 al);have ha_:=tk hf Ha;clear Ha;obtain⟨a0,a1,al⟩:=l2_ ha_;have Ha:=q_ ha_;clear ha_;(try clear b0 b1 bl);have hb_:=tk hf Hb;clear Hb;obtain⟨b0,b1,bl⟩:=l2_ hb_;have Hb:=q_ hb_;clear hb_;(try clear c0 c1 c0z c1z cl);have hc_:=tk hf Hc;clear Hc;have c0:=hEC hc_ 0;have c0z:=hEF hc_ 0;have c1:=hEC hc_ 1;have c1z:=hEF hc_ 1;have cl:=lBk hc_;have Hc:=q_ hc_;clear hc_;have Hf:=q_ (Hf.o.trans0 hf);obtain⟨D,hDe⟩:∃ D,dg 256 (val 256 X - val 256 Y)=D:=⟨_,rfl⟩;have hDD:Dig 256 D:=(by rw [← hDe];exact Jw o_ _);have hDV:val 256 D=val 256 X - val 256 Y:=(by rw [← hDe];exact Gn o_ _);have hDl:D.length≤X.length:=by
    rw [← hDe,Az o_];exact Nat.lt_of_le_of_lt (Nat.sub_le _ _) (Ce HXD.o)
   rw [hDe] at hr hlo ⊢;rw [HXV.o,HYV.o] at hDV;clear hDe;have hbg:=bigN_calls (neg:=na) hr hDD o_ hlo.1 (by rw [hDV];exact Nat.lt_of_le_of_lt (show _≤Va+Vb by omega) HSM.o);rw [hDV,← HS1.o] at hbg;clear hDD hDV hDl;have Hbg:=q_ hbg;have H46:=q_ (show w.heap.size+1+1<w6.heap.size by have:=H45.o;omega);clear hf hf0 hr hlo hbg h56;go_wp2;refine mD_ ⟨⟨ac_ (T:=4) rfl rfl rfl Tryz.underlying4 rfl a0 rfl,trivial⟩,?_⟩;go_wp2_with fail;refine (Hbg.o).mono ?_;rintro e w6 ⟨ra,rc,hno,hlo,rfl,hr,hf⟩;have HNO:=q_ hno;(try clear c0 c1 c0z c1z cl);have hc_:=tk hf Hc;clear Hc;have c0:=hEC hc_ 0;have c0z:=hEF hc_ 0;have c1:=hEC hc_ 1;have c1z:=hEF hc_ 1;have cl:=lBk hc_;have Hc:=q_ hc_;clear hc_;have Hf:=q_ (Hf.o.trans0 hf);have Hlo:=q_ hlo;have Hr:=q_ hr;have Hs5:=q_ H46.o;clear hlo hr hf hno;(try clear a0 a1 al b0 b1 bl);obtain⟨r1,r2,r3⟩:=r;go_wp2;refine mD_ ⟨trivial,sT_ rfl ?_⟩;go_wp2;(try simp only [Exit.inBlock,Exit.then]);refine bodyPost_ret (bRS rfl (b:=w.heap.size+1+1) (x:=.bool r1) (y:=.slice ra r2.length rc) rfl ?_ rfl) rfl ⟨_,_,HNO.o,⟨Hlo.o.1,fun g hg=>(by have:=Hlo.o.2 g hg;have:=Hs5.o;omega)⟩,rfl,?_,?_⟩;·
    have h:=Hc.o;(repeat first|rw [if_pos o_]|rw [if_neg o_]|rw [hDR]|rw [hDN]|rw [hAz]|rw [hSz]|rw [hAC]|rw [hSC]|rw [oMS]|rw [uPC]|rw [lSZ]|rw [lSS]|rfl);rw [h];exact hpT
   ·refine Hr.o.keep fun x hx hl=>?_;have:=Hlo.o.2 x hx;have:=Hs5.o;rw [sCE _ _ _ u_',sCE _ _ _ u_']
   ·exact (Hf.o.setCell (.inr t_) _).setCell (.inr t_) _
end Go.Proofs.YtebolidfbflkmaaGreat
namespace Go.Proofs.YtebolidfbflkmaaGreat
open Go Go.RowKit Rg Mp Hp Qs Ev
def CapOk:Value→Prop
 | .slice _ n c=>n≤c
 | _=>True
def Gath (w:World) (base:Nat) (P:Nat→Prop) (v:Value) (L:List (List Int)):Prop :=
 ∃ vs,w.ownsRow base 72 1 v L.length vs∧∀ (i:Nat) (r:List Int),L[i]?=some r→∃ u,vs[i]?=some u∧IntsAt w u r∧CapOk u∧∀ g,u.ownBlock=some g→g<w.heap.size∧P g∧v.ownBlock≠some g
theorem Gath.nil (w:World) (base:Nat) (P:Nat→Prop):Gath w base P (.slice none 0 0) []:=⟨[],World.ownsRow_nil _ _ _ _,fun i r h=>by simp at h⟩
theorem Gath.fr {w w':World} {base:Nat} {P:Nat→Prop} {v:Value} {L:List (List Int)} (h:Gath w base P v L) (hf:Fr [] w w'):Gath w' base P v L:=by obtain⟨vs,ho,hr⟩:=h;refine⟨vs,oOB ho fun g hg=>hf.block g (oLT ho hg) i_,fun i r hi=>?_⟩;obtain⟨u,hu,h1,hft,h2⟩:=hr i r hi;exact⟨u,hu,h1.fr hf,hft,fun g hg=>⟨by have:=(h2 g hg).1;have:=hf.size;omega,(h2 g hg).2⟩⟩
variable {w:World}{base:Nat}{P:Nat→Prop}{v:Value}
theorem Gath.blk {L:List (List Int)} (h:Gath w base P v L) {g:Nat} (hg:v.ownBlock=some g):g<w.heap.size:=by obtain⟨vs,ho,_⟩:=h;exact oLT ho hg
theorem Gath.low {base':Nat} {P':Nat→Prop} {L:List (List Int)} (h:Gath w base P v L) (hb:base'≤base) (hl:∀ g,P g→P' g):Gath w base' P' v L:=by obtain⟨vs,ho,hr⟩:=h;refine⟨vs,Ft ho hb,fun i r hi=>?_⟩;obtain⟨u,hu,h1,hft,h2⟩:=hr i r hi;exact⟨u,hu,h1,hft,fun g hg=>⟨(h2 g hg).1,hl g (h2 g hg).2.1,(h2 g hg).2.2⟩⟩
def RowsFit (w:World) (v:Value) (L:List (List Int)):Prop:=∃ vs:List Value,Reads w v L.length 1 vs∧∀ (i:Nat) (r:List Int),L[i]?=some r→∃ u,vs[i]?=some u∧IntsAt w u r∧CapOk u
theorem Gath.fit {L:List (List Int)} (h:Gath w base P v L):RowsFit w v L:=by obtain⟨vs,ho,hr⟩:=h;exact⟨vs,Reads.of_owns ho,fun i r hi=>by obtain⟨u,hu,h1,h2,_⟩:=hr i r hi;exact⟨u,hu,h1,h2⟩⟩
theorem RowsFit.fr {w w':World} {v:Value} {L:List (List Int)} (h:RowsFit w v L) (hf:Fr [] w w'):RowsFit w' v L:=by obtain⟨vs,h1,h2⟩:=h;refine⟨vs,h1.fr hf,fun i r hi=>?_⟩;obtain⟨u,hu,hr,hft⟩:=h2 i r hi;exact⟨u,hu,hr.fr hf,hft⟩
end Go.Proofs.YtebolidfbflkmaaGreat
namespace Go.Proofs.YtebolidfbflkmaaGreat
open Go Go.RowKit Rg Hp Ev
variable {w:World}
theorem before_calls {p q:Int×Int}:Calls Tryz.prog 139 #[.agg #[.int .i64 p.1,.int .i64 p.2],.agg #[.int .i64 q.1,.int .i64 q.2]] w fun e w'=>e=.returned (.bool (before p q))∧Fr [] w w':=by
 obtain⟨px,py⟩:=p;obtain⟨qx,qy⟩:=q;simp only;obtain⟨b,hb⟩:∃ b,before (px,py) (qx,qy)=b:=⟨_,rfl⟩;rw [hb];unfold before at hb;simp only at hb;by_cases h1:py<qy;·
  obtain rfl:b=true:=by rw [← hb];simp [h1]
  clear hb;go_enter Tryz.func139,Tryz.ntmps139;go_wp2;go_ret;exact⟨rfl,Fr.t⟩
 ·by_cases h2:py=qy;·
   subst h2;by_cases h3:px<qx;·
    obtain rfl:b=true:=(by rw [← hb];simp [h3]);clear hb;go_enter Tryz.func139,Tryz.ntmps139;go_wp2;go_ret;exact⟨rfl,Fr.t⟩
   ·obtain rfl:b=false:=(by rw [← hb];simp [h3]);clear hb;go_enter Tryz.func139,Tryz.ntmps139;go_wp2;go_ret;exact⟨rfl,Fr.t⟩
  ·obtain rfl:b=false:=(by rw [← hb];simp [h1,h2]);have he:(py == qy)=false:=(by simpa using h2);clear hb;go_enter Tryz.func139,Tryz.ntmps139;go_wp2;go_ret;exact⟨rfl,Fr.t⟩
theorem RHRight_calls {l:List (Int×Int)} {a:Option Addr} {c:Nat} (hl:PtsAt w (.slice a l.length c) l) (hlen:l.length≤1000000) :
  Calls Tryz.prog 115 #[.slice a l.length c] w fun e w'=>e=.returned (.bool (Db l))∧Fr [] w w':=by
 have Hl:=q_ hl;clear hl;by_cases h1:1≤l.length∧l.length≤25;·
  obtain⟨h1,h2⟩:=h1;go_enter Tryz.func115,Tryz.ntmps115;go_wp2;go_loopw [3] (fun x wr=>∃ k:Nat,x=.int .i64 k∧k≤l.length∧(∀ j,j<k→Gs l j=true)∧Fr [] w wr) (fun x _=>l.length - (intOf x).toNat);case atStart=>exact⟨0,rfl,o_,o_,Fr.refl _ _⟩
  case round =>
   obtain⟨k,rfl,hk,hn,hf⟩:=hrel;have Hk:=q_ hn;have Hf:=q_ hf;clear hn hf;by_cases hlt:k<l.length;·
    obtain⟨⟨x,y⟩,hp⟩:∃ p,l[k]?=some p:=⟨_,List.getElem?_eq_getElem hlt⟩;obtain⟨g,off,rfl,hg,e0,e1⟩:=(Hl.o.fr Hf.o).cell hp;simp only at e0 e1;cases k with
    | zero =>
     have HA:=q_ (hoodAt_zero hp);clear hp;simp only [Nat.zero_mul,Nat.add_zero] at e0 e1;go_wp2;(refine wT ?_);go_wp2;all_goals
      refine sT_ rfl ?_;go_wp2;first
       | (go_ret;exact⟨Ag (Nw hlt (HA.o.trans t_)).symm,by first|(have:=Hf.o;(repeat first|exact Fr.refl _ _|assumption|apply Fr.n|apply Fr.d|apply Fr.a|refine Fr.s ?_ (.inr t_) _);done)|exact Fr.trans0 (by have:=Hf.o;exact Fr.t) Hf1.o⟩)
       | (
        go_roundw
        case rel =>
         refine⟨0+1,by go_num,o_,fun j hj=>?_,by first|(have:=Hf.o;(repeat first|exact Fr.refl _ _|assumption|apply Fr.n|apply Fr.d|apply Fr.a|refine Fr.s ?_ (.inr t_) _);done)|exact Fr.trans0 (by have:=Hf.o;exact Fr.t) Hf1.o⟩
         rcases Nat.lt_or_ge j (0) with h|h
         ·exact Hk.o j h
         ·obtain rfl:j=0:=o_
          exact HA.o.trans t_
        case measure=>simp [intOf];omega)
    | succ k =>
     obtain⟨⟨u,v⟩,hq⟩:∃ p,l[k]?=some p:=⟨_,List.getElem?_eq_getElem o_⟩;obtain⟨g',off',he,_,e2,e3⟩:=(Hl.o.fr Hf.o).cell hq;cases he;simp only at e2 e3;have ha:=hoodAt_succ hp hq;have hc:=fun w=>before_calls (p:=(u,v)) (q:=(x,y)) (w:=w);simp only at hc;generalize before (u,v) (x,y)=b at ha hc;have HA:=q_ ha;have HC:=q_ hc;clear hp hq ha hc;cases b;all_goals
      go_wp2;(refine wT ?_);go_wp2_with (refine (HC.o _).mono ?_;rintro e w1 ⟨rfl,hf⟩;have Hf1:=q_ hf;clear hf);all_goals
       refine sT_ rfl ?_;go_wp2;first
        | (go_ret;exact⟨Ag (Nw hlt (HA.o.trans t_)).symm,by first|(have:=Hf.o;(repeat first|exact Fr.refl _ _|assumption|apply Fr.n|apply Fr.d|apply Fr.a|refine Fr.s ?_ (.inr t_) _);done)|exact Fr.trans0 (by have:=Hf.o;exact Fr.t) Hf1.o⟩)
        | (
         go_roundw
         case rel =>
          refine⟨(k+1)+1,by go_num,o_,fun j hj=>?_,by first|(have:=Hf.o;(repeat first|exact Fr.refl _ _|assumption|apply Fr.n|apply Fr.d|apply Fr.a|refine Fr.s ?_ (.inr t_) _);done)|exact Fr.trans0 (by have:=Hf.o;exact Fr.t) Hf1.o⟩
          rcases Nat.lt_or_ge j ((k+1)) with h|h
          ·exact Hk.o j h
          ·obtain rfl:j=(k+1):=o_
           exact HA.o.trans t_
         case measure=>simp [intOf];omega)
   ·obtain rfl:k=l.length:=o_;go_wp2;go_ret;exact⟨Ag (hoodR_true h1 h2 Hk.o).symm,Hf.o⟩
 ·rw [hoodR_len h1];have h2:l.length=0∨25<l.length:=o_
  clear h1;rcases h2 with h|h
  ·go_enter Tryz.func115,Tryz.ntmps115;go_wp2;go_ret;exact⟨rfl,Fr.t⟩
  ·go_enter Tryz.func115,Tryz.ntmps115;go_wp2;go_ret;exact⟨rfl,Fr.t⟩
end Go.Proofs.YtebolidfbflkmaaGreat
namespace Go.Proofs.YtebolidfbflkmaaGreat
open Go Go.RowKit Rg Mp Hp Qs Ev
def RowsOff (w:World) (v:Value) (L:List (List Int)) (G:List Nat):Prop :=
 ∃ vs:List Value,Reads w v L.length 1 vs∧(∀ g,v.ownBlock=some g→g<w.heap.size∧g∉G)∧∀ (i:Nat) (r:List Int),L[i]?=some r→∃ u,vs[i]?=some u∧IntsAt w u r∧CapOk u∧∀ g,u.ownBlock=some g→g<w.heap.size∧g∉G
variable {w:World}{v:Value}{G:List Nat}
theorem RowsOff.fit {L:List (List Int)} (h:RowsOff w v L G):RowsFit w v L:=by obtain⟨vs,h1,_,h2⟩:=h;exact⟨vs,h1,fun i r hi=>by obtain⟨u,hu,h3,h4,_⟩:=h2 i r hi;exact⟨u,hu,h3,h4⟩⟩
theorem RowsOff.step {w':World} {L:List (List Int)} {G':List Nat} (h:RowsOff w v L G) (hf:Fr G w w') (hG:∀ x∈G',x∈G∨w.heap.size≤x):RowsOff w' v L G':=by obtain⟨vs,h1,h2,h3⟩:=h;have hsz:=hf.size;have key:∀ g,g<w.heap.size∧g∉G→g<w'.heap.size∧g∉G':=fun g hg=>⟨o_,fun hx=>by rcases hG g hx with h|h;exact hg.2 h;omega⟩;refine⟨vs,h1.keep fun x hx hlt=>hf.block x hlt (h2 x hx).2,fun g hg=>key g (h2 g hg),fun i r hi=>?_⟩;obtain⟨u,hu,h4,h5,h6⟩:=h3 i r hi;exact⟨u,hu,Reads.keep h4 fun x hx hlt=>hf.block x hlt (h6 x hx).2,h5,fun g hg=>key g (h6 g hg)⟩
theorem Gath.off {base:Nat} {P:Nat→Prop} {L:List (List Int)} (h:Gath w base P v L) (hG:∀ x∈G,x<base∧¬ P x):RowsOff w v L G:=by obtain⟨vs,ho,hr⟩:=h;refine⟨vs,Reads.of_owns ho,fun g hg=>⟨oLT ho hg,fun hx=>by have:=B7 ho hg;have:=(hG g hx).1;omega⟩,fun i r hi=>?_⟩;obtain⟨u,hu,h1,h2,h3⟩:=hr i r hi;exact⟨u,hu,h1,h2,fun g hg=>⟨(h3 g hg).1,fun hx=>(hG g hx).2 (h3 g hg).2.1⟩⟩
theorem RValue_calls {r:Rule} {ha na:Option Addr} {hc nc:Nat} {b:Option Addr} {c:Nat} {ss:List Int} (hR:Ar r=true) (hn:NodesAt w (.slice na r.nodes.length nc) r.nodes) (hi:IntsAt w (.slice b ss.length c) ss) (hl:ss.length=r.hood.length) (hs:∀ s∈ss,0≤s∧s<r.S) :
  Calls Tryz.prog 116 #[.agg #[.int .i64 r.S,.slice ha r.hood.length hc,.slice na r.nodes.length nc],.slice b ss.length c] w fun e w'=>e=.returned (.int .i64 (down r ss))∧Fr [] w w':=by
 have HN:=q_ hn;have HI:=q_ hi;have HS:=q_ hs;have HL:=q_ hl;have hh:=G3 hR;have hnl:=K8 hR;have hlen:ss.length≤25:=o_
 clear hn hi hs hl hh;go_enter Tryz.func116,Tryz.ntmps116;go_wp2;obtain⟨w1,hw1⟩:∃ w1,w.alloc (Obj.cells #[Value.int .i64 r.S,.slice ha r.hood.length hc,.slice na r.nodes.length nc] 25 (0,0))=w1:=⟨_,rfl⟩;have hb1:w1.heap[w.heap.size]?=some (.cells #[Value.int .i64 r.S,.slice ha r.hood.length hc,.slice na r.nodes.length nc] 25 (0,0)):=by rw [← hw1];(repeat first|rw [if_pos o_]|rw [if_neg o_]|rw [hDR]|rw [hDN]|rw [hAz]|rw [hSz]|rw [hAC]|rw [hSC]|rw [oMS]|rw [uPC]|rw [lSZ]|rw [lSS]|rfl)
 have Hf:=q_ (show Fr [] w w1 by rw [← hw1];exact Fr.t);rw [hw1];have Ht:=q_ hb1;have hnil:down r []=(r.nodes.length - 1:Int):=rfl;obtain⟨tb,htb⟩:∃ t,w.heap.size=t:=⟨_,rfl⟩;rw [htb] at Ht ⊢;clear hw1 hb1 htb;go_loopw [5,6] (fun x5 x6 wr=>∃ i:Nat,x6=.int .i64 i∧i≤ss.length∧x5=.int .i64 (down r (ss.take i))∧Hid (Fr [] w1 wr)) (fun _ z _=>ss.length - (intOf z).toNat);case atStart=>exact⟨0,rfl,o_,by rw [List.take_zero,hnil],q_ (Fr.refl _ _)⟩
 case round =>
  obtain⟨i,rfl,hi,rfl,Hf1⟩:=hrel;clear hnil;have hfk:=Hf1.o;(try clear t0 t1 t2 tl);have ht_:=tk hfk Ht;clear Ht;obtain⟨t0,t1,t2,tl⟩:=l3_ ht_;have Ht:=q_ ht_;clear ht_;clear hfk;by_cases hlt:i<ss.length;·
   obtain⟨s,hs⟩:∃ s,ss[i]?=some s:=⟨_,List.getElem?_eq_getElem hlt⟩;have hok:=HS.o s (List.mem_of_getElem? hs);obtain⟨gi,oi,hgi,lgi,ci⟩:=(HI.o.fr (Hf.o.trans0 Hf1.o)).cell hs;have hsn:=Kk r (ss.take i) s;rw [show ss.take i++[s]=ss.take (i+1) by rw [List.take_add_one,hs];rfl] at hsn;obtain⟨k,gn,on,g2,off2,rl,rc,hk,hkl,hen,hgn,n1,hrl,hg2,n2⟩:=Nf (ss:=ss.take i) (s:=s) hR (HN.o.fr (Hf.o.trans0 Hf1.o)) (fun s hs=>HS.o s (List.mem_of_mem_take hs)) (by have:=HL.o;rw [List.length_take];omega) hok.1 hok.2;rw [hk] at hsn ⊢;have HSN:=q_ hsn;obtain⟨s0,s1⟩:=hok;subst hgi;subst hen;clear hsn hk hs;go_wp2;(refine wT ?_);have s2:s<(rl:Int):=o_;clear hrl s1;go_wp2;refine sT_ rfl ?_;go_wp2;go_roundw;case rel=>exact⟨i+1,by go_num,o_,by rw [HSN.o],by have:=Hf1.o;exact q_ (Fr.t)⟩
   case measure=>simp [intOf];omega
  ·have hi':i=ss.length:=o_;rw [hi',List.take_length];go_wp2;go_ret;exact⟨rfl,Hf.o.trans0 Hf1.o⟩
end Go.Proofs.YtebolidfbflkmaaGreat
namespace Go.Proofs.YtebolidfbflkmaaGreat
open Go Go.RowKit Rg Hp Pt
theorem place_p (x y:Int) (w:World):Calls Tryz.prog 65 #[.int .i64 x,.int .i64 y] w fun e w'=>e=.returned (.bool (Ir x y))∧w'=w:=by
 have hb:Ir x y=(((decide (x ≥ -1048576) && decide (x≤1048576)) && decide (y ≥ -1048576)) && decide (y≤1048576)):=by unfold Ir;rw [Bool.eq_iff_iff];simp only [Bool.and_eq_true,decide_eq_true_eq];omega
 rw [hb];clear hb;obtain⟨a,ha⟩:∃ a,decide (x ≥ -1048576)=a:=⟨_,rfl⟩;obtain⟨b,hb⟩:∃ a,decide (x≤1048576)=a:=⟨_,rfl⟩;obtain⟨c,hc⟩:∃ a,decide (y ≥ -1048576)=a:=⟨_,rfl⟩;obtain⟨d,hd⟩:∃ a,decide (y≤1048576)=a:=⟨_,rfl⟩;rw [ha,hb,hc,hd];cases a with
 | false =>go_enter Tryz.func65,Tryz.ntmps65;go_wp2;go_ret;exact⟨i_,rfl⟩
 | true =>
  cases b with
  | false =>go_enter Tryz.func65,Tryz.ntmps65;go_wp2;go_ret;exact⟨i_,rfl⟩
  | true =>
   cases c with
   | false =>go_enter Tryz.func65,Tryz.ntmps65;go_wp2;go_ret;exact⟨i_,rfl⟩
   | true =>go_enter Tryz.func65,Tryz.ntmps65;go_wp2;go_ret;exact⟨i_,rfl⟩
theorem before_p (p q:PC) (w:World):Calls Tryz.prog 69 #[pcV p,pcV q] w fun e w'=>e=.returned (.bool (Cf p q))∧Fr [] w w':=by
 obtain⟨x,y,s⟩:=p;obtain⟨u,v,t⟩:=q;unfold pcV Cf;simp only;by_cases h:y<v;·
  have hb:decide (y<v)=true:=by simpa using h
  rw [show decide (y<v∨y=v∧x<u)=true by simp [h]];clear h;go_enter Tryz.func69,Tryz.ntmps69;go_wp2;go_ret;exact⟨rfl,Fr.t⟩
 ·have hb:decide (y<v)=false:=by simpa using h
  by_cases he:y=v;·
   subst he;rw [show decide (y<y∨y=y∧x<u)=decide (x<u) by simp];obtain⟨c,hc⟩:∃ c,decide (x<u)=c:=⟨_,rfl⟩;rw [hc];clear h;have heq:(y == y)=true:=by simp
   go_enter Tryz.func69,Tryz.ntmps69;go_wp2;go_ret;exact⟨rfl,Fr.t⟩
  ·have heq:(y == v)=false:=(by simpa using he);rw [show decide (y<v∨y=v∧x<u)=false by simp [h,he]];clear h he;go_enter Tryz.func69,Tryz.ntmps69;go_wp2;go_ret;exact⟨rfl,Fr.t⟩
theorem RRight_p {w:World} {l:List PC} {a:Option Addr} {c:Nat} (hl:CellsAt w (.slice a l.length c) l) (hlen:l.length≤4000000000000000000) :
  Calls Tryz.prog 23 #[.slice a l.length c] w fun e w'=>e=.returned (.bool (Cn l))∧Fr [] w w':=by
 have Hl:=q_ hl;clear hl;go_enter Tryz.func23,Tryz.ntmps23;go_wp2;go_loopw [3] (fun x wr=>∃ k:Nat,x=.int .i64 k∧k≤l.length∧(∀ j,j<k→Kw l j=true)∧Fr [] w wr) (fun x _=>l.length - (intOf x).toNat);case atStart=>exact⟨0,rfl,o_,o_,Fr.refl _ _⟩
 case round =>
  obtain⟨k,rfl,hk,hn,hf⟩:=hrel;have Hk:=q_ hn;have Hf:=q_ hf;clear hn hf;by_cases hlt:k<l.length;·
   obtain⟨⟨x,y,st⟩,hp⟩:∃ p,l[k]?=some p:=⟨_,List.getElem?_eq_getElem hlt⟩;obtain⟨g,off,rfl,hg,e0,e1,e2⟩:=(Hl.o.fr Hf.o).cell hp;simp only at e0 e1 e2;have HPL:=q_ (place_p x y);cases k with
   | zero =>
    have HA:=q_ (rgt_zero hp);clear hp;simp only [Nat.zero_mul,Nat.add_zero] at e0 e1 e2;unfold Ig at HA;simp only at HA;generalize Ir x y=pl at HA HPL;cases pl with
    | false =>go_wp2;(refine wT ?_);go_wp2_with fail;refine (HPL.o _).mono ?_;rintro e w1 ⟨rfl,rfl⟩;go_wp2;refine sT_ rfl ?_;go_wp2;go_ret;exact⟨Ag (Eb o_ (HA.o.trans (by simp ))).symm,by have:=Hf.o;exact Fr.t⟩
    | true =>
     by_cases h1:st<1;·
      have hd1:decide (st<1)=true:=(by simpa using h1);go_wp2;(refine wT ?_);go_wp2_with fail;refine (HPL.o _).mono ?_;rintro e w1 ⟨rfl,rfl⟩;go_wp2;refine sT_ rfl ?_;go_wp2;go_ret;exact⟨Ag (Eb o_ (HA.o.trans (by simp ;omega))).symm,by have:=Hf.o;exact Fr.t⟩
     ·have hd1:decide (st<1)=false:=(by simpa using h1);by_cases h8:st ≥ 8;·
       have hd8:decide (st ≥ 8)=true:=(by simpa using h8);go_wp2;(refine wT ?_);go_wp2_with fail;refine (HPL.o _).mono ?_;rintro e w1 ⟨rfl,rfl⟩;go_wp2;refine sT_ rfl ?_;go_wp2;go_ret;exact⟨Ag (Eb o_ (HA.o.trans (by simp ;omega))).symm,by have:=Hf.o;exact Fr.t⟩
      ·have hd8:decide (st ≥ 8)=false:=(by simpa using h8);go_wp2;(refine wT ?_);go_wp2_with fail;refine (HPL.o _).mono ?_;rintro e w1 ⟨rfl,rfl⟩;go_wp2;refine sT_ rfl ?_;go_wp2;go_roundw;case rel =>
        refine⟨0+1,by go_num,o_,fun j hj=>?_,by have:=Hf.o;exact Fr.t⟩;rcases Nat.lt_or_ge j (0) with h|h
        ·exact Hk.o j h
        ·obtain rfl:j=0:=o_;exact HA.o.trans (by simp ;omega)
       case measure=>simp [intOf];omega
   | succ k =>
    obtain⟨⟨u,v,su⟩,hq⟩:∃ p,l[k]?=some p:=⟨_,List.getElem?_eq_getElem o_⟩;obtain⟨g',off',he,_,e3,e4,e5⟩:=(Hl.o.fr Hf.o).cell hq;cases he;simp only at e3 e4 e5;have HA:=q_ (rgt_succ hp hq);have HOR:=q_ (before_p ⟨u,v,su⟩ ⟨x,y,st⟩);unfold Ig at HA;unfold pcV at HOR;simp only at HA HOR;generalize Ir x y=pl at HA HPL;generalize Cf ⟨u,v,su⟩ ⟨x,y,st⟩=be at HA HOR;clear hp hq;cases pl with
    | false =>go_wp2;(refine wT ?_);go_wp2_with fail;refine (HPL.o _).mono ?_;rintro e w1 ⟨rfl,rfl⟩;go_wp2;refine sT_ rfl ?_;go_wp2;go_ret;exact⟨Ag (Eb o_ (HA.o.trans (by simp ))).symm,by have:=Hf.o;exact Fr.t⟩
    | true =>
     by_cases h1:st<1;·
      have hd1:decide (st<1)=true:=(by simpa using h1);go_wp2;(refine wT ?_);go_wp2_with fail;refine (HPL.o _).mono ?_;rintro e w1 ⟨rfl,rfl⟩;go_wp2;refine sT_ rfl ?_;go_wp2;go_ret;exact⟨Ag (Eb o_ (HA.o.trans (by simp ;omega))).symm,by have:=Hf.o;exact Fr.t⟩
     ·have hd1:decide (st<1)=false:=(by simpa using h1);by_cases h8:st ≥ 8;·
       have hd8:decide (st ≥ 8)=true:=(by simpa using h8);go_wp2;(refine wT ?_);go_wp2_with fail;refine (HPL.o _).mono ?_;rintro e w1 ⟨rfl,rfl⟩;go_wp2;refine sT_ rfl ?_;go_wp2;go_ret;exact⟨Ag (Eb o_ (HA.o.trans (by simp ;omega))).symm,by have:=Hf.o;exact Fr.t⟩
      ·have hd8:decide (st ≥ 8)=false:=(by simpa using h8);cases be with
       | true =>
        go_wp2;(refine wT ?_);go_wp2_with fail;refine (HPL.o _).mono ?_;rintro e w1 ⟨rfl,rfl⟩;go_wp2_with fail;refine (HOR.o _).mono ?_;rintro e w3 ⟨rfl,hf3⟩;have Hf:=q_ (Fr.trans0 (by have:=Hf.o;exact Fr.t) hf3:Fr [] w w3);clear hf3;go_wp2;refine sT_ rfl ?_;go_wp2;go_roundw;case rel =>
         refine⟨k+1+1,by go_num,o_,fun j hj=>?_,by have:=Hf.o;exact Fr.t⟩;rcases Nat.lt_or_ge j (k+1) with h|h
         ·exact Hk.o j h
         ·obtain rfl:j=k+1:=o_;exact HA.o.trans (by simp ;omega)
        case measure=>simp [intOf];omega
       | false =>go_wp2;(refine wT ?_);go_wp2_with fail;refine (HPL.o _).mono ?_;rintro e w1 ⟨rfl,rfl⟩;go_wp2_with fail;refine (HOR.o _).mono ?_;rintro e w3 ⟨rfl,hf3⟩;have Hf:=q_ (Fr.trans0 (by have:=Hf.o;exact Fr.t) hf3:Fr [] w w3);clear hf3;go_wp2;refine sT_ rfl ?_;go_wp2;go_ret;exact⟨Ag (Eb o_ (HA.o.trans (by simp ))).symm,by have:=Hf.o;exact Fr.t⟩
  ·obtain rfl:k=l.length:=o_;by_cases h5:l.length≤5000;·
    have hd5:decide (((l.length:Nat):Int)≤5000)=true:=u_';have HT:=q_ (rgt_true h5 Hk.o);go_wp2;go_ret;exact⟨Ag HT.o.symm,Hf.o⟩
   ·have hd5:decide (((l.length:Nat):Int)≤5000)=false:=u_';have HT:=q_ (show Cn l=false by unfold Cn;rw [decide_eq_false h5,Bool.false_and]);go_wp2;go_ret;exact⟨Ag HT.o.symm,Hf.o⟩
end Go.Proofs.YtebolidfbflkmaaGreat
namespace Go.Proofs.Hp
open Go Go.RowKit
theorem Seps.join {w:World}:∀ {Qs Ps:List Res} {G F:List Nat},Seps w Qs G→Seps w Ps F→(∀ x∈G,x∉F)→Seps w (Qs++Ps) (G++F)
 | [],_,_,_,h,k,_=>by rw [show _=[] from h];exact k
 | Q::Qs,Ps,G,F,⟨G1,G2,h1,h2,h3,h4⟩,k,hd=>by
  subst h4;refine⟨G1,G2++F,h1,Seps.join h2 k fun x hx=>hd x (by simp [hx]),fun x hx hm=>?_,List.append_assoc _ _ _⟩;rw [List.mem_append] at hm;rcases hm with hm|hm
  ·exact h3 x hx hm
  ·exact hd x (by simp [hx]) hm
theorem has_join {W w w':World} {Ps Qs:List Res} (h:Has W w Ps) (k:Has w w' Qs):Has W w' (Qs++Ps):=by
 obtain⟨F,h1,h2,h3⟩:=h;obtain⟨G,k1,k2,k3⟩:=k;refine⟨G++F,Seps.join k1 (h1.keep fun x hx=>k2.block x (h1.lt x hx) i_) fun x hx hm=>?_,h2.trans0 k2,fun x hx=>?_⟩;·have:=k3 x hx;have:=h1.lt x hm;omega
 ·rw [List.mem_append] at hx;rcases hx with hx|hx
  ·have:=k3 x hx;have:=h2.size;omega
  ·exact h3 x hx
end Go.Proofs.Hp
namespace Go.Proofs.YtebolidfbflkmaaGreat
open Go Go.RowKit Rg Mp Hp Qs Ev Bn Pt
section
variable {W w:World} {b:Nat} {s:Int} {ns:List K4} {Ps:List Res}
end
end Go.Proofs.YtebolidfbflkmaaGreat
namespace Go.Proofs.Hp
open Go Go.RowKit Mp
section
variable {W w w':World} {Qs Ps:List Res}
theorem perm_erase {α:Type} {l:List α} {k:Nat} {a:α} (h:l[k]?=some a):l.Perm (a::l.eraseIdx k):=by
 induction l generalizing k with
 | nil=>cases h
 | cons b l ih =>
  cases k with
  | zero=>cases h;exact List.Perm.refl _
  | succ k=>exact ((ih (k:=k) h).cons b).trans (List.Perm.swap _ _ _)
theorem Has.vac {P:Res} (h:Has W w Ps) (hP:P.holds w []):Has W w (P::Ps):=h.new (Fr.refl [] w) hP i_
theorem Has.rowSet {T size n g cap:Nat} {xs:List Value} (h:Has W w (Hp.row T size (.slice (some ⟨g,0,none⟩) n cap) n xs::Ps)) {j:Nat} (hj:j<xs.length) (u:Value):Has W (w.setCell ⟨g,j,none⟩ u) (Hp.row T size (.slice (some ⟨g,0,none⟩) n cap) n (xs.set j u)::Ps) :=
 h.turn fun F ⟨h1,h2⟩=>⟨F,⟨G6 h1 rfl hj u,h2⟩,(Fr.refl F w).setCell (.inl (by rw [h2];simp [Value.ownBlock])) u,fun x hx=>.inl hx⟩
theorem Has.nilRow (h:Has W w Ps) (T size:Nat):Has W w (Hp.row T size (.slice none 0 0) 0 []::Ps):=h.vac ⟨World.ownsRow_nil _ _ _ _,rfl⟩
theorem Has.rowReads {T size n:Nat} {v:Value} {xs:List Value} (h:Has W w (Hp.row T size v n xs::Ps)):Reads w v n size xs:=Reads.of_owns h.row
theorem Has.appended {w9:World} {T size n n' g:Nat} {v v':Value} {xs xs':List Value} (h:Has W w (Hp.row T size v n xs::Ps)) (hown:w9.ownsRow 0 T size v' n' xs') (hv:v'.ownBlock=some g) (hf:Fr v.ownBlock.toList w w9) (hg:v.ownBlock=some g∨w.heap.size≤g):Has W w9 (Hp.row T size v' n' xs'::Ps) :=
 h.turn fun F ⟨h1,h2⟩=>⟨[g],⟨hown,by rw [hv];rfl⟩,by rw [h2];exact hf,fun x hx=>by
   simp only [List.mem_singleton] at hx
   subst hx
   rcases hg with hg|hg
   ·left;rw [h2,hg];simp
   ·right;exact hg⟩
theorem Has.blkSet {b:Nat} {cs:Array Value} {t:TypeId} (h:Has W w (Hp.blk b (.cells cs t (0,0))::Ps)) (j:Nat) (v:Value):Has W (w.setCell ⟨b,j,none⟩ v) (Hp.blk b (.cells (cs.setIfInBounds j v) t (0,0))::Ps) :=
 h.turn fun F ⟨h1,h2⟩=>⟨F,⟨Cq h1 j v,h2⟩,(Fr.refl F w).setCell (.inl (by simp [h2])) v,fun x hx=>.inl hx⟩
end
section
variable {κ ν:Type} [DecidableEq κ]
end
section
variable {W w:World} {Ps:List Res} {κ:Type} [DecidableEq κ]
end
section
variable {P:Program} {ops:Array Oper} {rest:List Oper} {o:Oper} {a:Act} {w:World} {Q:Exit→Act→World→Prop} {κ:Type} [DecidableEq κ] {f:κ→Value}
end
end Go.Proofs.Hp
namespace Go.Proofs.Hp
open Go Go.RowKit Mp
variable {W w:World}{Ps:List Res}{e size n c:Nat}{v:Value}{xs:List Value}
theorem append_has {P:Program} {ops:Array Oper} {rest:List Oper} {o:Oper} {a:Act} {Q:Exit→Act→World→Prop} (hgd:o.guard=none) {s x:Operand} {t:TypeId}
  (ho:o.op=.call { callee:=.builtin .append,args:=#[s,x],argTypes:=#[t,t] }) {z:Value} {bytes:Nat} (ht:P.underlying t=some (.slice e)) (hinfo:(P.info? e).map (fun i=>(i.zero,i.size,i.bytes))=some (some z,size,bytes))
  (hzs:z.cells.size=size) (hsz:0<size) (hs:a.eval s=v) {nb:Nat} {news:List Value} {fr:Nat×Nat} (hx:a.eval x=.slice (some ⟨nb,0,none⟩) 1 c)
  (h:Has W w (Hp.row e size v n xs::Ps)) (hnb:w.heap[nb]?=some (.cells news.toArray e fr)) (hl:news.length=size) (h1:∀ u∈news,u.oneCell'=true) (h63:n+1≤maxLen) (hbytes:(n+1)*bytes≤140737488355328)
  (hnext:∀ g cap w',Has W w' (Hp.row e size (.slice (some ⟨g,0,none⟩) (n+1) cap) (n+1) (xs++news)::Ps)→Fr v.ownBlock.toList w w'→g<w'.heap.size→wpList P ops Q rest (a.put o.dst (.slice (some ⟨g,0,none⟩) (n+1) cap)) w'):wpList P ops Q (o::rest) a w :=
 Lk hgd ho (base:=0) ht hinfo hzs hsz hs h.row hx hnb hl h1 h63 hbytes (Nat.zero_le _) fun g cap w' h2 _ h3 h4 h5 =>
  hnext g cap w' (h.appended h2 rfl h3 (by rcases h4 with h4|h4;exact .inl h4;exact .inr (Nat.le_of_eq h4.symm))) h3 h5
theorem Has.bring {Xs:List Res} (i:Nat) (h:Has W w Xs):Has W w ((Xs[i]?).toList++Xs.eraseIdx i):=by
 cases hi:Xs[i]? with
 | none =>rw [List.eraseIdx_of_length_le (by rw [List.getElem?_eq_none_iff] at hi;exact hi)];exact h
 | some P=>exact h.perm (perm_erase hi)
theorem owns_form2 {base:Nat} (h:w.ownsRow base e size v n xs):∃ a cap,v=.slice a n cap∧(a=none→n=0∧cap=0)∧∀ ad,a=some ad→∃ g,ad=⟨g,0,none⟩:=by
 rcases h.2 with ⟨h2,h0⟩|⟨g,cap,cur,hv,_⟩
 ·exact⟨none,0,by rw [h2,h0],fun _=>⟨h0,rfl⟩,i_⟩
 ·exact⟨_,cap,hv,i_,fun ad e=>⟨g,by simpa using e.symm⟩⟩
theorem Has.apart {P Q:Res} (h:Has W w (P::Q::Ps)):∃ F G,P.holds w F∧Q.holds w G∧∀ x∈F,x∉G:=by obtain⟨F,⟨F1,F2,h1,⟨G1,G2,g1,g2,g3,rfl⟩,h3,rfl⟩,hf,hge⟩:=h;exact⟨F1,G1,h1,g1,fun x hx hx'=>h3 x hx (by simp [hx'])⟩
theorem Has.br {a:Nat} {o1:Obj} {T g:Nat} (h:Has W w (Hp.blk a o1::Hp.row T size (.slice (some ⟨g,0,none⟩) n c) n xs::Ps)):a≠g:=by obtain⟨F,G,⟨_,rfl⟩,⟨_,rfl⟩,h⟩:=h.apart;rintro rfl;exact h a i_ (by simp [Value.ownBlock])
end Go.Proofs.Hp
namespace Go.Proofs.YtebolidfbflkmaaGreat
open Go Go.RowKit Rg Mp Hp Qs Ev Pt
variable {w:World}{x y:Int}
theorem Rvalid20_calls (hx:-1000≤x∧x≤1000) (hy:-1000≤y∧y≤1000) :
  Calls Tryz.prog 120 #[.int .i64 x,.int .i64 y] w fun e w'=>e=.returned (.bool true)∧w'=w:=by
 have b0:decide (x ≥ -1048576)=true:=decide_eq_true o_;have b1:decide (x≤1048576)=true:=decide_eq_true o_;have b2:decide (y ≥ -1048576)=true:=decide_eq_true o_;have b3:decide (y≤1048576)=true:=decide_eq_true o_;clear hx hy;go_enter Tryz.func120,Tryz.ntmps120;go_wp2;go_ret;exact⟨rfl,rfl⟩
variable {tmps:Array Value}{b:Nat}{w':World}
theorem box_result {fn:Func} {p u:Tmp} (h:fn.results=#[.cell p 176,.tmp u]) {x y z t v:Value} (h4:tmps.getD p undef=.pointer (some ⟨b,0,none⟩)) (hb:w'.heap[b]?=some (.cells #[x,y,z,t] 176 (0,0))) (h5:tmps.getD u undef=v) :
  (results fn tmps).run Tryz.prog w'=.ok (.tuple #[.agg #[x,y,z,t],v]) w':=by
 rw [results_cell2 h,h4];simp only [asAddr,Sem.run_pure,Result.andThen];rw [run_loadVar_row w' b _ _ _ _ _ hb Tryz.underlying176 rfl k_];simp only [h5]
structure BoxOk (B:Int) (p:List PC) (b:Bx):Prop where
 low:-B≤b.x∧b.x+b.w≤B∧-B≤b.y∧b.y+b.h≤B
 all:∀ c∈p,b.x≤c.x∧c.x<b.x+b.w∧b.y≤c.y∧c.y<b.y+b.h
variable {B:Int}{p:List PC}
theorem BoxOk.hold {b:Bx} (h:BoxOk B p b):Ln b (Bl p):=fun x y hn=>Pu fun c hc he=>hn (by have:=h.all c hc;omega)
def BoxPost (w:World) (B:Int) (p:List PC) (e:Ending) (w':World):Prop :=
 ∃ (b:Bx) (ok:Bool),e=.returned (.tuple #[.agg #[.int .i64 b.x,.int .i64 b.y,.int .i64 (b.w:Int),.int .i64 (b.h:Int)],.bool ok])∧BoxOk B p b∧Fr [] w w'
variable {a:Option Addr}{c:Nat}
theorem RBox_calls (hl:CellsAt w (.slice a p.length c) p) (hr:Cn p=true) (hB:0≤B∧B≤1000) (hw:Wi B p) :
  Calls Tryz.prog 140 #[.slice a p.length c] w (BoxPost w B p):=by
 have HL:=q_ hl;have HW:=q_ hw;have hlen:=(Cx hr).1;have HRR:=q_ (fun w' (hf:Fr [] w w')=>RRight_p (hl.fr hf) o_);rw [hr] at HRR;have H0:=q_ ((Has.nil (Fr.refl [] w)).newBlk (.cells #[.int .i64 0,.int .i64 0,.int .i64 0,.int .i64 0] 176 (0,0)));obtain⟨m,hm⟩:∃ m,p.length=m:=⟨_,rfl⟩;rw [hm] at hlen HRR ⊢;have HM:=q_ hm;clear hl hw hr hm;by_cases hm0:m=0;·
  subst hm0;have hb:=H0.o.blk;obtain⟨v0,v1,v2,v3⟩:=e4_ hb;have z0:=hEF hb 0;have z1:=hEF hb 1;have z2:=hEF hb 2;have z3:=hEF hb 3;have vl:=lBk hb;clear hb;go_enter Tryz.func140,Tryz.ntmps140;go_wp2;(try simp only [Exit.inBlock,Exit.then]);have h5:=H0.o;refine bodyPost_ret (box_result rfl (b:=w.heap.size) (x:=.int .i64 0) (y:=.int .i64 0) (z:=.int .i64 0) (t:=.int .i64 0) rfl ?_ rfl) rfl ⟨⟨0,0,0,0⟩,false,rfl,⟨by simp;omega,fun c hc=>?_⟩,?_⟩;·exact (h5.step (Fr.t)).blk
  ·rw [List.length_eq_zero_iff.1 HM.o] at hc;cases hc
  ·exact (h5.step (Fr.t)).fr
 ·go_enter Tryz.func140,Tryz.ntmps140;go_wp2_with fail;refine (HRR.o _ (Fr.t)).mono ?_;rintro e w1 ⟨rfl,hf1⟩;have h1:=H0.o.step (Fr.trans0 (Fr.t) hf1);obtain⟨fb,hfb⟩:∃ b,w.heap.size=b:=⟨_,rfl⟩;rw [hfb] at h1 ⊢;have H1:=q_ h1;clear h1 hfb hf1 HRR H0;obtain⟨⟨x0,y0,s0⟩,hp0⟩:∃ c,p[0]?=some c:=⟨_,List.getElem?_eq_getElem (by rw [HM.o];omega)⟩;have hw0:=HW.o _ (List.mem_of_getElem? hp0);have hL:=HL.o.fr H1.o.fr;rw [HM.o] at hL;obtain⟨g,off,rfl,hg,e0,e1,e2⟩:=CellsAt.cell hL hp0;simp only [Nat.zero_mul,Nat.add_zero] at e0 e1 e2 hw0;clear hL hp0;go_wp2;(refine wT ?_);go_wp2;refine sT_ rfl ?_;go_wp2;clear e0 e1 e2;go_loopg [4,5,6,7,8] m (fun gg z4 z5 z6 z7 z8 wr=>∃ (i:Nat) (lx ly rx ry:Int),i≤m∧m - i≤gg∧z8=.int .i64 (i:Int)∧z4=.int .i64 lx∧z5=.int .i64 ly∧z6=.int .i64 rx∧z7=.int .i64 ry∧-B≤lx∧lx≤rx∧rx<B∧-B≤ly∧ly≤ry∧ry<B∧Hid (∀ d∈p.take i,lx≤d.x∧d.x≤rx∧ly≤d.y∧d.y≤ry)∧Hid (Has w wr [Hp.blk fb (.cells #[.int .i64 0,.int .i64 0,.int .i64 0,.int .i64 0] 176 (0,0))]));case atStart=>exact⟨0,x0,y0,x0,y0,Nat.zero_le _,o_,rfl,rfl,rfl,rfl,rfl,hw0.1,Int.le_refl _,hw0.2.1,hw0.2.2.1,Int.le_refl _,hw0.2.2.2,q_ i_,q_ (H1.o.step (Fr.t))⟩
  case round =>
   obtain⟨i,lx,ly,rx,ry,hi,hgg,rfl,rfl,rfl,rfl,rfl,hx1,hx2,hx3,hy1,hy2,hy3,HA,HH⟩:=hrel;clear H1;by_cases hin:i<m;·
    obtain⟨⟨cx,cy,st⟩,hp⟩:∃ c,p[i]?=some c:=⟨_,List.getElem?_eq_getElem (by rw [HM.o];exact hin)⟩;have hwc:=HW.o _ (List.mem_of_getElem? hp);simp only at hwc;have hL:=HL.o.fr HH.o.fr;rw [HM.o] at hL;obtain⟨g',off',hge,hg',e0,e1,e2⟩:=CellsAt.cell hL hp;cases hge;simp only at e0 e1 e2;have htk:p.take (i+1)=p.take i++[⟨cx,cy,st⟩]:=(by rw [List.take_add_one,hp];rfl);have HTK:=q_ htk;clear hL hp htk;go_wp2;go_roundg (m - (i+1));case measure=>omega
    case rel =>
     refine⟨i+1,min lx cx,min ly cy,max rx cx,max ry cy,hin,Nat.le_refl _,i_,rfl,rfl,rfl,rfl,o_,o_,o_,o_,o_,o_,q_ (fun d hd=>?_),q_ (HH.o.step (Fr.t))⟩;rw [HTK.o] at hd;rcases List.mem_append.1 hd with hd|hd
     ·have:=HA.o d hd;omega
     ·simp at hd;rw [hd];simp only;omega
   ·obtain rfl:m=i:=o_;have h2:=HA.o;rw [List.take_of_length_le (by rw [HM.o];exact Nat.le_refl _)] at h2;have HB:=q_ h2;have hb:=HH.o.blk;obtain⟨v0,v1,v2,v3⟩:=e4_ hb;have z0:=hEF hb 0;have z1:=hEF hb 1;have z2:=hEF hb 2;have z3:=hEF hb 3;have vl:=lBk hb;obtain⟨bw,hbw⟩:∃ n:Nat,rx - lx+1=n:=⟨(rx - lx+1).toNat,o_⟩;obtain⟨bh,hbh⟩:∃ n:Nat,ry - ly+1=n:=⟨(ry - ly+1).toNat,o_⟩;clear h2 HA hb;go_wp2;(try simp only [Exit.inBlock,Exit.then]);(try rw [hbw]);(try rw [hbh]);have h5:=((((HH.o.blkSet 0 (.int .i64 lx)).blkSet 1 (.int .i64 ly)).blkSet 2 (.int .i64 (bw:Int))).blkSet 3 (.int .i64 (bh:Int)));refine bodyPost_ret (box_result rfl (b:=fb) (x:=.int .i64 lx) (y:=.int .i64 ly) (z:=.int .i64 (bw:Int)) (t:=.int .i64 (bh:Int)) rfl ?_ rfl) rfl ⟨⟨lx,ly,bw,bh⟩,true,rfl,⟨by simp only;omega,fun c hc=>?_⟩,?_⟩;·exact (h5.step (Fr.t)).blk
    ·have:=HB.o c hc;simp only;omega
    ·exact (h5.step (Fr.t)).fr
def arrA (F:Fld) (b:Bx):List Int:=(List.range (b.w*b.h)).map fun k=>F (b.x+((k % b.w:Nat):Int)) (b.y+((k / b.w:Nat):Int))
theorem arr_len (F:Fld) (b:Bx):(arrA F b).length=b.w*b.h:=by simp [arrA]
variable {u v:Nat}
theorem arr_ix {b:Bx} (hu:u<b.w) (hv:v<b.h):v*b.w+u<b.w*b.h∧(v*b.w+u) % b.w=u∧(v*b.w+u) / b.w=v:=by
 have h1:(v+1)*b.w≤b.h*b.w:=Nat.mul_le_mul_right _ o_;rw [Nat.add_mul,Nat.mul_comm b.h b.w] at h1;refine⟨o_,?_,?_⟩;·rw [Nat.mul_comm,Nat.mul_add_mod,Nat.mod_eq_of_lt hu]
 ·rw [Nat.mul_comm,Nat.mul_add_div o_,Nat.div_eq_of_lt hu,Nat.add_zero]
variable {F:Fld}
theorem arr_at {b:Bx} {k:Nat} (hk:k<b.w*b.h):(arrA F b)[k]?=some (F (b.x+((k % b.w:Nat):Int)) (b.y+((k / b.w:Nat):Int))):=by unfold arrA;rw [List.getElem?_map,List.getElem?_range hk];rfl
theorem arr_get {b:Bx} (hu:u<b.w) (hv:v<b.h):(arrA F b)[v*b.w+u]?=some (F (b.x+u) (b.y+v)):=by obtain⟨h1,h2,h3⟩:=arr_ix hu hv;rw [arr_at h1,h2,h3]
theorem arr_set {G:Fld} {b:Bx} {s:Int} (hu:u<b.w) (hv:v<b.h) (hG:∀ x y,G x y=if b.x+(u:Int)=x∧b.y+(v:Int)=y then s else F x y):(arrA F b).set (v*b.w+u) s=arrA G b:=by
 obtain⟨h1,h2,h3⟩:=arr_ix hu hv;apply List.ext_getElem?;intro k;by_cases hk:k<b.w*b.h;·
  by_cases e:v*b.w+u=k;·
   subst e;rw [List.getElem?_set_self (by rw [arr_len];exact hk),arr_at hk,h2,h3,hG,if_pos ⟨rfl,rfl⟩]
  ·rw [List.getElem?_set_ne e,arr_at hk,arr_at hk,hG,if_neg];rintro⟨ha,hb⟩;have hm:=Nat.div_add_mod k b.w;have h4:k % b.w=u:=o_;have h5:k / b.w=v:=o_;rw [h4,h5,Nat.mul_comm] at hm;exact e hm
 ·rw [List.getElem?_eq_none (by rw [List.length_set,arr_len];omega),List.getElem?_eq_none (by rw [arr_len];omega)]
theorem arr_zero (b:Bx):arrA (Bl []) b=List.replicate (b.w*b.h) 0:=by rw [List.eq_replicate_iff];refine⟨arr_len _ _,fun x hx=>?_⟩;obtain⟨k,_,rfl⟩:=List.mem_map.1 hx;rfl
def PatSrc (W:World) (Ps:List Res) (a:Option Addr) (c:Nat) (p:List PC):Prop:=∀ w Qs,Has W w Qs→(∀ P∈Ps,P∈Qs)→CellsAt w (.slice a p.length c) p
variable {W:World}{Ps:List Res}
theorem PatSrc.base (h:CellsAt W (.slice a p.length c) p):PatSrc W Ps a c p:=fun w Qs hw _=>h.fr hw.fr
theorem PatSrc.more {Rs:List Res} (h:PatSrc W Ps a c p) (hs:∀ P∈Ps,P∈Rs):PatSrc W Rs a c p:=fun w Qs hw hP=>h w Qs hw fun P hp=>hP P (hs P hp)
theorem has_mem3 {P:Res} (h:Has W w Ps) (hp:P∈Ps):∃ Qs,Has W w (P::Qs):=by obtain⟨q1,q2,rfl⟩:=List.append_of_mem hp;exact⟨q1++q2,h.perm List.perm_middle⟩
theorem PatSrc.row {W:World} {Ps:List Res} {a:Option Addr} {c n:Nat} {p:List PC} (hn:p.length=n) (hm:Hp.row 41 3 (.slice a n c) n (pcs p)∈Ps):PatSrc W Ps a c p:=fun w Qs hw hP=>by subst hn;obtain⟨Q,h1⟩:=has_mem3 hw (hP _ hm);exact h1.rowReads
def fieldV (b:Bx) (ca:Option Addr) (n:Nat) (la:Option Addr) (m c:Nat):Value:=.agg #[.bool true,.int .i64 b.x,.int .i64 b.y,.int .i64 (b.w:Int),.int .i64 (b.h:Int),.slice ca n n,.slice la m c]
theorem field_result {fn:Func} {p:Tmp} (h:fn.results=#[.cell p 178]) {x0 x1 x2 x3 x4 x5 x6:Value} (h4:tmps.getD p undef=.pointer (some ⟨b,0,none⟩)) (hb:w'.heap[b]?=some (.cells #[x0,x1,x2,x3,x4,x5,x6] 178 (0,0))) :
  (results fn tmps).run Tryz.prog w'=.ok (.agg #[x0,x1,x2,x3,x4,x5,x6]) w':=by
 rw [Et h,h4];simp only [asAddr,Sem.run_pure,Result.andThen];rw [run_loadVar_row w' b _ _ _ _ _ hb Tryz.underlying178 rfl k_]
def StatesPost (W:World) (Ps:List Res) (B:Int) (p:List PC) (a:Option Addr) (c:Nat) (e:Ending) (w':World):Prop :=
 ∃ (b:Bx) (cb:Nat),e=.returned (fieldV b (some ⟨cb,0,none⟩) (b.w*b.h) a p.length c)∧BoxOk B p b∧Has W w' (Hp.row 3 1 (.slice (some ⟨cb,0,none⟩) (b.w*b.h) (b.w*b.h)) (b.w*b.h) (iv (arrA (Bl p) b))::Ps)
theorem RStates_calls (h:Has W w Ps) (hl:PatSrc W Ps a c p) (hr:Cn p=true) (hB:0≤B∧B≤100) (hw:Wi B p) :
  Calls Tryz.prog 117 #[.slice a p.length c] w (StatesPost W Ps B p a c):=by
 have HL:=q_ hl;have HR:=q_ (Cx hr);have H0:=q_ (h.newBlk (.cells #[.bool false,.int .i64 0,.int .i64 0,.int .i64 0,.int .i64 0,.slice none 0 0,.slice none 0 0] 178 (0,0)));have hBX:=fun w' (hf:Fr [] w w')=>RBox_calls ((hl w' Ps (h.step hf) fun P hP=>hP)) hr (B:=B) o_ hw;obtain⟨m,hm⟩:∃ m,p.length=m:=⟨_,rfl⟩;rw [hm] at hBX ⊢;have HBX:=q_ hBX;have HM:=q_ hm;have HM5:=q_ (show m≤5000 from by rw [← hm];exact HR.o.1);clear h hl hw hr hm hBX;go_enter Tryz.func117,Tryz.ntmps117;go_wp2_with fail;refine (HBX.o _ (Fr.t)).mono ?_;rintro e w1 ⟨b,ok,rfl,hbo,hf1⟩;obtain⟨bx,by',bw,bh⟩:=b;have h1:=H0.o.step (Fr.trans0 (Fr.t) hf1);obtain⟨rb,hrb⟩:∃ b,w.heap.size=b:=⟨_,rfl⟩;rw [hrb] at h1 ⊢;have h2:=(h1.newBlk (.cells #[.int .i64 bx,.int .i64 by',.int .i64 (bw:Int),.int .i64 (bh:Int)] 176 (0,0))).newBlk (.cells #[.bool true,.int .i64 bx,.int .i64 by',.int .i64 (bw:Int),.int .i64 (bh:Int),.slice none 0 0,.slice a m c] 178 (0,0));have hlow:=hbo.low;simp only at hlow;have hw200:bw≤200:=o_
 have hh200:bh≤200:=o_
 have hmul:bw*bh≤200*200:=Nat.mul_le_mul hw200 hh200;obtain⟨n,hn⟩:∃ n,bw*bh=n:=⟨_,rfl⟩;rw [hn] at hmul;have hni:(bw:Int)*(bh:Int)=(n:Int):=by rw [← hn];simp
 have hnw:wrap64 (n:Int)=(n:Int):=by unfold wrap64;omega
 have HNW:=q_ hnw;have hnd:decide ((n:Int)≤40000)=true:=decide_eq_true o_;have HBO:=q_ hbo;have HNN:=q_ hn;have H2:=q_ h2;have hmaxl:(40000:Nat)≤maxLen:=by decide
 have hlm:n≤maxLen:=o_
 have hn4:n≤40000:=o_
 clear hbo hf1 h1 h2 hrb H0 HBX hmaxl hn hmul;go_wp2_with (refine Dt (n:=n) (z:=.int .i64 0) (bytes:=8) (e:=3) rfl rfl (by first|rfl|exact congrArg (Value.int .i64) HNW.o) (by first|rfl|exact congrArg (Value.int .i64) HNW.o) Tryz.underlying72 k_ rfl o_ hlm ?_);intro w3 hrow3 hf3 hs3;have h3:=H2.o.newRow hf3 (by simp only [hAz];exact hrow3);simp only [hAz] at h3;obtain⟨xb,hxb⟩:∃ b,w1.heap.size=b:=⟨_,rfl⟩;rw [hxb] at h3 ⊢;obtain⟨fb,hfb⟩:∃ b,xb+1=b:=⟨_,rfl⟩;rw [hfb] at h3 ⊢;obtain⟨cb,hcb⟩:∃ b,fb+1=b:=⟨_,rfl⟩;rw [hcb] at h3 ⊢;have hb:=(h3.bring 1).blk;have v5:=hEC hb 5;have z5:=hEF hb 5;have vl:=lBk hb;have H3:=q_ h3;clear h3 hrow3 hf3 hs3 hxb hfb hcb hb H2 hlm;go_wp2;have h4:=((H3.o.bring 1).blkSet 5 (.slice (some ⟨cb,0,none⟩) n n)).ord 2 [1,0];simp only [List.filterMap_cons,List.filterMap_nil,List.getElem?_cons_zero,List.getElem?_cons_succ,List.drop_succ_cons,List.drop_zero,List.cons_append,List.nil_append,List.take_succ_cons,List.take_zero,List.eraseIdx_cons_succ,List.eraseIdx_zero,List.eraseIdx_cons_zero,List.tail_cons,Option.toList_some] at h4;have H4:=q_ h4;clear h4 H3 v5 z5 vl;go_loopg [6] m (fun gg z wr=>∃ i:Nat,i≤m∧m - i≤gg∧z=.int .i64 (i:Int)∧Hid (Has W wr (Hp.row 3 1 (.slice (some ⟨cb,0,none⟩) n n) n (iv (arrA (Bl (p.take i)) ⟨bx,by',bw,bh⟩))::Hp.blk fb (.cells #[.bool true,.int .i64 bx,.int .i64 by',.int .i64 (bw:Int),.int .i64 (bh:Int),.slice (some ⟨cb,0,none⟩) n n,.slice a m c] 178 (0,0))::Hp.blk xb (.cells #[.int .i64 bx,.int .i64 by',.int .i64 (bw:Int),.int .i64 (bh:Int)] 176 (0,0))::Hp.blk rb (.cells #[.bool false,.int .i64 0,.int .i64 0,.int .i64 0,.int .i64 0,.slice none 0 0,.slice none 0 0] 178 (0,0))::Ps)));case atStart =>
  refine⟨0,Nat.zero_le _,o_,rfl,q_ ?_⟩;rw [List.take_zero,arr_zero,← iv_replicate];simp only [HNN.o];exact H4.o.step (Fr.t)
 case round =>
  obtain⟨i,hi,hg,rfl,HH⟩:=hrel;clear H4;have hb:=(HH.o.bring 1).blk;obtain⟨v0,v1,v2,v3,v4,v5,v6,vl⟩:=l7_ hb;have hb:=(HH.o.bring 2).blk;obtain⟨x0,x1,x2,x3,xl⟩:=l4_ hb;clear hb;by_cases hin:i<m;·
   obtain⟨⟨cx,cy,st⟩,hp⟩:∃ c,p[i]?=some c:=⟨_,List.getElem?_eq_getElem (by rw [HM.o];exact hin)⟩;have hca:=HBO.o.all _ (List.mem_of_getElem? hp);simp only at hca;obtain⟨u,rfl⟩:∃ u:Nat,cx=bx+u:=⟨(cx - bx).toNat,o_⟩;obtain⟨v,rfl⟩:∃ v:Nat,cy=by'+v:=⟨(cy - by').toNat,o_⟩;have hu:u<bw:=o_;have hv:v<bh:=o_;have hL:=HL.o _ _ HH.o (fun P hP=>by simp [hP]);rw [HM.o] at hL;obtain⟨g,off,rfl,hg8,e0,e1,e2⟩:=CellsAt.cell hL hp;simp only at e0 e1 e2;obtain⟨hk1,_,_⟩:=arr_ix (b:=⟨bx,by',bw,bh⟩) hu hv;simp only at hk1;rw [HNN.o] at hk1;obtain⟨k,hk⟩:∃ k,v*bw+u=k:=⟨_,rfl⟩;rw [hk] at hk1;have hr:=HH.o.row;have hlen:(iv (arrA (Bl (p.take i)) ⟨bx,by',bw,bh⟩)).length=n:=(by rw [iv_length,arr_len];exact HNN.o);obtain⟨y,hy⟩:∃ y,(iv (arrA (Bl (p.take i)) ⟨bx,by',bw,bh⟩))[k]?=some y:=⟨_,List.getElem?_eq_getElem o_⟩;have r0:=An hr rfl hy;have rz:=Bo hr rfl k;have rl:=oLT hr rfl;have hset:=Has.rowSet (j:=k) HH.o o_ (.int .i64 st);have hst:(arrA (Bl (p.take i)) ⟨bx,by',bw,bh⟩).set k st=arrA (Bl (p.take (i+1))) ⟨bx,by',bw,bh⟩:=by rw [← hk];refine arr_set hu hv fun x y=>?_;rw [List.take_add_one,hp];refine fld_snoc (fun d hd he=>?_) x y;have hdm:d∈p:=List.mem_of_mem_take hd;obtain⟨j,hj,rfl⟩:=List.getElem_of_mem hd;rw [List.length_take] at hj;have hpp:=List.pairwise_iff_getElem.1 (C6 HR.o.2.2) j i o_ (by rw [HM.o];exact hin) o_;have e9:p[i]'(by rw [HM.o];exact hin)=⟨bx+u,by'+v,st⟩:=Option.some.inj ((List.getElem?_eq_getElem _).symm.trans hp);rw [e9] at hpp;simp only [List.getElem_take] at he;simp only [Cf,decide_eq_true_eq] at hpp;omega
   rw [Us,hst] at hset;have HS:=q_ hset;have hwi:wrap64 ((i:Int)+1)=(i:Int)+1:=(by have:=HM5.o;unfold wrap64;omega);have q1:by'+(v:Int) - by'=(v:Int):=o_;have hvw:v*bw≤200*200:=Nat.mul_le_mul o_ hw200;obtain⟨t,ht⟩:∃ t,v*bw=t:=⟨_,rfl⟩;have q2:(v:Int)*(bw:Int)=(t:Int):=(by rw [← ht];simp);rw [ht] at hk hvw;have q3:(t:Int)+(bx+(u:Int)) - bx=(k:Int):=o_;clear hL hp hr hlen hy hset hst HH hca ht;go_wp2;(refine wT ?_);go_wp2;refine sT_ rfl ?_;go_wp2;clear q1 q2 q3 hvw hk hk1 hu hv hw200 hh200 hn4 hnw hnd hni hlow hB e0 e1 e2 r0 rz rl v0 v1 v2 v3 v4 v5 v6 vl x0 x1 x2 x3 xl hg8;go_roundg (m - (i+1));case measure=>exact Nat.lt_of_lt_of_le (Nat.sub_succ_lt_self _ _ hin) hg
   case rel=>exact⟨i+1,hin,Nat.le_refl _,by simpa using hwi,q_ (HS.o.step (Fr.t))⟩
  ·obtain rfl:m=i:=o_;have h5:=HH.o;rw [List.take_of_length_le (by rw [HM.o];exact Nat.le_refl _)] at h5;have H5:=q_ h5;have hb:=(h5.bring 3).blk;have w0:=hEC hb 0;have w1':=hEC hb 1;have w2':=hEC hb 2;have w3':=hEC hb 3;have w4':=hEC hb 4;have w5':=hEC hb 5;have w6':=hEC hb 6;have y0:=hEF hb 0;have y1:=hEF hb 1;have y2:=hEF hb 2;have y3:=hEF hb 3;have y4:=hEF hb 4;have y5:=hEF hb 5;have y6:=hEF hb 6;have yl:=lBk hb;clear h5 HH hb x0 x1 x2 x3 xl;go_wp2;(try simp only [Exit.inBlock,Exit.then]);have h6:=(((((((H5.o.bring 3).blkSet 0 (.bool true)).blkSet 1 (.int .i64 bx)).blkSet 2 (.int .i64 by')).blkSet 3 (.int .i64 (bw:Int))).blkSet 4 (.int .i64 (bh:Int))).blkSet 5 (.slice (some ⟨cb,0,none⟩) n n)).blkSet 6 (.slice a m c);refine bodyPost_ret (field_result rfl (b:=rb) (x0:=.bool true) (x1:=.int .i64 bx) (x2:=.int .i64 by') (x3:=.int .i64 (bw:Int)) (x4:=.int .i64 (bh:Int)) (x5:=.slice (some ⟨cb,0,none⟩) n n) (x6:=.slice a m c) rfl ?_) rfl ⟨⟨bx,by',bw,bh⟩,cb,?_,HBO.o,?_⟩;·exact (h6.step (Fr.t)).blk
   ·unfold fieldV;simp only [HNN.o,HM.o]
   ·simp only [HNN.o];exact (h6.ord 4 [1]).step (Fr.t)
variable {cb:Nat}{la:Option Addr}
theorem RAt_calls {b:Bx} (hh:Ln b F) (hlow:-100≤b.x∧b.x+b.w≤100∧-100≤b.y∧b.y+b.h≤100) (hc:IntsAt w (.slice (some ⟨cb,0,none⟩) (b.w*b.h) (b.w*b.h)) (arrA F b)) {m:Nat} (hx:-1000≤x∧x≤1000) (hy:-1000≤y∧y≤1000) :
  Calls Tryz.prog 142 #[fieldV b (some ⟨cb,0,none⟩) (b.w*b.h) la m c,.int .i64 x,.int .i64 y] w fun e w'=>e=.returned (.int .i64 (F x y))∧Fr [] w w':=by
 obtain⟨bx,by',bw,bh⟩:=b;simp only at hlow;unfold fieldV;obtain⟨n,hn⟩:∃ n,bw*bh=n:=⟨_,rfl⟩;simp only at hc ⊢;rw [hn] at hc ⊢;have H0:=q_ ((Has.nil (Fr.refl [] w)).newBlk (.cells #[.bool true,.int .i64 bx,.int .i64 by',.int .i64 (bw:Int),.int .i64 (bh:Int),.slice (some ⟨cb,0,none⟩) n n,.slice la m c] 178 (0,0)));have hb:=H0.o.blk;obtain⟨v0,v1,v2,v3,v4,v5,vl⟩:=l6_ hb;clear hb;have HH:=q_ hh;have HC:=q_ hc;have HN:=q_ hn;clear hh hc hn;by_cases h1:x<bx;·
  have HF:=q_ (HH.o x y (by simp only;omega));go_enter Tryz.func142,Tryz.ntmps142;go_wp2;go_ret;exact⟨by rw [HF.o];rfl,(H0.o.step (Fr.t)).fr⟩
 by_cases h2:bx+(bw:Int)≤x;·
  have HF:=q_ (HH.o x y (by simp only;omega));go_enter Tryz.func142,Tryz.ntmps142;go_wp2;go_ret;exact⟨by rw [HF.o];rfl,(H0.o.step (Fr.t)).fr⟩
 by_cases h3:y<by';·
  have HF:=q_ (HH.o x y (by simp only;omega));go_enter Tryz.func142,Tryz.ntmps142;go_wp2;go_ret;exact⟨by rw [HF.o];rfl,(H0.o.step (Fr.t)).fr⟩
 by_cases h4:by'+(bh:Int)≤y;·
  have HF:=q_ (HH.o x y (by simp only;omega));go_enter Tryz.func142,Tryz.ntmps142;go_wp2;go_ret;exact⟨by rw [HF.o];rfl,(H0.o.step (Fr.t)).fr⟩
 obtain⟨u,rfl⟩:∃ u:Nat,x=bx+u:=⟨(x - bx).toNat,o_⟩;obtain⟨v,rfl⟩:∃ v:Nat,y=by'+v:=⟨(y - by').toNat,o_⟩;have hu:u<bw:=o_
 have hv:v<bh:=o_
 have hg:=arr_get (F:=F) (b:=⟨bx,by',bw,bh⟩) hu hv;obtain⟨hk1,_,_⟩:=arr_ix (b:=⟨bx,by',bw,bh⟩) hu hv;simp only at hg hk1;rw [HN.o] at hk1;have hw200:bw≤200:=o_
 have hvw:v*bw≤200*200:=Nat.mul_le_mul o_ hw200;obtain⟨t,ht⟩:∃ t,v*bw=t:=⟨_,rfl⟩;rw [ht] at hg hk1 hvw;obtain⟨k,hk⟩:∃ k,t+u=k:=⟨_,rfl⟩;rw [hk] at hg hk1;have q1:by'+(v:Int) - by'=(v:Int):=o_
 have q2:(v:Int)*(bw:Int)=(t:Int):=by rw [← ht];simp
 have q3:(t:Int)+(bx+(u:Int)) - bx=(k:Int):=o_
 obtain⟨g,off,he,hgl,hcell⟩:=IntsAt.cell (HC.o.fr (show Fr [] w _ from H0.o.fr)) hg;cases he;rw [Nat.zero_add] at hcell;obtain⟨z,hz⟩:∃ z,F (bx+u) (by'+v)=z:=⟨_,rfl⟩;rw [hz] at hcell ⊢;have HB:=q_ hlow;clear hg ht hk hz HN HC HH;go_enter Tryz.func142,Tryz.ntmps142;go_wp2;go_ret;exact⟨rfl,(H0.o.step (Fr.t)).fr⟩
variable {r:Rule}
theorem hood_two (h:Ar r=true) {q:Int×Int} (hq:q∈r.hood):-2≤q.1∧q.1≤2∧-2≤q.2∧q.2≤2:=by have:=Fp (Cy h) hq;have:=Aa r.hood;omega
def hoodV (F:Fld) (x y:Int) (l:List (Int×Int)):List Int:=l.map fun q=>F (x+q.1) (y+q.2)
variable {lm lc:Nat}
theorem RNext20_calls (h:Has W w Ps) {ha na:Option Addr} {hc nc:Nat} (hR:Ar r=true) (hsrc:RuleSrc W (.slice ha r.hood.length hc) (.slice na r.nodes.length nc) r Ps)
  {b:Bx} (hh:Ln b F) (hlow:-100≤b.x∧b.x+b.w≤100∧-100≤b.y∧b.y+b.h≤100) (hm:Hp.row 3 1 (.slice (some ⟨cb,0,none⟩) (b.w*b.h) (b.w*b.h)) (b.w*b.h) (iv (arrA F b))∈Ps) (hF:∀ x y,0≤F x y∧F x y<r.S) (hx:-200≤x∧x≤200) (hy:-200≤y∧y≤200) :
  Calls Tryz.prog 119 #[.agg #[.int .i64 r.S,.slice ha r.hood.length hc,.slice na r.nodes.length nc],fieldV b (some ⟨cb,0,none⟩) (b.w*b.h) la lm lc,.int .i64 x,.int .i64 y] w fun e w'=>e=.returned (.int .i64 (gen r F x y))∧Has W w' Ps:=by
 have hhl:=G3 hR;have HR:=q_ hR;have HSRC:=q_ hsrc;have HF:=q_ hF;have hcells:∀ w',Has W w' Ps→IntsAt w' (.slice (some ⟨cb,0,none⟩) (b.w*b.h) (b.w*b.h)) (arrA F b):=fun w' hw=>by obtain⟨Q,h1⟩:=has_mem3 hw hm;have:=h1.rowReads;unfold IntsAt;rw [arr_len];exact this
 have HAT:=q_ (fun (w':World) (x y:Int) (hw:Has W w' Ps) (hx:-1000≤x∧x≤1000) (hy:-1000≤y∧y≤1000)=>RAt_calls (w:=w') hh hlow (hcells w' hw) (la:=la) (m:=lm) (c:=lc) hx hy);obtain⟨bx,by',bw,bh⟩:=b;unfold fieldV at HAT ⊢;obtain⟨n,hn⟩:∃ n,bw*bh=n:=⟨_,rfl⟩;simp only at HAT ⊢;rw [hn] at HAT ⊢;have h1:=(h.newBlk (.cells #[.int .i64 r.S,.slice ha r.hood.length hc,.slice na r.nodes.length nc] 25 (0,0))).newBlk (.cells #[.bool true,.int .i64 bx,.int .i64 by',.int .i64 (bw:Int),.int .i64 (bh:Int),.slice (some ⟨cb,0,none⟩) n n,.slice la lm lc] 178 (0,0));simp only [hAz] at h1;have H1:=q_ (h1.nilRow 3 1);obtain⟨m,hml⟩:∃ m,r.hood.length=m:=⟨_,rfl⟩;rw [hml] at hhl H1 HSRC ⊢;have HML:=q_ hml;clear h hR hsrc hh hlow hm hF hcells hn h1 hml;go_enter Tryz.func119,Tryz.ntmps119;go_wp2;go_loopg [9,10] m (fun gg z9 z10 wr=>∃ (i:Nat) (va:Option Addr) (vc:Nat),i≤m∧m - i≤gg∧z10=.int .i64 (i:Int)∧z9=.slice va i vc∧Hid (Has W wr (Hp.row 3 1 (.slice va i vc) i (iv (hoodV F x y (r.hood.take i)))::Hp.blk (w.heap.size+1) (.cells #[.bool true,.int .i64 bx,.int .i64 by',.int .i64 (bw:Int),.int .i64 (bh:Int),.slice (some ⟨cb,0,none⟩) n n,.slice la lm lc] 178 (0,0))::Hp.blk w.heap.size (.cells #[.int .i64 r.S,.slice ha m hc,.slice na r.nodes.length nc] 25 (0,0))::Ps)));case atStart=>exact⟨0,none,0,Nat.zero_le _,o_,rfl,rfl,q_ (by rw [List.take_zero];exact H1.o.step (Fr.t))⟩
 case round =>
  obtain⟨i,va,vc,hi,hg,rfl,rfl,HH⟩:=hrel;clear H1;have hb:=(HH.o.bring 1).blk;obtain⟨v0,v1,v2,v3,v4,v5,v6,vl⟩:=l7_ hb;have hb:=(HH.o.bring 2).blk;obtain⟨x0,x1,x2,xl⟩:=l3_ hb;clear hb;by_cases hin:i<m;·
   obtain⟨⟨qx,qy⟩,hq⟩:∃ q,r.hood[i]?=some q:=⟨_,List.getElem?_eq_getElem (by rw [HML.o];exact hin)⟩;have hq2:=hood_two HR.o (List.mem_of_getElem? hq);simp only at hq2;have hru:=(HSRC.o _ _ HH.o (fun P hP=>by simp [hP])).1;obtain⟨g,off,rfl,hgl,e0,e1⟩:=PtsAt.cell hru hq;simp only at e0 e1;have hnx:iv (hoodV F x y (r.hood.take (i+1)))=iv (hoodV F x y (r.hood.take i))++[.int .i64 (F (x+qx) (y+qy))]:=by rw [List.take_add_one,hq];simp [hoodV,iv]
   have HNX:=q_ hnx;have hmaxl:(30:Nat)≤maxLen:=(by decide);have HLL:=q_ (show i+1≤maxLen∧(i+1)*8≤140737488355328 from by omega);have HAQ:=q_ (fun w' (hf:Fr [] wr w')=>HAT.o w' (x+qx) (y+qy) ((HH.o.step hf).drop.drop.drop) o_ o_);clear hq hru hnx hmaxl;go_wp2;(refine wT ?_);go_wp2_with fail;refine (HAQ.o _ (Fr.t)).mono ?_;rintro e w3 ⟨rfl,hf3⟩;have H3:=q_ (HH.o.step (Fr.trans0 (Fr.t) hf3));clear hf3 HAQ HH v0 v1 v2 v3 v4 v5 v6 vl x0 x1 x2 xl e0 e1 hgl;go_wp2_with (at_builtin;refine append_has (W:=W) (size:=1) (bytes:=8) (z:=.int .i64 0) (e:=3) (n:=i) (xs:=iv (hoodV F x y (r.hood.take i))) (news:=[.int .i64 (F (x+qx) (y+qy))]) rfl rfl Tryz.underlying72 k_ rfl (by decide) rfl rfl (H3.o.step (Fr.t)) hpT rfl (by simp [Value.oneCell']) HLL.o.1 HLL.o.2 ?_);intro g2 cap2 w5 h5 hf5 hg5;rw [← HNX.o] at h5;have H5:=q_ h5;clear h5 hf5 hg5 H3;go_wp2;refine sT_ rfl ?_;go_wp2;go_roundg (m - (i+1));case measure=>exact Nat.lt_of_lt_of_le (Nat.sub_succ_lt_self _ _ hin) hg
   case rel=>exact⟨i+1,some ⟨g2,0,none⟩,cap2,hin,Nat.le_refl _,i_,rfl,q_ (H5.o.step (Fr.t))⟩
  ·obtain rfl:m=i:=o_;have h5:=HH.o;rw [List.take_of_length_le (by rw [HML.o];exact Nat.le_refl _)] at h5;have hru:=(HSRC.o _ _ h5 (fun P hP=>by simp [hP])).2;have hvl:(hoodV F x y r.hood).length=m:=(by rw [hoodV,List.length_map,HML.o]);have hia:IntsAt wr (.slice va (hoodV F x y r.hood).length vc) (hoodV F x y r.hood):=by
    have:=h5.rowReads;unfold IntsAt;rw [hvl];exact this
   have hVC:=fun w' (hf:Fr [] wr w')=>RValue_calls (ha:=ha) (hc:=hc) HR.o (hru.fr hf) (hia.fr hf) (by rw [hvl,HML.o]) (fun s hs=>by
    obtain⟨q,_,rfl⟩:=List.mem_map.1 hs
    exact HF.o _ _)
   rw [hvl,HML.o] at hVC;have HVC:=q_ hVC;have H5:=q_ h5;clear h5 hru hvl hia hVC HH;go_wp2_with fail;refine (HVC.o _ (Fr.t)).mono ?_;rintro e w6 ⟨rfl,hf6⟩;have H6:=q_ ((H5.o.step (Fr.trans0 (Fr.t) hf6)).drop.drop.drop);clear hf6 HVC H5;go_wp2;go_ret;exact⟨rfl,H6.o.step (Fr.t)⟩
theorem pts_snoc (l:List (Int×Int)) (q:Int×Int):pts (l++[q])=pts l++[.int .i64 q.1,.int .i64 q.2]:=by simp [pts]
theorem near_next {b:Bx} {j i:Nat} (hj:j<b.h+4) (hi:i<b.w+4):pts ((M2 b).take (j*(b.w+4)+i+1))=pts ((M2 b).take (j*(b.w+4)+i))++[.int .i64 (b.x - 2+(i:Int)),.int .i64 (b.y - 2+(j:Int))]:=by
 have hk:j*(b.w+4)+i<(b.h+4)*(b.w+4):=by have:(j+1)*(b.w+4)≤(b.h+4)*(b.w+4):=Nat.mul_le_mul_right _ o_;rw [Nat.add_mul] at this;omega
 have e1:(j*(b.w+4)+i) % (b.w+4)=i:=by rw [Nat.mul_comm,Nat.mul_add_mod,Nat.mod_eq_of_lt hi]
 have e2:(j*(b.w+4)+i) / (b.w+4)=j:=by rw [Nat.mul_comm,Nat.mul_add_div o_,Nat.div_eq_of_lt hi,Nat.add_zero]
 rw [List.take_add_one,nearL_get hk];show pts ((M2 b).take _++[Rz b (j*(b.w+4)+i)])=_;rw [pts_snoc];unfold Rz;rw [e1,e2]
theorem RNear_calls (h:Has W w Ps) {b:Bx} (hlow:-100≤b.x∧b.x+b.w≤100∧-100≤b.y∧b.y+b.h≤100) {ca:Option Addr} {n:Nat} :
  Calls Tryz.prog 118 #[fieldV b ca n la lm lc] w fun e w'=>∃ (va:Option Addr) (vc:Nat),e=.returned (.slice va ((b.h+4)*(b.w+4)) vc)∧Has W w' (Hp.row 116 2 (.slice va ((b.h+4)*(b.w+4)) vc) ((b.h+4)*(b.w+4)) (pts (M2 b))::Ps):=by
 have hnx:=fun (j i:Nat) (hj:j<b.h+4) (hi:i<b.w+4)=>near_next (b:=b) hj hi;have hnl:=nearL_length b;obtain⟨bx,by',bw,bh⟩:=b;unfold fieldV;simp only at hlow hnx hnl ⊢;obtain⟨w4,hw4⟩:∃ k,bw+4=k:=⟨_,rfl⟩;obtain⟨h4,hh4⟩:∃ k,bh+4=k:=⟨_,rfl⟩;rw [hw4,hh4] at hnx hnl ⊢;obtain⟨L,hL⟩:∃ L,M2 ⟨bx,by',bw,bh⟩=L:=⟨_,rfl⟩;rw [hL] at hnx hnl ⊢;have h1:=(h.newBlk (.cells #[.bool true,.int .i64 bx,.int .i64 by',.int .i64 (bw:Int),.int .i64 (bh:Int),.slice ca n n,.slice la lm lc] 178 (0,0))).nilRow 116 2;have H1:=q_ h1;have HNX:=q_ hnx;have HNL:=q_ hnl;have hmul:h4*w4≤204*204:=Nat.mul_le_mul o_ o_;have HMUL:=q_ hmul;clear h h1 hnx hnl hL hmul;go_enter Tryz.func118,Tryz.ntmps118;have hb:=H1.o.drop.blk;obtain⟨v0,v1,v2,v3,v4,vl⟩:=l5_ hb;clear hb;go_wp2;clear v0 v1 v2 v3 v4 vl;go_loopg [3,4] h4 (fun gg z3 z4 wr=>∃ (j k:Nat) (va:Option Addr) (vc:Nat) (zy:Int),j≤h4∧h4 - j≤gg∧z3=.slice va k vc∧z4=.int .i64 zy∧Hid (zy=by' - 2+(j:Int))∧Hid (k=j*w4)∧Hid (Has W wr (Hp.row 116 2 (.slice va k vc) k (pts (L.take k))::Hp.blk w.heap.size (.cells #[.bool true,.int .i64 bx,.int .i64 by',.int .i64 (bw:Int),.int .i64 (bh:Int),.slice ca n n,.slice la lm lc] 178 (0,0))::Ps)));case atStart=>exact⟨0,0,none,0,_,Nat.zero_le _,o_,rfl,rfl,q_ o_,q_ o_,q_ (by rw [List.take_zero];exact H1.o.step (Fr.t))⟩
 case round =>
  obtain⟨j,k,va,vc,zy,hj,hg,rfl,rfl,HZ,HK,HH⟩:=hrel;clear H1;have hb:=HH.o.drop.blk;obtain⟨v0,v1,v2,v3,v4,vl⟩:=l5_ hb;clear hb;by_cases hjn:j<h4;·
   have hzc:zy<by'+(bh:Int)+2:=(by have:=HZ.o;omega);have hzb:-200≤zy∧zy≤200:=(by have:=HZ.o;omega);go_wp2;clear v0 v1 v2 v3 v4 vl;go_loopg [3,5] w4 (fun gg z3 z5 wr2=>∃ (i k2:Nat) (va2:Option Addr) (vc2:Nat) (zx:Int),i≤w4∧w4 - i≤gg∧z3=.slice va2 k2 vc2∧z5=.int .i64 zx∧Hid (zx=bx - 2+(i:Int))∧Hid (k2=j*w4+i)∧Hid (Has W wr2 (Hp.row 116 2 (.slice va2 k2 vc2) k2 (pts (L.take k2))::Hp.blk w.heap.size (.cells #[.bool true,.int .i64 bx,.int .i64 by',.int .i64 (bw:Int),.int .i64 (bh:Int),.slice ca n n,.slice la lm lc] 178 (0,0))::Ps)));case atStart=>exact⟨0,k,va,vc,_,Nat.zero_le _,o_,rfl,rfl,q_ o_,q_ (by rw [HK.o,Nat.add_zero]),q_ (HH.o.step (Fr.t))⟩
   case round =>
    obtain⟨i,k2,va2,vc2,zx,hi,hgi,rfl,rfl,HZX,HK2,HI⟩:=hrel;clear HH;have hb:=HI.o.drop.blk;obtain⟨v0,v1,v2,v3,v4,vl⟩:=l5_ hb;clear hb;by_cases hin:i<w4;·
     have hxc:zx<bx+(bw:Int)+2:=(by have:=HZX.o;omega);have hxb:-200≤zx∧zx≤200:=(by have:=HZX.o;omega);have hk2:k2≤50000:=by have h1:=HK2.o;have h2:=HMUL.o;have h3:(j+1)*w4≤h4*w4:=Nat.mul_le_mul_right _ hjn;rw [Nat.add_mul] at h3;omega
     have hnx:=HNX.o j i hjn hin;rw [← HK2.o,← HZ.o,← HZX.o] at hnx;have HNY:=q_ hnx;have hmaxl:(50001:Nat)≤maxLen:=(by decide);have HLL:=q_ (show k2+1≤maxLen∧(k2+1)*16≤140737488355328 from by omega);clear hnx hmaxl;go_wp2_with (at_builtin;refine append_has (W:=W) (size:=2) (bytes:=16) (z:=.agg #[.int .i64 0,.int .i64 0]) (e:=116) (n:=k2) (xs:=pts (L.take k2)) (news:=[.int .i64 zx,.int .i64 zy]) rfl rfl Tryz.underlying22 k_ rfl (by decide) rfl rfl (HI.o.step (Fr.t)) hpT rfl (by simp [Value.oneCell']) HLL.o.1 HLL.o.2 ?_);intro g2 cap2 w5 h5 hf5 hg5;rw [← HNY.o] at h5;have H5:=q_ h5;clear h5 hf5 hg5 HI v0 v1 v2 v3 v4 vl;go_wp2;go_roundg (w4 - (i+1));case measure=>exact Nat.lt_of_lt_of_le (Nat.sub_succ_lt_self _ _ hin) hgi
     case rel=>exact⟨i+1,k2+1,some ⟨g2,0,none⟩,cap2,zx+1,hin,Nat.le_refl _,i_,i_,q_ (by have:=HZX.o;simp;omega),q_ (by have:=HK2.o;omega),q_ (H5.o.step (Fr.t))⟩
    ·obtain rfl:w4=i:=o_;have hxc:¬ zx<bx+(bw:Int)+2:=(by have:=HZX.o;omega);have hxb:-200≤zx∧zx≤200:=(by have:=HZX.o;omega);go_wp2;go_roundg (h4 - (j+1));case measure=>exact Nat.lt_of_lt_of_le (Nat.sub_succ_lt_self _ _ hjn) hg
     case rel=>exact⟨j+1,k2,va2,vc2,zy+1,hjn,Nat.le_refl _,rfl,i_,q_ (by have:=HZ.o;simp;omega),q_ (by rw [HK2.o,Nat.add_mul];omega),q_ (HI.o.step (Fr.t))⟩
  ·obtain rfl:h4=j:=o_;have hzc:¬ zy<by'+(bh:Int)+2:=(by have:=HZ.o;omega);have hzb:-200≤zy∧zy≤200:=(by have:=HZ.o;omega);have h5:=HH.o;rw [List.take_of_length_le (by rw [HNL.o,HK.o];exact Nat.le_refl _)] at h5;have H5:=q_ h5;clear h5 HH;go_wp2;go_ret;refine⟨va,vc,by rw [← HK.o];rfl,?_⟩;rw [← HK.o];exact (H5.o.ord 2 [0]).step (Fr.t)
end Go.Proofs.YtebolidfbflkmaaGreat
namespace Go.Proofs.YtebolidfbflkmaaGreat
open Go Go.RowKit Rg Hp Ev
theorem RTRight_calls {w:World} {r:Rule} {ha na:Option Addr} {hc nc:Nat} (hr:RuleAt w (.slice ha r.hood.length hc) (.slice na r.nodes.length nc) r) (hlh:r.hood.length≤1000000) (hln:r.nodes.length≤1000000) :
  Calls Tryz.prog 75 #[.agg #[.int .i64 r.S,.slice ha r.hood.length hc,.slice na r.nodes.length nc]] w fun e w'=>e=.returned (.bool (Ar r))∧Fr [] w w':=by
 have hh:=fun w1 (hf:Fr [] w w1)=>RHRight_calls (hr.1.fr hf) hlh;have HH:=q_ hh;have Hr:=q_ hr.2;clear hh hr;by_cases hS:2≤r.S∧r.S≤8;·
  obtain⟨hs1,hs2⟩:=hS;cases hH:Db r.hood with
  | false =>
   have HN:=q_ (rightR_hood hH);rw [hH] at HH;clear hH;go_enter Tryz.func75,Tryz.ntmps75;go_wp2_with fail;refine (HH.o _ (Fr.t)).mono ?_;rintro e w1 ⟨rfl,hf⟩;have hb_:=(hf.block (w.heap.size) f_' i_).trans (show _=some (.cells #[.int .i64 r.S,.slice ha r.hood.length hc,.slice na r.nodes.length nc] 25 (0,0)) from hpT);obtain⟨b0,b1,b2,bl⟩:=l3_ hb_;have Hb:=q_ hb_;clear hb_;have Hf:=q_ (Fr.trans0 (Fr.t:Fr [] w _) hf);clear hf;go_wp2;all_goals
    go_ret;exact⟨Ag HN.o.symm,by first|((repeat first|exact Fr.refl _ _|assumption|apply Fr.n|apply Fr.d|apply Fr.a|refine Fr.s ?_ (.inr t_) _);done)|(have:=Hf.o;(repeat first|exact Fr.refl _ _|assumption|apply Fr.n|apply Fr.d|apply Fr.a|refine Fr.s ?_ (.inr t_) _);done)⟩
  | true =>
   rw [hH] at HH;have HHT:=q_ hH;clear hH;by_cases hn:1≤r.nodes.length∧r.nodes.length≤4096;·
    obtain⟨hn1,hn2⟩:=hn;go_enter Tryz.func75,Tryz.ntmps75;go_wp2_with fail;refine (HH.o _ (Fr.t)).mono ?_;rintro e w1 ⟨rfl,hf⟩;have hb_:=(hf.block (w.heap.size) f_' i_).trans (show _=some (.cells #[.int .i64 r.S,.slice ha r.hood.length hc,.slice na r.nodes.length nc] 25 (0,0)) from hpT);obtain⟨b0,b1,b2,bl⟩:=l3_ hb_;have Hb:=q_ hb_;clear hb_;have Hf:=q_ (Fr.trans0 (Fr.t:Fr [] w _) hf);clear hf;go_wp2;go_loopw [4] (fun x wr=>∃ k:Nat,x=.int .i64 k∧k≤r.nodes.length∧(∀ j,j<k→G7 r j=true)∧Fr [] w wr∧wr.heap[w.heap.size]?=some (.cells #[.int .i64 r.S,.slice ha r.hood.length hc,.slice na r.nodes.length nc] 25 (0,0))) (fun x _=>r.nodes.length - (intOf x).toNat);case atStart=>exact⟨0,rfl,o_,o_,by have:=Hf.o;exact Fr.t,by have:=Hb.o;(repeat first|rw [if_pos o_]|rw [if_neg o_]|rw [hDR]|rw [hDN]|rw [hAz]|rw [hSz]|rw [hAC]|rw [hSC]|rw [oMS]|rw [uPC]|rw [lSZ]|rw [lSS]|rfl);exact this⟩
    case round =>
     clear Hf Hb b0 b1 b2 bl;obtain⟨k,rfl,hk,hok,hf,hb⟩:=hrel;have Hok:=q_ hok;have Hf:=q_ hf;obtain⟨b0,b1,b2,bl⟩:=l3_ hb;simp at b0 b1 b2;have Hb:=q_ hb;clear hok hf hb;by_cases hlt:k<r.nodes.length;·
      obtain⟨⟨lw,ny⟩,hx⟩:∃ x,r.nodes[k]?=some x:=⟨_,List.getElem?_eq_getElem hlt⟩;obtain⟨g,off,ra,rc,rfl,hg,e0,e1,hi⟩:=(Hr.o.fr Hf.o).node hx;have hnk:=Qx hx;simp only at e0 e1 hi hnk;have HX:=q_ hnk;have HI:=q_ hi;clear hx hi hnk;by_cases hA:1≤lw∧lw≤r.hood.length∧((ny.length:Nat):Int)=r.S;·
       obtain⟨a1,a2,a3⟩:=hA;have a4:(((ny.length:Nat):Int) != r.S)=false:=(by simp [a3]);have HX:=q_ (show G7 r k=ny.all (Ic r lw k) by rw [HX.o,decide_eq_true ⟨a1,a2,a3⟩,Bool.true_and]);have HA3:=q_ a3;have a5:ny.length≤8:=o_;clear a3;go_wp2;refine aBW (fun W=>Fr [] wr W∧W.heap[w.heap.size]?=some (.cells #[.int .i64 r.S,.slice ha r.hood.length hc,.slice (some ⟨g,off,none⟩) r.nodes.length nc] 25 (0,0))∧W.heap[wr.heap.size]?=some (.cells #[.int .i64 lw,.slice ra ny.length rc] 118 (0,0))) ⟨Fr.t,by have:=Hb.o;(repeat first|rw [if_pos o_]|rw [if_neg o_]|rw [hDR]|rw [hDN]|rw [hAz]|rw [hSz]|rw [hAC]|rw [hSC]|rw [oMS]|rw [uPC]|rw [lSZ]|rw [lSS]|rfl);exact this,by (repeat first|rw [if_pos o_]|rw [if_neg o_]|rw [hDR]|rw [hDN]|rw [hAz]|rw [hSz]|rw [hAC]|rw [hSC]|rw [oMS]|rw [uPC]|rw [lSZ]|rw [lSS]|rfl)⟩ ?_;rintro W ⟨hfW,hb,hp⟩;have HfW:=q_ hfW;obtain⟨c0,c1,c2⟩:=e3_ hb;obtain⟨p0,p1⟩:=e2_ hp;have cl:=lBk hb;have pl:=lBk hp;simp at c0 c1 c2 p0 p1;have HbW:=q_ hb;have HpW:=q_ hp;clear hfW hb hp b0 b1 b2 bl e0 e1;go_loopw [6] (fun x wl=>∃ j:Nat,x=.int .i64 j∧j≤ny.length∧(∀ i y,ny[i]?=some y→i<j→Ic r lw k y=true)∧Drew W wl) (fun x _=>ny.length - (intOf x).toNat);case atStart=>exact⟨0,rfl,o_,fun i y h1 h2=>by omega,Drew.refl _⟩
       case round =>
        obtain⟨j,rfl,hj,hent,m,rfl⟩:=hrel;have Hent:=q_ hent;clear hent;by_cases hlt2:j<ny.length;·
         obtain⟨y,hy⟩:∃ y,ny[j]?=some y:=⟨_,List.getElem?_eq_getElem hlt2⟩;obtain⟨g2,off2,rfl,hg2,d0⟩:=(HI.o.fr HfW.o).cell hy;have HY:=q_ hy;have hdj:decide ((j:Int)<r.S)=true:=(by have:=HA3.o;simp;omega);clear hy;by_cases hneg:y<0;·
          have HN:=q_ (F3 hlt (by rw [HX.o,Km HY.o (entOK_neg hneg)]));go_wp2;go_ret;exact⟨Ag HN.o.symm,by have:=Hf.o.trans0 HfW.o;exact Fr.t⟩
         ·obtain⟨z,rfl⟩:∃ z:Nat,y=z:=⟨y.toNat,o_⟩;clear hneg;by_cases hone:lw=1;·
           have hone':(lw == 1)=true:=(by simpa using hone);have hone2:lw≤1:=o_;have HO:=q_ hone;clear hone;by_cases hz:(z:Int)<r.S;·
            have HE:=q_ (((Rf o_ HO.o).trans (decide_eq_true hz): Ic r lw k z=true));go_wp2;(refine wT ?_);go_wp2;refine sT_ rfl ?_;go_wp2;go_roundw;case rel =>
             refine⟨j+1,by go_num,o_,fun i u hu hi=>?_,⟨m+1,rfl⟩⟩;rcases Nat.lt_or_ge i j with h|h
             ·exact Hent.o i u hu h
             ·obtain rfl:i=j:=o_;obtain rfl:=Option.some.inj (HY.o.symm.trans hu);exact HE.o
            case measure=>simp [intOf];omega
           ·have HN:=q_ (F3 hlt (by rw [HX.o,Km HY.o ((Rf o_ HO.o).trans (decide_eq_false hz))]));go_wp2;go_ret;exact⟨Ag HN.o.symm,by have:=Hf.o.trans0 HfW.o;exact Fr.t⟩
          ·have hone':(lw == 1)=false:=(by simpa using hone);by_cases hz:(z:Int)<k;·
            obtain⟨⟨lz,nz⟩,hxz⟩:∃ x,r.nodes[z]?=some x:=⟨_,List.getElem?_eq_getElem o_⟩;obtain⟨_,_,rz,cz,he,_,f0,_,_⟩:=(Hr.o.fr (Hf.o.trans0 HfW.o)).node hxz;cases he;have hlz:=Ph hxz;simp only at f0 hlz;have HLZ:=q_ hlz;clear hxz hlz;by_cases hle:lz=lw - 1;·
             subst hle;have HE:=q_ (((Lj o_ o_).trans (decide_eq_true ⟨hz,HLZ.o⟩): Ic r lw k z=true));go_wp2;(refine wT ?_);go_wp2;refine sT_ rfl ?_;go_wp2;go_roundw;case rel =>
              refine⟨j+1,by go_num,o_,fun i u hu hi=>?_,⟨m+1,rfl⟩⟩;rcases Nat.lt_or_ge i j with h|h
              ·exact Hent.o i u hu h
              ·obtain rfl:i=j:=o_;obtain rfl:=Option.some.inj (HY.o.symm.trans hu);exact HE.o
             case measure=>simp [intOf];omega
            ·have hle':(lz != lw - 1)=true:=(by simpa using hle);have HNE:=q_ (show ¬ ((z:Int)<k∧D4 r z=lw - 1) from fun h=>hle (HLZ.o.symm.trans h.2));clear hle;have HN:=q_ (F3 hlt (by rw [HX.o,Km HY.o ((Lj o_ o_).trans (decide_eq_false HNE.o))]));go_wp2;(refine wT ?_);go_wp2;refine sT_ rfl ?_;go_wp2;go_ret;exact⟨Ag HN.o.symm,by have:=Hf.o.trans0 HfW.o;exact Fr.t⟩
           ·have HNE:=q_ (show ¬ ((z:Int)<k∧D4 r z=lw - 1) from fun h=>hz h.1);have HN:=q_ (F3 hlt (by rw [HX.o,Km HY.o ((Lj o_ o_).trans (decide_eq_false HNE.o))]));go_wp2;(refine wT ?_);go_wp2;refine sT_ rfl ?_;go_wp2;go_ret;exact⟨Ag HN.o.symm,by have:=Hf.o.trans0 HfW.o;exact Fr.t⟩
        ·obtain rfl:j=ny.length:=o_;have Hall:=q_ (show G7 r k=true from HX.o.trans (all_true fun i y h1 h2=>Hent.o i y h1 h2));have hdj:decide ((ny.length:Int)<r.S)=false:=(by have:=HA3.o;simp;omega);go_wp2;go_roundw;case rel =>
          refine⟨k+1,by go_num,o_,fun i hi=>?_,by have:=Hf.o.trans0 HfW.o;exact Fr.t,by have:=HbW.o;(repeat first|rw [if_pos o_]|rw [if_neg o_]|rw [hDR]|rw [hDN]|rw [hAz]|rw [hSz]|rw [hAC]|rw [hSC]|rw [oMS]|rw [uPC]|rw [lSZ]|rw [lSS]|rfl);exact this⟩;rcases Nat.lt_or_ge i k with h|h
          ·exact Hok.o i h
          ·obtain rfl:i=k:=o_;exact Hall.o
         case measure=>simp [intOf];omega
      ·have hA':lw<1∨r.hood.length<lw∨1≤lw∧lw≤r.hood.length∧(((ny.length:Nat):Int) != r.S)=true:=by
        simp only [bne_iff_ne];omega
       have HN:=q_ (F3 hlt (by rw [HX.o,decide_eq_false hA,Bool.false_and]));clear hA;rcases hA' with h|h|⟨h1,h2,h3⟩
       all_goals
        go_wp2;all_goals
         go_ret;exact⟨Ag HN.o.symm,by have:=Hf.o;exact Fr.t⟩
     ·obtain rfl:k=r.nodes.length:=o_;obtain⟨⟨lv,nx⟩,hx⟩:∃ x,r.nodes[r.nodes.length - 1]?=some x:=⟨_,List.getElem?_eq_getElem o_⟩;have hroot:=levelAt_last hn1 hx;obtain⟨g,off,ra,rc,rfl,hg,e0,_,_⟩:=(Hr.o.fr Hf.o).node hx;obtain⟨m,hm⟩:∃ m,r.nodes.length - 1=m:=⟨_,rfl⟩;have hm':(r.nodes.length:Int) - 1=m:=o_;rw [hm] at hx e0;simp only at e0;have HRES:=q_ (show Ar r=(lv == (r.hood.length:Int)) by
       by_cases hl:lv=r.hood.length
       ·rw [show (lv == (r.hood.length:Int))=true by simpa using hl]
        exact rightR_true ⟨hs1,hs2⟩ HHT.o ⟨hn1,hn2⟩ (hroot.trans hl) Hok.o
       ·rw [show (lv == (r.hood.length:Int))=false by simpa using hl]
        exact rightR_root (r:=r) (by rw [hroot];exact hl))
      clear hx hroot hm;go_wp2;(refine wT ?_);go_wp2;refine sT_ rfl ?_;go_wp2;go_ret;exact⟨Ag HRES.o.symm,by have:=Hf.o;exact Fr.t⟩
   ·have HN:=q_ (rightR_len hn);have hn':r.nodes.length<1∨4096<r.nodes.length:=o_;clear hn;rcases hn' with h|h
    ·go_enter Tryz.func75,Tryz.ntmps75;go_wp2_with fail;refine (HH.o _ (Fr.t)).mono ?_;rintro e w1 ⟨rfl,hf⟩;have hb_:=(hf.block (w.heap.size) f_' i_).trans (show _=some (.cells #[.int .i64 r.S,.slice ha r.hood.length hc,.slice na r.nodes.length nc] 25 (0,0)) from hpT);obtain⟨b0,b1,b2,bl⟩:=l3_ hb_;have Hb:=q_ hb_;clear hb_;have Hf:=q_ (Fr.trans0 (Fr.t:Fr [] w _) hf);clear hf;go_wp2;all_goals
      go_ret;exact⟨Ag HN.o.symm,by first|((repeat first|exact Fr.refl _ _|assumption|apply Fr.n|apply Fr.d|apply Fr.a|refine Fr.s ?_ (.inr t_) _);done)|(have:=Hf.o;(repeat first|exact Fr.refl _ _|assumption|apply Fr.n|apply Fr.d|apply Fr.a|refine Fr.s ?_ (.inr t_) _);done)⟩
    ·go_enter Tryz.func75,Tryz.ntmps75;go_wp2_with fail;refine (HH.o _ (Fr.t)).mono ?_;rintro e w1 ⟨rfl,hf⟩;have hb_:=(hf.block (w.heap.size) f_' i_).trans (show _=some (.cells #[.int .i64 r.S,.slice ha r.hood.length hc,.slice na r.nodes.length nc] 25 (0,0)) from hpT);obtain⟨b0,b1,b2,bl⟩:=l3_ hb_;have Hb:=q_ hb_;clear hb_;have Hf:=q_ (Fr.trans0 (Fr.t:Fr [] w _) hf);clear hf;go_wp2;all_goals
      go_ret;exact⟨Ag HN.o.symm,by first|((repeat first|exact Fr.refl _ _|assumption|apply Fr.n|apply Fr.d|apply Fr.a|refine Fr.s ?_ (.inr t_) _);done)|(have:=Hf.o;(repeat first|exact Fr.refl _ _|assumption|apply Fr.n|apply Fr.d|apply Fr.a|refine Fr.s ?_ (.inr t_) _);done)⟩
 ·have HN:=q_ (rightR_S hS);have hS':r.S<2∨8<r.S:=o_
  clear hS;rcases hS' with h|h
  ·go_enter Tryz.func75,Tryz.ntmps75;go_wp2;all_goals
    go_ret;exact⟨Ag HN.o.symm,by first|((repeat first|exact Fr.refl _ _|assumption|apply Fr.n|apply Fr.d|apply Fr.a|refine Fr.s ?_ (.inr t_) _);done)|(have:=Hf.o;(repeat first|exact Fr.refl _ _|assumption|apply Fr.n|apply Fr.d|apply Fr.a|refine Fr.s ?_ (.inr t_) _);done)⟩
  ·go_enter Tryz.func75,Tryz.ntmps75;go_wp2;all_goals
    go_ret;exact⟨Ag HN.o.symm,by first|((repeat first|exact Fr.refl _ _|assumption|apply Fr.n|apply Fr.d|apply Fr.a|refine Fr.s ?_ (.inr t_) _);done)|(have:=Hf.o;(repeat first|exact Fr.refl _ _|assumption|apply Fr.n|apply Fr.d|apply Fr.a|refine Fr.s ?_ (.inr t_) _);done)⟩
end Go.Proofs.YtebolidfbflkmaaGreat
