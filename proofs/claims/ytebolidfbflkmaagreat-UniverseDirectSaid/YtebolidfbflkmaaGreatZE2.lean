/- Own texts of this claim, part 3: no condition. -/
import Derived.Lib.SliceRun
import Derived.Maps.AppendAt
import Derived.Test.YtebolidfbflkmaaGreatZE1
set_option linter.unusedVariables false
set_option linter.unusedSimpArgs false
set_option maxHeartbeats 16000000
set_option maxRecDepth 100000
namespace Go.Proofs.YtebolidfbflkmaaGreat
open Go Go.RowKit Rg Hp Bn
variable {w:World}{neg:Bool}{ds:List Nat}{v:Value}
theorem Ba (hv:Reads w v ds.length 1 (Aw ds)) (hl:ds.length≤9223372036854775807) :
  Calls Tryz.prog 42 #[.agg #[.bool neg,v]] w fun e w'=>e=.returned (.bool (A7 neg ds))∧Fr [] w w':=by
 obtain⟨_,a,c,rfl,hav⟩:=hv;have Hav:=q_ hav;clear hav;by_cases h0:ds.length=0;·
  have hd:decide ((ds.length:Int)=0)=true:=by simp [h0]
  have hR:A7 neg ds=!neg:=by unfold A7;rw [if_pos h0]
  have HR:=q_ hR;obtain rfl:=List.eq_nil_of_length_eq_zero h0;clear h0 hR hd;go_enter Tryz.func42,Tryz.ntmps42;go_wp2;go_ret;exact⟨by rw [HR.o];rfl,Fr.t⟩
 ·obtain⟨g,off,rfl,hg,hc⟩:=Hav.o o_;have hcz:=hc (ds.length - 1) _ (Av o_);have hd:((ds.length:Int) == 0)=false:=by rw [beq_eq_false_iff_ne];omega
  have hp1:(1:Int)≤ds.length:=o_
  have hp2:(ds.length:Int) - 1<ds.length:=o_
  by_cases h64:ds.length≤64;·
   have hd2:decide ((ds.length:Int)≤64)=true:=u_';have hR:A7 neg ds=(((ds.getD (ds.length - 1) 0:Nat):Int) != 0):=by unfold A7;rw [if_neg h0,Bool.eq_iff_iff];simp;omega
   have HR:=q_ hR;have H0:=q_ h0;generalize ds.getD (ds.length - 1) 0=y at *
   clear h0 hR hc;go_enter Tryz.func42,Tryz.ntmps42;go_wp2;go_ret;exact⟨by rw [HR.o];rfl,Fr.t⟩
  ·have hd2:decide ((ds.length:Int)≤64)=false:=u_';have hR:A7 neg ds=false:=by
    unfold A7;rw [if_neg h0,Bool.eq_iff_iff];simp;omega
   have HR:=q_ hR;have H0:=q_ h0;clear h0 hcz hR hc;go_enter Tryz.func42,Tryz.ntmps42;go_wp2;go_ret;exact⟨by rw [HR.o];rfl,Fr.t⟩
theorem Fc (hv:Reads w v ds.length 1 (Aw ds)) (hl:ds.length≤1000000) (i:Nat) :
  Calls Tryz.prog 97 #[v,.int .i64 i] w fun e w'=>e=.returned (.int .u32 (ds.getD i 0:Nat))∧w=w':=by
 obtain⟨_,a,c,rfl,hav⟩:=hv;by_cases h:i<ds.length;·
  obtain⟨g,off,rfl,hg,hc⟩:=hav o_;have hcz:=hc i _ (Av h);clear hc hav;generalize ds.getD i 0=y at *
  go_enter Tryz.func97,Tryz.ntmps97;go_wp2;go_ret;exact⟨rfl,rfl⟩
 ·have h0:ds.getD i 0=0:=by rw [List.getD_eq_getElem?_getD,List.getElem?_eq_none o_];rfl
  rw [h0];clear h0 hav;go_enter Tryz.func97,Tryz.ntmps97;go_wp2;go_ret;exact⟨rfl,rfl⟩
variable {a:Option Addr}{c:Nat}
theorem trimmed_calls (hv:Reads w (.slice a ds.length c) ds.length 1 (Aw ds)) (hD:Dig 4294967296 ds) (hl:ds.length≤1000000) (hc:ds.length≤c) :
  Calls Tryz.prog 125 #[.slice a ds.length c] w fun e w'=>e=.returned (.slice a (Eu 4294967296 ds).length c)∧w=w':=by
 obtain⟨_,a',c',he,hav⟩:=hv;cases he;have Hav:=q_ hav;have HD:=q_ hD;clear hav hD;go_enter Tryz.func125,Tryz.ntmps125;go_wp2;go_loop [0] (fun x=>∃ k:Nat,k≤ds.length∧x=.slice a k c∧Eu 4294967296 (ds.take k)=Eu 4294967296 ds) (fun x=>match x with|.slice _ k _=>k|_=>0);case atStart=>exact⟨_,Nat.le_refl _,rfl,by rw [List.take_length]⟩
 case round =>
  obtain⟨k,hk,rfl,hT⟩:=hrel;have HT:=q_ hT;clear hT;cases k with
  | zero =>go_wp2;go_ret;have hT:=HT.o;rw [List.take_zero] at hT;exact⟨by rw [← hT,Qm];rfl,rfl⟩
  | succ k =>
   obtain⟨g,off,rfl,hg,hc⟩:=Hav.o o_;have hcz:=hc k _ (Av o_);have htk:ds.take (k+1)=ds.take k++[ds.getD k 0]:=by rw [List.take_add_one,List.getElem?_eq_getElem o_,List.getD_eq_getElem?_getD,List.getElem?_eq_getElem o_];rfl
   have Htk:=q_ htk;clear hc htk;obtain⟨y,hy⟩:∃ y,y=ds.getD k 0:=⟨_,rfl⟩;rw [← hy] at hcz Htk;have Hy:=q_ hy;clear hy;by_cases hz:y=0;·
    subst hz;go_wp2;go_round;case rel=>exact⟨k,o_,rfl,by have:=HT.o;rwa [Htk.o,L6] at this⟩
    case measure=>simp
   ·have hb:((y:Int) == 0)=false:=(by rw [beq_eq_false_iff_ne];omega);have Hz:=q_ hz;clear hz;go_wp2;go_ret;refine⟨?_,rfl⟩;have hT:=HT.o;have hD:=HD.o.take (k+1);rw [Htk.o] at hT hD;rw [Jd o_ hD (Q7 Hz.o)] at hT;rw [← hT,List.length_append,List.length_take,Nat.min_eq_left o_];rfl
variable {A:Nat→Prop}
theorem Cz (hv:Reads w (.slice a ds.length c) ds.length 1 (Aw ds)) (hD:Dig 4294967296 ds) (hl:ds.length≤1000000) (hc:ds.length≤c) (hlo:∀ g,(Value.slice a ds.length c).ownBlock=some g→A g) :
  Calls Tryz.prog 88 #[.bool neg,.slice a ds.length c] w (BigPost w A (mkN neg (val 4294967296 ds))):=by
 have Hlo:=q_ hlo;clear hlo;have hT:=fun w1 (hf:Fr [] w w1)=>trimmed_calls (hv.fr hf) hD hl hc;obtain⟨k,hk,hkt⟩:=Io (by omega:2≤4294967296) ds.length rfl hD;have hkl:(Eu 4294967296 ds).length=k:=by rw [hkt,List.length_take,Nat.min_eq_left hk]
 rw [hkl] at hT;have hr:=Reads.take hv hk;have hu:(Aw ds).take k=Aw (dg 4294967296 (val 4294967296 ds)):=by rw [Aw,Aw,← List.map_take,← hkt];rfl
 rw [hu] at hr;have hle:=Az (B:=4294967296) o_ 64 (n:=val 4294967296 ds);have h0:=Dp (B:=4294967296) o_ (n:=val 4294967296 ds);rw [← List.length_eq_zero_iff] at h0;have hkl':(dg 4294967296 (val 4294967296 ds)).length=k:=hkl;rw [hkl'] at hle h0;have HT:=q_ hT;have Hr:=q_ hr;have Hkl:=q_ hkl';clear hT hr hu hkt hkl hkl' hv hD;have hmk:mkN neg (val 4294967296 ds)=if k=0 then (false,[],0) else if k≤64 then (neg,dg 4294967296 (val 4294967296 ds),0) else (false,[],6):=by
  unfold mkN;by_cases e:val 4294967296 ds=0;·rw [if_pos e,if_pos (h0.2 e)]
  ·rw [if_neg e,if_neg (fun h=>e (h0.1 h))];by_cases e2:val 4294967296 ds<4294967296 ^ 64;·rw [if_pos e2,if_pos (hle.2 e2)]
   ·rw [if_neg e2,if_neg (fun h=>e2 (hle.1 h))]
 generalize mkN neg (val 4294967296 ds)=r at *
 generalize dg 4294967296 (val 4294967296 ds)=T at *
 clear hle h0;by_cases hk0:k=0;·
  rw [if_pos hk0] at hmk;have Hmk:=q_ hmk;clear hmk;subst hk0;go_enter Tryz.func88,Tryz.ntmps88;go_wp2_with fail;refine (HT.o _ (Fr.t)).mono ?_;rintro e w1 ⟨rfl,rfl⟩;go_wp2;(try simp only [Exit.inBlock,Exit.then]);have hr:=Hmk.o;subst hr;refine bodyPost_ret (bRS rfl (b:=w.heap.size) (x:=.bool false) (y:=.slice none 0 0) rfl hpT rfl) rfl ⟨_,_,⟨Nat.le_refl _,fun g hg=>(by cases hg)⟩,rfl,reads_nil _,Fr.t⟩
 by_cases hk64:k≤64;·
  rw [if_neg hk0,if_pos hk64] at hmk;have Hmk:=q_ hmk;clear hmk;have hd:decide ((64:Int)<k)=false:=by simp;omega
  have hd0:((k:Int) == 0)=false:=by rw [beq_eq_false_iff_ne];omega
  have Hk:=q_ (And.intro hk0 hk64);clear hk0 hk64;go_enter Tryz.func88,Tryz.ntmps88;go_wp2_with fail;refine (HT.o _ (Fr.t)).mono ?_;rintro e w1 ⟨rfl,rfl⟩;go_wp2;(try simp only [Exit.inBlock,Exit.then]);have hr:=Hmk.o;subst hr;have hTl:=Hkl.o;subst hTl;exact bodyPost_ret (bRS rfl (b:=w.heap.size) (x:=.bool neg) (y:=.slice a T.length c) rfl hpT rfl) rfl ⟨_,_,⟨(show T.length≤c by omega),fun g hg=>Hlo.o g (Oj a _ _ c c▸hg)⟩,rfl,Hr.o.fr (Fr.t),Fr.t⟩
 ·rw [if_neg hk0,if_neg hk64] at hmk;have Hmk:=q_ hmk;clear hmk;have hd:decide ((64:Int)<k)=true:=by simp;omega
  have Hk:=q_ (And.intro hk0 hk64);clear hk0 hk64;go_enter Tryz.func88,Tryz.ntmps88;go_wp2_with fail;refine (HT.o _ (Fr.t)).mono ?_;rintro e w1 ⟨rfl,rfl⟩;go_wp2;(try simp only [Exit.inBlock,Exit.then]);have hr:=Hmk.o;subst hr;exact bodyPost_ret (bRS rfl (b:=w.heap.size) (x:=.bool false) (y:=.slice none 0 0) rfl hpT rfl) rfl ⟨_,_,⟨Nat.le_refl _,fun g hg=>(by cases hg)⟩,rfl,reads_nil _,Fr.t⟩
theorem size_calls {n:Int} (h1:-9223372036854775808≤n) (h2:n<9223372036854775808) :
  Calls Tryz.prog 92 #[.int .i64 n] w fun e w'=>e=.returned (.int .u64 (n.natAbs:Nat))∧w=w':=by
 by_cases h:n<0;·
  have hd:decide (n<0)=true:=by simpa using h
  go_enter Tryz.func92,Tryz.ntmps92;go_wp2;go_ret;exact⟨V4 (by show IntKind.u64.wrap (-IntKind.u64.wrap n)=_;rw [wrap_u64,wrap_u64];omega),rfl⟩
 ·have hd:decide (n<0)=false:=by simpa using h
  go_enter Tryz.func92,Tryz.ntmps92;go_wp2;go_ret;exact⟨V4 (by show n=_;omega),rfl⟩
variable {x b:Nat}
theorem Sub32_calls {y:Nat} (hx:x<4294967296) (hy:y<4294967296) (hb:b≤1) :
  Calls Tryz.prog 127 #[.int .u32 x,.int .u32 y,.int .u32 b] w fun e w'=>e=.returned (.tuple #[.int .u32 ((x+4294967296 - y - b) % 4294967296:Nat),.int .u32 (bor x y b:Nat)])∧w=w':=by
 have hbit:=sub32_bit hx hy hb;obtain⟨d,hdd⟩:∃ d,d=(x+4294967296 - y - b) % 4294967296:=⟨_,rfl⟩;have hd:((x:Int) - y - b) % 4294967296=(d:Nat):=o_
 have hdl:d<4294967296:=o_
 rw [← hdd] at hbit ⊢;have e1:bits BinOp.xor IntKind.u32 IntKind.u32.max (x:Int)=((4294967295 ^^^ x:Nat):Int):=u32_xor_nat 4294967295 x o_ hx;have e2:bits BinOp.xor IntKind.u32 (x:Int) (y:Int)=((x ^^^ y:Nat):Int):=u32_xor_nat x y hx hy;have hn1:4294967295 ^^^ x<4294967296:=Nat.xor_lt_two_pow (n:=32) o_ hx;have hxy:x ^^^ y<4294967296:=Nat.xor_lt_two_pow (n:=32) hx hy;have hn2:4294967295 ^^^ (x ^^^ y)<4294967296:=Nat.xor_lt_two_pow (n:=32) o_ hxy;have e3:bits BinOp.xor IntKind.u32 IntKind.u32.max ((x ^^^ y:Nat):Int)=((4294967295 ^^^ (x ^^^ y):Nat):Int):=u32_xor_nat 4294967295 (x ^^^ y) o_ hxy;have ha1:(4294967295 ^^^ x) &&& y<4294967296:=Nat.lt_of_le_of_lt Nat.and_le_right hy;have ha2:(4294967295 ^^^ (x ^^^ y)) &&& d<4294967296:=Nat.lt_of_le_of_lt Nat.and_le_right hdl;have e4:bits BinOp.and IntKind.u32 ((4294967295 ^^^ x:Nat):Int) (y:Int)=(((4294967295 ^^^ x) &&& y:Nat):Int):=u32_and_nat _ _ hn1 hy;have e5:bits BinOp.and IntKind.u32 ((4294967295 ^^^ (x ^^^ y):Nat):Int) (d:Int)=(((4294967295 ^^^ (x ^^^ y)) &&& d:Nat):Int):=u32_and_nat _ _ hn2 hdl;have e6:bits BinOp.or IntKind.u32 (((4294967295 ^^^ x) &&& y:Nat):Int) (((4294967295 ^^^ (x ^^^ y)) &&& d:Nat):Int)=((((4294967295 ^^^ x) &&& y) ||| ((4294967295 ^^^ (x ^^^ y)) &&& d):Nat):Int):=u32_or_nat _ _ ha1 ha2;have hres:bits BinOp.or IntKind.u32 (bits BinOp.and IntKind.u32 (bits BinOp.xor IntKind.u32 IntKind.u32.max (x:Int)) y) (bits BinOp.and IntKind.u32 (bits BinOp.xor IntKind.u32 IntKind.u32.max (bits BinOp.xor IntKind.u32 (x:Int) y)) (((x:Int) - y - b) % 4294967296)) / 2147483648=(bor x y b:Nat):=by rw [hd,e1,e2,e3,e4,e5,e6];omega
 have Hres:=q_ hres;have Hd:=q_ hd;generalize bor x y b=bb at *
 clear hbit hdd hd hdl e1 e2 hn1 hxy hn2 e3 ha1 ha2 e4 e5 e6 hres;go_enter Tryz.func127,Tryz.ntmps127;go_wp2;go_ret2;exact⟨by rw [← Hres.o,← Hd.o];rfl,rfl⟩
theorem O5 {y:Nat} (hc:c<4294967296) (hx:x<4294967296) (hy:y<4294967296) (hb:w.heap[b]?=some (.cells #[.int .u32 x,.int .u32 y] 75 (0,0))) :
  Calls Tryz.prog 126 #[.int .u64 c,.slice (some ⟨b,0,none⟩) 2 2] w fun e w'=>e=.returned (.tuple #[.int .u32 ((c+x+y) % 4294967296:Nat),.int .u64 ((c+x+y) / 4294967296:Nat)])∧w=w':=by
 obtain⟨b0,b1,hl⟩:=l2_ hb;have e1:((((c+x+y) % 4294967296:Nat)):Int)=((c:Int)+x+y) % 4294967296:=o_
 have e2:((((c+x+y) / 4294967296:Nat)):Int)=((c:Int)+x+y) / 4294967296:=o_
 have E:=q_ (And.intro e1 e2);clear hb e1 e2;go_enter Tryz.func126,Tryz.ntmps126;go_wp2;refine wp_loop_rounds 3 ?_
 iterate 3 (rw [rounds_succ];go_wp2)
 go_ret2;exact⟨by rw [E.o.1,E.o.2];rfl,rfl⟩
variable {da db:List Nat}{va vb:Value}
theorem Gv (ha:Reads w va da.length 1 (Aw da)) (hb:Reads w vb db.length 1 (Aw db)) (hDa:Dig 4294967296 da) (hDb:Dig 4294967296 db) (ca:Canon da) (cb:Canon db) (hla:da.length≤1000000) (hlb:db.length≤1000000) :
  Calls Tryz.prog 90 #[va,vb] w fun e w'=>e=.returned (.int .i64 (Gc (val 4294967296 da) (val 4294967296 db)))∧Drew w w':=by
 obtain⟨_,a,ac,rfl,haa⟩:=ha;obtain⟨_,b,bc,rfl,hbb⟩:=hb;have Ha:=q_ haa;have Hb:=q_ hbb;clear haa hbb;obtain⟨r,hr0⟩:∃ r,Gc (val 4294967296 da) (val 4294967296 db)=r:=⟨_,rfl⟩;rw [hr0];have Hr0:=q_ hr0;clear hr0;by_cases hne:da.length=db.length
 rotate_left
 ·have hd:((da.length:Int) != (db.length:Int))=true:=by simp;omega
  by_cases hlt:da.length<db.length;·
   have hd2:decide (da.length<db.length)=true:=(by simpa using hlt);have hr:=Im o_ hDa hDb cb hlt;have hc:Gc (val 4294967296 da) (val 4294967296 db)=-1:=(by unfold Gc;rw [if_pos hr]);have Hc:=q_ hc;clear hc hr hDa hDb ca cb hne hlt;go_enter Tryz.func90,Tryz.ntmps90;go_wp2;go_ret;exact⟨by rw [← Hr0.o,Hc.o];rfl,Drew.refl _⟩
  ·have hd2:decide (da.length<db.length)=false:=(by simpa using hlt);have hr:=Im o_ hDb hDa ca o_;have hc:Gc (val 4294967296 da) (val 4294967296 db)=1:=(by unfold Gc;rw [if_neg o_,if_pos hr]);have Hc:=q_ hc;clear hc hr hDa hDb ca cb hne hlt;go_enter Tryz.func90,Tryz.ntmps90;go_wp2;go_ret;exact⟨by rw [← Hr0.o,Hc.o];rfl,Drew.refl _⟩
 ·have hd:((da.length:Int) != (db.length:Int))=false:=by simp;omega
  have HDa:=q_ hDa;have HDb:=q_ hDb;have Hne:=q_ hne;clear hDa hDb ca cb hne;go_enter Tryz.func90,Tryz.ntmps90;go_wp2;go_loopw [5] (fun x wr=>∃ (k:Nat) (z:Int),x=.int .i64 z∧z=(k:Int) - 1∧k≤da.length∧da.drop k=db.drop k∧Drew w wr) (fun x _=>(intOf x+1).toNat);case atStart=>exact⟨da.length,_,rfl,rfl,Nat.le_refl _,by rw [List.drop_length,Hne.o,List.drop_length],Drew.refl _⟩
  case round =>
   obtain⟨k,z,rfl,hz,hk,hdr,m,rfl⟩:=hrel;have Hdr:=q_ hdr;clear hdr;cases k with
   | zero =>have hz':z=-1:=o_;subst hz';clear hz;have heq:=Hdr.o;rw [List.drop_zero,List.drop_zero] at heq;have hc:Gc (val 4294967296 da) (val 4294967296 db)=0:=(by rw [heq];unfold Gc;rw [if_neg o_,if_neg o_]);have Hc:=q_ hc;clear hc heq;go_wp2;go_ret;exact⟨by rw [← Hr0.o,Hc.o];rfl,m,rfl⟩
   | succ k =>
    obtain rfl:z=(k:Int):=o_;clear hz;have hkb:k<db.length:=(by have:=Hne.o;omega);obtain⟨g1,off1,rfl,hg1,hc1⟩:=Ha.o o_;obtain⟨g2,off2,rfl,hg2,hc2⟩:=Hb.o o_;have e1:=hc1 k _ (Av o_);have e2:=hc2 k _ (Av hkb);have hxl:=HDa.o.getD o_ k;have hyl:=HDb.o.getD o_ k;have htop:=fun h=>Ov (B:=4294967296) o_ HDa.o HDb.o (i:=k) o_ Hne.o Hdr.o h;have htop2:=fun h=>Ov (B:=4294967296) o_ HDb.o HDa.o (i:=k) o_ Hne.o.symm Hdr.o.symm h;have hde:=drop_eq_succ (i:=k) o_ Hne.o Hdr.o;have Htop:=q_ htop;have Htop2:=q_ htop2;have Hde:=q_ hde;clear hc1 hc2 htop htop2 hde hxl hyl;generalize da.getD k 0=x at *
    generalize db.getD k 0=y at *
    rcases Nat.lt_trichotomy x y with hxy|hxy|hxy
    ·have hd1:decide (x<y)=true:=(by simpa using hxy);have hc:Gc (val 4294967296 da) (val 4294967296 db)=-1:=(by unfold Gc;rw [if_pos (Htop.o hxy)]);have Hc:=q_ hc;clear hc hxy;go_wp2;(refine wT ?_);go_wp2;refine sT_ rfl ?_;go_wp2;go_ret;exact⟨by rw [← Hr0.o,Hc.o];rfl,m+1,rfl⟩
    ·subst hxy;go_wp2;(refine wT ?_);go_wp2;refine sT_ rfl ?_;go_wp2;(refine wT ?_);go_wp2;refine sT_ rfl ?_;go_wp2;go_roundw;case rel=>exact⟨k,_,rfl,rfl,o_,Hde.o (by first|rfl|trivial),m+1+1,rfl⟩
     case measure=>first|(simp [intOf];done)|(simp [intOf];omega)
    ·have hd1:decide (x<y)=false:=u_';have hd2:decide (y<x)=true:=(by simpa using hxy);have hc:Gc (val 4294967296 da) (val 4294967296 db)=1:=(by unfold Gc;rw [if_neg (by have:=Htop2.o hxy;omega),if_pos (Htop2.o hxy)]);have Hc:=q_ hc;clear hc hxy;go_wp2;(refine wT ?_);go_wp2;refine sT_ rfl ?_;go_wp2;(refine wT ?_);go_wp2;refine sT_ rfl ?_;go_wp2;go_ret;exact⟨by rw [← Hr0.o,Hc.o];rfl,m+1+1,rfl⟩
theorem I8:(Tryz.prog.info? 75).map (fun i=>(i.zero,i.size,i.bytes))=some (some (.int .u32 0),1,4):=by kernel_rfl
def Ro (w:World) (V n:Nat) (e:Ending) (w':World):Prop :=
 ∃ a c ds,e=.returned (.slice a ds.length c)∧w'.ownsRow w.heap.size 75 1 (.slice a ds.length c) ds.length (Aw ds)∧Dig 4294967296 ds∧val 4294967296 ds=V∧ds.length≤n∧ds.length≤c∧Fr [] w w'
theorem P5 (ha:Reads w va da.length 1 (Aw da)) (hb:Reads w vb db.length 1 (Aw db)) (hDa:Dig 4294967296 da) (hDb:Dig 4294967296 db) (hla:da.length≤100000) (hlb:db.length≤100000) :
  Calls Tryz.prog 89 #[va,vb] w (Ro w (val 4294967296 da+val 4294967296 db) (max da.length db.length+1)):=by
 have hda:=fun w1 (hf:Fr [] w w1) i=>Fc (ha.fr hf) o_ i;have hdb:=fun w1 (hf:Fr [] w w1) i=>Fc (hb.fr hf) o_ i;have Hda:=q_ hda;have Hdb:=q_ hdb;obtain⟨_,a,ac,rfl,_⟩:=ha;obtain⟨_,b,bc,rfl,_⟩:=hb;have HDa:=q_ hDa;have HDb:=q_ hDb;clear hda hdb hDa hDb;have Hna:=q_ (show ((da.length:Int)+1)=((da.length+1:Nat):Int) by omega);have Hnb:=q_ (show ((db.length:Int)+1)=((db.length+1:Nat):Int) by omega);by_cases hlt:da.length<db.length;·
  go_enter Tryz.func89,Tryz.ntmps89;go_wp2_with (refine Dt rfl (t:=28) (e:=75) (n:=db.length+1) (z:=.int .u32 0) (bytes:=4) rfl (congrArg (Value.int .i64) Hnb.o) (congrArg (Value.int .i64) Hnb.o) Tryz.underlying28 I8 rfl o_ (by unfold maxLen;omega) ?_);intro w1 ho1 hf1 hsz1;obtain⟨n,hn⟩:∃ n:Nat,db.length+1=n:=⟨_,rfl⟩;have hni:((db.length:Int)+1)=n:=o_
  rw [hn] at ho1;rw [hn,hni];have hn1:da.length+1≤n:=o_
  have hn2:db.length+1≤n:=o_
  have hn3:n≤max da.length db.length+1:=o_
  have hn4:n≤100001:=o_
  have HN3:=q_ hn3;have Ho1:=q_ ho1;have Hf1:=q_ hf1;clear ho1 hf1 hn hni hlt hn3;go_wp2_with fail;go_loopw [7,18] (fun xc xk wl=>∃ (k c:Nat) (l:List Nat),xc=.int .u64 c∧xk=.int .i64 k∧k≤n∧c<4294967296∧l.length=n∧Dig 4294967296 l∧val 4294967296 (l.take k)+4294967296 ^ k*c=val 4294967296 (da.take k)+val 4294967296 (db.take k) ∧
    wl.ownsRow w.heap.size 75 1 (.slice (some ⟨w.heap.size,0,none⟩) n n) n (Aw l)∧Fr [] w wl) (fun _ xk _=>n - (intOf xk).toNat)
  case atStart=>exact⟨0,0,List.replicate n 0,rfl,rfl,o_,o_,List.length_replicate,Dig.replicate o_ n,by simp [val],by rw [Gy];exact Ho1.o,Hf1.o⟩
  case round =>
   obtain⟨k,c,l,rfl,rfl,hk,hc,hl,hD,hv,ho,hf⟩:=hrel;have hol:=oLT ho rfl;have Ho:=q_ ho;have Hf:=q_ hf;have HD:=q_ hD;have Hv:=q_ hv;have Hl:=q_ hl;by_cases hkn:k<n;·
    have hcz:=An ho rfl (Av (l:=l) (i:=k) o_);have hz:=Bo ho rfl k;have hxl:=HDa.o.getD (by omega:0<4294967296) k;have hyl:=HDb.o.getD (by omega:0<4294967296) k;have hst:=Oy (B:=4294967296) (s:=c+da.getD k 0+db.getD k 0) o_ hv rfl;rw [← Am,← Am,← Nat.pow_succ] at hst;have hda:=fun w2 (hf2:Fr [] w w2)=>Hda.o w2 hf2 k;have hdb:=fun w2 (hf2:Fr [] w w2)=>Hdb.o w2 hf2 k;have hca:=fun (w2:World) (b:Nat) (hb:w2.heap[b]?=some (.cells #[.int .u32 (da.getD k 0:Nat),.int .u32 (db.getD k 0:Nat)] 75 (0,0)))=>O5 (c:=c) hc hxl hyl hb;have hset:=fun d=>G6 ho rfl (j:=k) (by rw [Cv];omega) (.int .u32 d);have Hset:=q_ hset;have Hst:=q_ hst;have HA:=q_ hda;have HB:=q_ hdb;have HC:=q_ hca;clear ho hf hD hv hl hst hda hdb hca hset;generalize da.getD k 0=x at *
    generalize db.getD k 0=y at *
    generalize l.getD k 0=z at *
    go_wp2_with fail;refine (HA.o _ Hf.o).mono ?_;rintro e w2 ⟨rfl,rfl⟩;go_wp2_with fail;refine (HB.o _ Hf.o).mono ?_;rintro e w2 ⟨rfl,rfl⟩;go_wp2_with fail;refine (HC.o _ _ hpT).mono ?_;rintro e w2 ⟨rfl,rfl⟩;have hdl:(c+x+y) % 4294967296<4294967296:=Nat.mod_lt _ o_;have hcl:(c+x+y) / 4294967296<4294967296:=o_
    generalize (c+x+y) % 4294967296=d at *
    generalize (c+x+y) / 4294967296=c2 at *
    clear hxl hyl;go_wp2;go_roundw;case rel =>
     refine⟨k+1,c2,l.set k d,rfl,by go_num,o_,hcl,by rw [List.length_set];exact Hl.o,HD.o.set hdl,?_,?_,?_⟩;·rw [Ik (by have:=Hl.o;omega)];exact Hst.o
     ·rw [Gz];refine oOB (Hset.o d) fun z hz=>?_;have hzz:w.heap.size=z:=(by simpa [Value.ownBlock] using hz);subst hzz;exact hAE _ _ _ (by rw [hSz];exact hol)
     ·exact (Hf.o.setCell (.inr i_) _).alloc _
    case measure=>simp [intOf];omega
   ·obtain rfl:k=n:=o_;have hv':=Hv.o;rw [List.take_of_length_le (by have:=Hl.o;omega),List.take_of_length_le o_,List.take_of_length_le o_] at hv';have hc0:=T8 o_ hv' (Ce HDa.o) (Ce HDb.o) hn1 hn2;subst hc0;have Hv2:=q_ hv';clear ho hf hD hv hl hv';go_wp2;go_ret;have hl:=Hl.o;subst hl;exact⟨_,_,l,rfl,Ho.o,HD.o,by have h:=Hv2.o;first|exact h|(rw [Nat.mul_zero,Nat.add_zero] at h;exact h),HN3.o,Nat.le_refl _,Hf.o⟩
 ·go_enter Tryz.func89,Tryz.ntmps89;go_wp2_with (refine Dt rfl (t:=28) (e:=75) (n:=da.length+1) (z:=.int .u32 0) (bytes:=4) rfl (congrArg (Value.int .i64) Hna.o) (congrArg (Value.int .i64) Hna.o) Tryz.underlying28 I8 rfl o_ (by unfold maxLen;omega) ?_);intro w1 ho1 hf1 hsz1;obtain⟨n,hn⟩:∃ n:Nat,da.length+1=n:=⟨_,rfl⟩;have hni:((da.length:Int)+1)=n:=o_
  rw [hn] at ho1;rw [hn,hni];have hn1:da.length+1≤n:=o_
  have hn2:db.length+1≤n:=o_
  have hn3:n≤max da.length db.length+1:=o_
  have hn4:n≤100001:=o_
  have HN3:=q_ hn3;have Ho1:=q_ ho1;have Hf1:=q_ hf1;clear ho1 hf1 hn hni hlt hn3;go_wp2_with fail;go_loopw [7,18] (fun xc xk wl=>∃ (k c:Nat) (l:List Nat),xc=.int .u64 c∧xk=.int .i64 k∧k≤n∧c<4294967296∧l.length=n∧Dig 4294967296 l∧val 4294967296 (l.take k)+4294967296 ^ k*c=val 4294967296 (da.take k)+val 4294967296 (db.take k) ∧
    wl.ownsRow w.heap.size 75 1 (.slice (some ⟨w.heap.size,0,none⟩) n n) n (Aw l)∧Fr [] w wl) (fun _ xk _=>n - (intOf xk).toNat)
  case atStart=>exact⟨0,0,List.replicate n 0,rfl,rfl,o_,o_,List.length_replicate,Dig.replicate o_ n,by simp [val],by rw [Gy];exact Ho1.o,Hf1.o⟩
  case round =>
   obtain⟨k,c,l,rfl,rfl,hk,hc,hl,hD,hv,ho,hf⟩:=hrel;have hol:=oLT ho rfl;have Ho:=q_ ho;have Hf:=q_ hf;have HD:=q_ hD;have Hv:=q_ hv;have Hl:=q_ hl;by_cases hkn:k<n;·
    have hcz:=An ho rfl (Av (l:=l) (i:=k) o_);have hz:=Bo ho rfl k;have hxl:=HDa.o.getD (by omega:0<4294967296) k;have hyl:=HDb.o.getD (by omega:0<4294967296) k;have hst:=Oy (B:=4294967296) (s:=c+da.getD k 0+db.getD k 0) o_ hv rfl;rw [← Am,← Am,← Nat.pow_succ] at hst;have hda:=fun w2 (hf2:Fr [] w w2)=>Hda.o w2 hf2 k;have hdb:=fun w2 (hf2:Fr [] w w2)=>Hdb.o w2 hf2 k;have hca:=fun (w2:World) (b:Nat) (hb:w2.heap[b]?=some (.cells #[.int .u32 (da.getD k 0:Nat),.int .u32 (db.getD k 0:Nat)] 75 (0,0)))=>O5 (c:=c) hc hxl hyl hb;have hset:=fun d=>G6 ho rfl (j:=k) (by rw [Cv];omega) (.int .u32 d);have Hset:=q_ hset;have Hst:=q_ hst;have HA:=q_ hda;have HB:=q_ hdb;have HC:=q_ hca;clear ho hf hD hv hl hst hda hdb hca hset;generalize da.getD k 0=x at *
    generalize db.getD k 0=y at *
    generalize l.getD k 0=z at *
    go_wp2_with fail;refine (HA.o _ Hf.o).mono ?_;rintro e w2 ⟨rfl,rfl⟩;go_wp2_with fail;refine (HB.o _ Hf.o).mono ?_;rintro e w2 ⟨rfl,rfl⟩;go_wp2_with fail;refine (HC.o _ _ hpT).mono ?_;rintro e w2 ⟨rfl,rfl⟩;have hdl:(c+x+y) % 4294967296<4294967296:=Nat.mod_lt _ o_;have hcl:(c+x+y) / 4294967296<4294967296:=o_
    generalize (c+x+y) % 4294967296=d at *
    generalize (c+x+y) / 4294967296=c2 at *
    clear hxl hyl;go_wp2;go_roundw;case rel =>
     refine⟨k+1,c2,l.set k d,rfl,by go_num,o_,hcl,by rw [List.length_set];exact Hl.o,HD.o.set hdl,?_,?_,?_⟩;·rw [Ik (by have:=Hl.o;omega)];exact Hst.o
     ·rw [Gz];refine oOB (Hset.o d) fun z hz=>?_;have hzz:w.heap.size=z:=(by simpa [Value.ownBlock] using hz);subst hzz;exact hAE _ _ _ (by rw [hSz];exact hol)
     ·exact (Hf.o.setCell (.inr i_) _).alloc _
    case measure=>simp [intOf];omega
   ·obtain rfl:k=n:=o_;have hv':=Hv.o;rw [List.take_of_length_le (by have:=Hl.o;omega),List.take_of_length_le o_,List.take_of_length_le o_] at hv';have hc0:=T8 o_ hv' (Ce HDa.o) (Ce HDb.o) hn1 hn2;subst hc0;have Hv2:=q_ hv';clear ho hf hD hv hl hv';go_wp2;go_ret;have hl:=Hl.o;subst hl;exact⟨_,_,l,rfl,Ho.o,HD.o,by have h:=Hv2.o;first|exact h|(rw [Nat.mul_zero,Nat.add_zero] at h;exact h),HN3.o,Nat.le_refl _,Hf.o⟩
theorem Nt (ha:Reads w va da.length 1 (Aw da)) (hb:Reads w vb db.length 1 (Aw db)) (hDa:Dig 4294967296 da) (hDb:Dig 4294967296 db) (hla:da.length≤100000) (hlb:db.length≤da.length) (hle:val 4294967296 db≤val 4294967296 da) :
  Calls Tryz.prog 91 #[va,vb] w (Ro w (val 4294967296 da - val 4294967296 db) da.length):=by
 have hdb:=fun w1 (hf:Fr [] w w1) i=>Fc (hb.fr hf) o_ i;have Hdb:=q_ hdb;obtain⟨_,a,ac,rfl,haa⟩:=ha;obtain⟨_,b,bc,rfl,_⟩:=hb;have Haa:=q_ haa;have HDa:=q_ hDa;have HDb:=q_ hDb;have Hle:=q_ hle;obtain⟨n,hn⟩:∃ n,da.length=n:=⟨_,rfl⟩;have Hn:=q_ hn;rw [hn] at Haa hla hlb ⊢;clear hdb hDa hDb haa hle hn;go_enter Tryz.func91,Tryz.ntmps91;go_wp2_with (refine Dt rfl (t:=28) (e:=75) (n:=n) (z:=.int .u32 0) (bytes:=4) rfl rfl rfl Tryz.underlying28 I8 rfl o_ (by unfold maxLen;omega) ?_);intro w1 ho1 hf1 hsz1;have Ho1:=q_ ho1;have Hf1:=q_ hf1;clear ho1 hf1;go_wp2_with fail;go_loopw [6,13] (fun xb xk wl=>∃ (k bo:Nat) (l:List Nat),xb=.int .u32 bo∧xk=.int .i64 k∧k≤n∧bo≤1∧l.length=n∧Dig 4294967296 l∧val 4294967296 (l.take k)+val 4294967296 (db.take k)=val 4294967296 (da.take k)+4294967296 ^ k*bo ∧
   wl.ownsRow w.heap.size 75 1 (.slice (some ⟨w.heap.size,0,none⟩) n n) n (Aw l)∧Fr [] w wl) (fun _ xk _=>n - (intOf xk).toNat)
 case atStart=>exact⟨0,0,List.replicate n 0,rfl,rfl,o_,o_,List.length_replicate,Dig.replicate o_ n,by simp [val],by rw [Gy];exact Ho1.o,Hf1.o⟩
 case round =>
  obtain⟨k,bo,l,rfl,rfl,hk,hbo,hl,hD,hv,ho,hf⟩:=hrel;have hol:=oLT ho rfl;have Ho:=q_ ho;have Hf:=q_ hf;have HD:=q_ hD;have Hv:=q_ hv;have Hl:=q_ hl;by_cases hkn:k<n;·
   obtain⟨g,off,rfl,hg,hc⟩:=Haa.o o_;have e1:=(hf.cell (p:=⟨g,off+k,none⟩) hg i_).trans (hc k _ (Av (by have:=Hn.o;omega)));have hgr:g<wr.heap.size:=(by have:=hf.size;omega);have hcz:=An ho rfl (Av (l:=l) (i:=k) o_);have hz:=Bo ho rfl k;have hxl:=HDa.o.getD (by omega:0<4294967296) k;have hyl:=HDb.o.getD (by omega:0<4294967296) k;have hst:=diff_step (B:=4294967296) (P:=4294967296 ^ k) hv (sub_digit hxl hyl hbo);rw [← Am,← Am,← Nat.pow_succ] at hst;have hdb:=fun w2 (hf2:Fr [] w w2)=>Hdb.o w2 hf2 k;have hsu:=fun (w2:World)=>Sub32_calls (w:=w2) hxl hyl hbo;have hset:=fun d=>G6 ho rfl (j:=k) (by rw [Cv];omega) (.int .u32 d);have hdl:(da.getD k 0+4294967296 - db.getD k 0 - bo) % 4294967296<4294967296:=Nat.mod_lt _ o_;have hbl:=bor_le (da.getD k 0) (db.getD k 0) bo;have Hset:=q_ hset;have Hst:=q_ hst;have HB:=q_ hdb;have HC:=q_ hsu;have Hdl:=q_ hdl;have Hbl:=q_ hbl;clear ho hf hD hv hl hst hdb hsu hset hxl hyl hc hdl hbl;generalize (da.getD k 0+4294967296 - db.getD k 0 - bo) % 4294967296=d at *
   generalize bor (da.getD k 0) (db.getD k 0) bo=b2 at *
   generalize da.getD k 0=x at *
   generalize db.getD k 0=y at *
   generalize l.getD k 0=z at *
   go_wp2;refine wS [([0,1,2,3,4,5,6,7,8],[5]),([9,10,11,12,13,14,15,16],[])] ?_;(simp only [A2,pick,aq_,bq_,cq_,dq_,eq_]);go_wp2_with fail;refine (HB.o _ (by have:=Hf.o;exact Fr.t)).mono ?_;rintro e w2 ⟨rfl,rfl⟩;go_wp2;refine mD_ ⟨⟨ac_ (T:=75) rfl rfl rfl Tryz.underlying75 rfl e1 rfl,trivial⟩,?_⟩;go_wp2_with fail;refine (HC.o _).mono ?_;rintro e w2 ⟨rfl,rfl⟩;go_wp2;refine mD_ ⟨trivial,sT_ rfl ?_⟩;go_wp2;go_roundw;case rel =>
    refine⟨k+1,b2,l.set k d,rfl,by go_num,o_,Hbl.o,by rw [List.length_set];exact Hl.o,HD.o.set Hdl.o,?_,?_,?_⟩;·rw [Ik (by have:=Hl.o;omega)];exact Hst.o
    ·rw [Gz];exact Hset.o d
    ·exact (Hf.o.setCell (.inr i_) _).drew
   case measure=>simp [intOf];omega
  ·obtain rfl:k=n:=o_;have hv':=Hv.o;rw [List.take_of_length_le (by have:=Hl.o;omega),List.take_of_length_le o_,List.take_of_length_le (by have:=Hn.o;omega)] at hv';have hvl:=Ce hD;rw [hl] at hvl;obtain⟨hb0,hv2⟩:=minus_end hv' hvl Hle.o;subst hb0;have Hv2:=q_ hv2;clear ho hf hD hv hl hv' hvl hv2;go_wp2;go_ret;have hl:=Hl.o;subst hl;exact⟨_,_,l,rfl,Ho.o,HD.o,Hv2.o,Nat.le_refl _,Nat.le_refl _,Hf.o⟩
theorem down1_calls:Calls Tryz.prog 147 #[.int .u32 x] w fun e w'=>e=.returned (.bool (decide (x≠0)))∧w=w':=by
 have hd:((x:Int) != 0)=decide (x≠0):=by by_cases h:x=0<;>simp [h]
 obtain⟨b,hb⟩:∃ b,decide (x≠0)=b:=⟨_,rfl⟩;rw [hb] at hd ⊢;clear hb;go_enter Tryz.func147,Tryz.ntmps147;go_wp2;go_ret;exact⟨rfl,rfl⟩
theorem IndexFunc_calls (hv:Reads w v ds.length 1 (Aw ds)) (hl:ds.length≤1000000) :
  Calls Tryz.prog 162 #[v,.func (.func 147) #[] #[]] w fun e w'=>∃ z:Int,e=.returned (.int .i64 z)∧decide (0≤z)=decide (val 4294967296 ds≠0)∧Drew w w':=by
 obtain⟨_,a,c,rfl,hav⟩:=hv;have Hav:=q_ hav;clear hav;obtain⟨n,hn⟩:∃ n,ds.length=n:=⟨_,rfl⟩;have Hn:=q_ hn;rw [hn] at Hav hl ⊢;clear hn;go_enter Tryz.func162,Tryz.ntmps162;go_wp2_with fail;go_loopw [8] (fun xk wl=>∃ k:Nat,xk=.int .i64 k∧k≤n∧val 4294967296 (ds.take k)=0∧Drew w wl) (fun xk _=>n - (intOf xk).toNat);case atStart=>exact⟨0,rfl,o_,by simp [val],Drew.refl _⟩
 case round =>
  obtain⟨k,rfl,hk,hv,hd⟩:=hrel;by_cases hkn:k<n;·
   obtain⟨g,off,rfl,hg,hc⟩:=Hav.o o_;have hf:=hd.fr [];have e1:=(hf.cell (p:=⟨g,off+k,none⟩) hg i_).trans (hc k _ (Av (by have:=Hn.o;omega)));have hgr:g<wr.heap.size:=(by have:=hf.size;omega);have hz:=val_zero_iff (B:=4294967296) o_ (l:=ds) k;have hne:=val_take_ne (B:=4294967296) (l:=ds) k o_;have Hz:=q_ hz;have Hne:=q_ hne;have Hd:=q_ hd;have Hv:=q_ hv;clear hf hc hz hne hd hv;generalize ds.getD k 0=x at *
   go_wp2_with fail;refine down1_calls.mono ?_;rintro e w2 ⟨rfl,rfl⟩;by_cases hx:x=0;·
    have hd0:decide (x≠0)=false:=(by simp [hx]);have Hx:=q_ hx;clear hx;rw [hd0];go_wp2;go_roundw;case rel=>exact⟨k+1,by go_num,o_,Hz.o.2 ⟨Hv.o,Hx.o⟩,Hd.o⟩
    case measure=>simp [intOf];omega
   ·have hd0:decide (x≠0)=true:=(by simp [hx]);have Hx:=q_ hx;clear hx;rw [hd0];go_wp2;go_ret;refine⟨k,rfl,?_,Hd.o⟩;have h:=Hne.o (fun h=>Hx.o (Hz.o.1 h).2) (by have:=Hn.o;omega);rw [decide_eq_true h];simp
  ·obtain rfl:k=n:=o_;rw [List.take_of_length_le (by have:=Hn.o;omega)] at hv;have Hd:=q_ hd;have Hv:=q_ hv;clear hd hv;go_wp2;go_ret;refine⟨-1,rfl,?_,Hd.o⟩;rw [Hv.o];rfl
theorem ContainsFunc_calls (hv:Reads w v ds.length 1 (Aw ds)) (hl:ds.length≤1000000) :
  Calls Tryz.prog 146 #[v,.func (.func 147) #[] #[]] w fun e w'=>e=.returned (.bool (decide (val 4294967296 ds≠0)))∧Drew w w':=by
 have hi:=IndexFunc_calls hv hl;obtain⟨b,hb⟩:∃ b,decide (val 4294967296 ds≠0)=b:=⟨_,rfl⟩;rw [hb] at hi ⊢;have Hi:=q_ hi;clear hi hb;obtain⟨_,a,c,rfl,_⟩:=hv;go_enter Tryz.func146,Tryz.ntmps146;go_wp2_with fail;refine Hi.o.mono ?_;rintro e w1 ⟨z,rfl,hz,hd⟩;have Hd:=q_ hd;clear hd;go_wp2;go_ret;exact⟨rfl,Hd.o⟩
variable {k:Nat}
theorem down_calls (hv:Reads w (.slice a ds.length c) ds.length 1 (Aw ds)) (hD:Dig 4294967296 ds) (hcn:Canon ds) (hl:ds.length≤1000000) (hc:ds.length≤c) (hk:k≤1000000) :
  Calls Tryz.prog 130 #[.slice a ds.length c,.int .i64 k] w (DownPost w (val 4294967296 ds / 2 ^ k) (decide (val 4294967296 ds % 2 ^ k≠0)) ds.length):=by
 obtain⟨wd,hwd⟩:∃ wd,k / 32=wd:=⟨_,rfl⟩;obtain⟨rs,hrs⟩:∃ rs,k % 32=rs:=⟨_,rfl⟩;have Ew:((k:Int) / 32)=wd:=o_
 have Er:((k:Int) % 32)=rs:=o_
 have hdg:=fun w1 (hf:Fr [] w w1) i=>Fc (hv.fr hf) o_ i;have Hdg:=q_ hdg;clear hdg;by_cases hb:ds.length≤wd
 ·have hlt:val 4294967296 ds<2 ^ k:=by
   have h1:=Ce hD;have h2:=(I0 (ds:=ds) hwd hrs).1;have h3:4294967296 ^ ds.length≤4294967296 ^ wd:=Nat.pow_le_pow_right o_ hb;have h4:=Nat.le_mul_of_pos_right (4294967296 ^ wd) (Nat.pow_pos (n:=rs) (show 0<2 by omega));omega
  have hlost:decide (val 4294967296 ds % 2 ^ k≠0)=decide (0<ds.length):=by
   rw [Nat.mod_eq_of_lt hlt];by_cases h0:ds=[];·subst h0;rfl
   ·have:=Fx (B:=4294967296) o_ hcn h0;have h1:0<ds.length:=List.length_pos_iff.2 h0;rw [decide_eq_true o_,decide_eq_true o_]
  rw [Nat.div_eq_of_lt hlt,hlost];obtain⟨n,hn⟩:∃ n,ds.length=n:=⟨_,rfl⟩;rw [hn] at hb hc ⊢;have Hn:=q_ hn;clear hv hlt hlost hwd hrs hn;go_enter Tryz.func130,Tryz.ntmps130;obtain⟨lost,hlost⟩:∃ lost,decide (0<n)=lost:=⟨_,rfl⟩;rw [hlost];go_wp2;go_ret2;exact⟨none,0,[],rfl,reads_nil _,fun g hg=>by simp [Value.ownBlock] at hg,Dig.nil,rfl,i_,i_,Fr.refl _ _⟩
 ·have hcf:=fun w1 (hf:Fr [] w w1)=>ContainsFunc_calls (ds:=ds.take wd) (v:=.slice a wd c) (w:=w1) (by
   have h:=(Reads.take hv (by omega:wd≤ds.length)).fr hf
   rw [List.length_take,Nat.min_eq_left o_]
   rw [Aw,← List.map_take] at h
   exact h) (by rw [List.length_take];omega)
  have hli:=lost_iff hD hwd hrs o_;have hdd:=fun i hi=>down_digit hD hwd hrs (i:=i) hi;have hxl:val 4294967296 ds / 2 ^ k<4294967296 ^ (ds.length - wd):=by have h1:=Ce hD;have h2:=(I0 (ds:=ds) hwd hrs).1;have hp:=Nat.pow_pos (n:=rs) (show 0<2 by omega);rw [h2];refine Nat.div_lt_of_lt_mul ?_;rw [show 4294967296 ^ wd*2 ^ rs*4294967296 ^ (ds.length - wd)=2 ^ rs*4294967296 ^ (wd+(ds.length - wd)) by rw [Nat.pow_add];simp only [Nat.mul_assoc,Nat.mul_comm,Nat.mul_left_comm],show wd+(ds.length - wd)=ds.length by omega];exact Nat.lt_of_lt_of_le h1 (Nat.le_mul_of_pos_left _ hp)
  have hdw:∀ i,ds.getD i 0<4294967296:=fun i=>hD.getD o_ i;have hr32:rs<32:=o_
  obtain⟨_,_,_,e0,hav⟩:=hv;simp only [Value.slice.injEq,true_and] at e0;obtain⟨rfl,rfl⟩:=e0;obtain⟨X,hX⟩:∃ X,val 4294967296 ds / 2 ^ k=X:=⟨_,rfl⟩;simp only [hX] at hdd hxl ⊢;obtain⟨n,hn⟩:∃ n,ds.length=n:=⟨_,rfl⟩;rw [hn] at hb hc hl hxl hav;simp only [hn] at hdd ⊢;have Hn:=q_ hn;have Hli:=q_ hli;have Hdd:=q_ hdd;have Hcf:=q_ hcf;have Hxl:=q_ hxl;have Hav:=q_ hav;have Hdw:=q_ hdw;clear hli hcf hdd hX hav hcn hn hwd hrs hdw hxl;obtain⟨lost,hlost⟩:∃ lost,decide (val 4294967296 ds % 2 ^ k≠0)=lost:=⟨_,rfl⟩;rw [hlost];have Hlost:=q_ hlost;clear hlost;go_enter Tryz.func130,Tryz.ntmps130;go_wp2_with fail;refine (Hcf.o _ (Fr.refl _ _)).mono ?_;rintro e w1 ⟨rfl,hd⟩;have hf:=hd.fr [];obtain⟨g,off,rfl,hg,hcc⟩:=Hav.o o_;have e1:=(hf.cell (p:=⟨g,off+wd,none⟩) hg i_).trans (hcc wd _ (Av (by have:=Hn.o;omega)));have hgr:g<w1.heap.size:=by have:=hf.size;omega
  have ham:=and_mask (Hdw.o wd) hr32;have Hf:=q_ hf;have hdl:lost=decide (¬ (val 4294967296 (ds.take wd)=0∧ds.getD wd 0 % 2 ^ rs=0)):=by rw [← Hlost.o];exact decide_eq_decide.2 (not_congr Hli.o)
  clear hd hf hcc;obtain⟨x,hx⟩:∃ x,ds.getD wd 0=x:=⟨_,rfl⟩;rw [hx] at e1 ham hdl;clear hx;by_cases hv0:val 4294967296 (ds.take wd)=0;have hd0:decide (val 4294967296 (ds.take wd)≠0)=false:=by simp [hv0]
  have hbl:decide (x % 2 ^ rs≠0)=lost:=by rw [hdl];simp [hv0]
  rw [hbl] at ham;rw [hd0];clear hd0 hv0 hdl hbl
  rotate_left
  have hd0:decide (val 4294967296 (ds.take wd)≠0)=true:=by simp [hv0]
  obtain rfl:lost=true:=by rw [hdl];simp [hv0]
  rw [hd0];clear hd0 hv0 hdl ham
  rotate_left
  all_goals go_wp2_with (refine Dt rfl (t:=28) (e:=75) (n:=n - wd) (z:=.int .u32 0) (bytes:=4) rfl (congrArg (Value.int .i64) (by omega:(n:Int) - wd=((n - wd:Nat):Int))) (congrArg (Value.int .i64) (by omega:(n:Int) - wd=((n - wd:Nat):Int))) Tryz.underlying28 I8 rfl o_ (by unfold maxLen;omega) ?_)
  all_goals
   intro w2 ho2 hf2 hsz2;obtain⟨m,hm⟩:∃ m,n - wd=m:=⟨_,rfl⟩;have hmi:(n:Int) - wd=m:=o_
   rw [hm] at ho2;rw [hm,hmi];have hwm:wd+m=n:=o_;have Hf2:=q_ (Hf.o.trans0 hf2);have Ho2:=q_ ho2;have Hwm:=q_ hwm;obtain⟨q,hq⟩:∃ q,w1.heap.size=q:=⟨_,rfl⟩;have hqw:w.heap.size≤q:=(by have:=Hf.o.size;omega);have Hqw:=q_ hqw;rw [hq] at Ho2;rw [hq];have hgq:g<q:=o_;clear hf2 ho2 hmi hm hsz2 e1 hgr hwm hqw hq;go_wp2_with fail;go_loopw [46] (fun xk wl=>∃ (k:Nat) (l:List Nat),xk=.int .i64 k∧k≤m∧l.length=m∧Dig 4294967296 l∧(∀ j,j<k→l.getD j 0=X / 4294967296 ^ j % 4294967296) ∧
     wl.ownsRow q 75 1 (.slice (some ⟨q,0,none⟩) m m) m (Aw l)∧Fr [] w wl) (fun xk _=>m - (intOf xk).toNat)
   case atStart=>exact⟨0,List.replicate m 0,rfl,o_,List.length_replicate,Dig.replicate o_ m,fun j hj=>by omega,by rw [Gy];exact Ho2.o,Hf2.o⟩
   case round =>
    obtain⟨j,l,rfl,hj,hl,hD,hdj,ho,hf⟩:=hrel;have hol:=oLT ho rfl;by_cases hjm:j<m;·
     have hwj:wd+j<n:=(by have:=Hwm.o;omega);obtain⟨_,_,e0,_,hcc⟩:=Hav.o o_;simp only [Option.some.injEq,Addr.mk.injEq,and_true] at e0;obtain⟨rfl,rfl⟩:=e0;have e2:=(hf.cell (p:=⟨g,off+(wd+j),none⟩) hg i_).trans (hcc (wd+j) _ (Av (by have:=Hn.o;omega)));have hgr2:g<wr.heap.size:=(by have:=hf.size;omega);have hdg:=fun w2 (hf2:Fr [] w w2)=>Hdg.o w2 hf2 (wd+j+1);rw [Hn.o,show (((wd+j+1:Nat)):Int)=(wd:Int)+j+1 by omega] at hdg;have hset:=fun d=>G6 ho rfl (j:=j) (by rw [Cv];omega) (.int .u32 d);have hfz:=Bo ho rfl j;have e3:=An ho rfl (Av (l:=l) (i:=j) o_);have hd1:=Hdw.o (wd+j);have hd2:=Hdw.o (wd+j+1);have hdx:=Hdd.o j hwj;have Hset:=q_ hset;have HDG:=q_ hdg;have HDl:=q_ hD;have Hdj:=q_ hdj;have Hl:=q_ hl;have Hf:=q_ hf;clear ho hf hD hdj hl hset hdg hcc;generalize ds.getD (wd+j) 0=x at *
     generalize ds.getD (wd+j+1) 0=y at *
     have Ex:IntKind.u64.wrap (x:Int)=x:=IntWalk.u64_in _ o_;have Ev:=or_two hd1 hd2;have hvb:val 4294967296 [x,y]<18446744073709551616:=(by simp [val];omega);obtain⟨v,hv⟩:∃ v,val 4294967296 [x,y]=v:=⟨_,rfl⟩;rw [hv] at Ev hvb hdx;have Hdx:=q_ hdx;have Hvb:=q_ hvb;clear hd1 hd2 hv hdx hvb;go_wp2;refine wS [([0,1,2,3,4,5,6,7,8,9,10,11,12],[5]),([13,14,15,16],[])] ?_;(simp only [A2,pick,aq_,bq_,cq_,dq_,eq_]);go_wp2_with fail;refine (HDG.o _ (by have:=Hf.o;exact Fr.t)).mono ?_;rintro e w3 ⟨rfl,rfl⟩;go_wp2;refine mD_ ⟨⟨ac_ (T:=75) rfl rfl rfl Tryz.underlying75 rfl e2 rfl,trivial⟩,?_⟩;go_wp2;refine mD_ ⟨trivial,sT_ rfl ?_⟩;go_wp2;go_roundw;case rel =>
      refine⟨j+1,l.set j (v / 2 ^ rs % 4294967296),by go_num,o_,by rw [List.length_set];exact Hl.o,HDl.o.set (Nat.mod_lt _ o_),?_,?_,?_⟩;·
       intro i hi;by_cases hij:i=j;·
        subst hij;rw [List.getD_eq_getElem?_getD,List.getElem?_set_self (by have:=Hl.o;omega),Hdx.o];rfl
       ·rw [getD_set_ne hij];exact Hdj.o i o_
      ·have e:((v / 2 ^ rs % 4294967296:Nat):Int)=(v:Int) / 2 ^ rs % 4294967296:=i_;rw [Gz,e];exact Hset.o _
      ·exact (Hf.o.setCell (.inr (by have:=Hqw.o;simp;omega)) _).drew
     case measure=>simp [intOf];omega
    ·obtain rfl:j=m:=o_;have hvd:=val_of_digits (B:=4294967296) (X:=X) (l:=l) o_ (fun i hi=>hdj i o_);rw [hl,Nat.mod_eq_of_lt (by have h:=Hxl.o;have h2:=Hwm.o;rw [show n - wd=j by omega] at h;exact h)] at hvd;have Ho:=q_ ho;have Hf:=q_ hf;have HDl:=q_ hD;have Hvd:=q_ hvd;have Hl:=q_ hl;clear ho hf hD hvd hl hdj;go_wp2;go_ret2;have hl:=Hl.o;subst hl;exact⟨_,_,l,rfl,Reads.of_owns Ho.o,fun g' hg'=>(by simp [Value.ownBlock] at hg';have:=Hqw.o;omega),HDl.o,Hvd.o,by have:=Hwm.o;omega,Nat.le_refl _,Hf.o⟩
variable {na nb:Bool}
theorem Add_calls (ha:Reads w va da.length 1 (Aw da)) (hb:Reads w vb db.length 1 (Aw db)) (hDa:Dig 4294967296 da) (hDb:Dig 4294967296 db) (hla:da.length≤10000) (hlb:db.length≤10000) :
  Calls Tryz.prog 44 #[.agg #[.bool na,va],.agg #[.bool nb,vb]] w (BigPost w (w.heap.size≤·) (Xd na da nb db)):=by
 have hra:=fun w1 (hf:Fr [] w w1)=>Ba (neg:=na) (ha.fr hf) o_;have hrb:=fun w1 (hf:Fr [] w w1)=>Ba (neg:=nb) (hb.fr hf) o_;have Ha:=q_ ha;have Hb:=q_ hb;obtain⟨_,a,ac,rfl,_⟩:=ha;obtain⟨_,b,bc,rfl,_⟩:=hb;have Hra:=q_ hra;have Hrb:=q_ hrb;have HDa:=q_ hDa;have HDb:=q_ hDb;obtain⟨r,hS⟩:∃ r,r=Xd na da nb db:=⟨_,rfl⟩;rw [← hS];unfold Xd at hS;clear hDa hDb hra hrb;cases hR1:A7 na da with
 | false =>
  rw [hR1] at hS;simp only [Bool.false_and,if_true] at hS;subst hS;have Hra':=q_ (fun w1 hf=>hR1▸Hra.o w1 hf);clear hR1;go_enter Tryz.func44,Tryz.ntmps44;go_wp2_with fail;refine (Hra'.o _ (Fr.t)).mono ?_;rintro e w1 ⟨rfl,hf⟩;have hc:=(hf.block (w.heap.size+1+1) i_ i_).trans (show _=some (.cells #[.bool false,.slice none 0 0] 30 (0,0)) from hpT);obtain⟨c0,c1⟩:=e2_ hc;have z0:=hEF hc 0;have z1:=hEF hc 1;have cl:=lBk hc;have Hc:=q_ hc;have Hf:=q_ (Fr.trans0 (Fr.t:Fr [] w _) hf);clear hf hc;go_wp2;(try simp only [Exit.inBlock,Exit.then]);refine bodyPost_ret (bRS rfl (b:=w.heap.size+1+1) (x:=.bool false) (y:=.slice none 0 0) rfl ?_ rfl) rfl ⟨_,_,⟨Nat.le_refl _,fun g hg=>(by cases hg)⟩,rfl,reads_nil _,?_⟩;·
   have h:=Hc.o;(repeat first|rw [if_pos o_]|rw [if_neg o_]|rw [hDR]|rw [hDN]|rw [hAz]|rw [hSz]|rw [hAC]|rw [hSC]|rw [oMS]|rw [uPC]|rw [lSZ]|rw [lSS]|rfl);rw [h];exact hpT
  ·exact (Hf.o.setCell (.inr t_) _).setCell (.inr t_) _
 | true =>
  have Hra':=q_ (fun w1 hf=>hR1▸Hra.o w1 hf);obtain⟨cA,lA,_⟩:=C7 hR1;have HcA:=q_ cA;rw [hR1] at hS;clear hR1 cA Hra;cases hR2:A7 nb db with
  | false =>
   rw [hR2] at hS;simp only [Bool.and_false,if_true] at hS;subst hS;have Hrb':=q_ (fun w1 hf=>hR2▸Hrb.o w1 hf);clear hR2;go_enter Tryz.func44,Tryz.ntmps44;go_wp2_with fail;refine (Hra'.o _ (Fr.t)).mono ?_;rintro e w1 ⟨rfl,hf⟩;have hb:=(hf.block (w.heap.size+1) i_ i_).trans (show _=some (.cells #[.bool nb,.slice b db.length bc] 30 (0,0)) from hpT);obtain⟨b0,b1,bl⟩:=l2_ hb;have Hc1:=q_ ((hf.block (w.heap.size+1+1) i_ i_).trans (show _=some (.cells #[.bool false,.slice none 0 0] 30 (0,0)) from hpT));have Hf1:=q_ (Fr.trans0 (Fr.t:Fr [] w _) hf);clear hf hb;go_wp2_with fail;refine (Hrb'.o _ Hf1.o).mono ?_;rintro e w2 ⟨rfl,hf⟩;have hc:=tk hf Hc1;obtain⟨c0,c1⟩:=e2_ hc;have z0:=hEF hc 0;have z1:=hEF hc 1;have cl:=lBk hc;have Hc:=q_ hc;have Hf:=q_ (Hf1.o.trans0 hf);clear hf hc b0 b1;go_wp2;(try simp only [Exit.inBlock,Exit.then]);refine bodyPost_ret (bRS rfl (b:=w.heap.size+1+1) (x:=.bool false) (y:=.slice none 0 0) rfl ?_ rfl) rfl ⟨_,_,⟨Nat.le_refl _,fun g hg=>(by cases hg)⟩,rfl,reads_nil _,?_⟩;·
    have h:=Hc.o;(repeat first|rw [if_pos o_]|rw [if_neg o_]|rw [hDR]|rw [hDN]|rw [hAz]|rw [hSz]|rw [hAC]|rw [hSC]|rw [oMS]|rw [uPC]|rw [lSZ]|rw [lSS]|rfl);rw [h];exact hpT
   ·exact (Hf.o.setCell (.inr t_) _).setCell (.inr t_) _
  | true =>
   have Hrb':=q_ (fun w1 hf=>hR2▸Hrb.o w1 hf);obtain⟨cB,lB,_⟩:=C7 hR2;have HcB:=q_ cB;rw [hR2] at hS;simp only [Bool.and_self,Bool.true_eq_false,if_false] at hS;have HS:=q_ hS;clear hR2 cB Hrb hS;go_enter Tryz.func44,Tryz.ntmps44;go_wp2_with fail;refine (Hra'.o _ (Fr.t)).mono ?_;rintro e w1 ⟨rfl,hf⟩;have hb:=(hf.block (w.heap.size+1) i_ i_).trans (show _=some (.cells #[.bool nb,.slice b db.length bc] 30 (0,0)) from hpT);obtain⟨b0,b1,bl⟩:=l2_ hb;have Hb1:=q_ hb;have Ha1:=q_ ((hf.block w.heap.size u_' i_).trans (show _=some (.cells #[.bool na,.slice a da.length ac] 30 (0,0)) from hpT));have Hc1:=q_ ((hf.block (w.heap.size+1+1) i_ i_).trans (show _=some (.cells #[.bool false,.slice none 0 0] 30 (0,0)) from hpT));have Hf1:=q_ (Fr.trans0 (Fr.t:Fr [] w _) hf);clear hf hb;go_wp2_with fail;refine (Hrb'.o _ Hf1.o).mono ?_;rintro e w2 ⟨rfl,hf⟩;have hc2:=tk hf Hc1;have ha2:=tk hf Ha1;have hb2:=tk hf Hb1;clear b0 b1 bl;obtain⟨a0,a1,al⟩:=l2_ ha2;obtain⟨b0,b1,bl⟩:=l2_ hb2;have Hc2:=q_ hc2;have Ha2:=q_ ha2;have Hb2:=q_ hb2;have Hf2:=q_ (Hf1.o.trans0 hf);clear hf hc2 ha2 hb2;by_cases hn:na=nb;·
    subst hn;have hS:=HS.o;rw [if_pos rfl] at hS;have HS1:=q_ hS;clear hS HS;go_wp2;refine wS [([0,1,2,3,4,5,6],[1]),([7,8,9,10,11],[])] ?_;(simp only [A2,pick,aq_,bq_,cq_,dq_,eq_]);go_wp2_with fail;refine (P5 (Ha.o.fr (by have:=Hf2.o;exact Fr.t)) (Hb.o.fr (by have:=Hf2.o;exact Fr.t)) HDa.o HDb.o o_ o_).mono ?_;rintro e w3 ⟨pa,pc,ds,rfl,ho,hD,hV,hl,hlc,hf0⟩;have hf:Fr [] w2 w3:=Fr.trans0 (Fr.t) hf0;have ha3:=(hf.block _ al i_).trans Ha2.o;have a0':=hEC ha3 0;have a1':=hEC ha3 1;have al':=lBk ha3;have Ho3:=q_ ho;have HD3:=q_ hD;have HV3:=q_ hV;have Hl3:=q_ hl;have Hlc:=q_ hlc;have Hc3:=q_ (tk hf Hc2);have Hf3:=q_ (Hf2.o.trans0 hf);clear ho hD hV hl hlc hf hf0 ha3 a0 a1 al b0 b1 bl;go_wp2;refine mD_ ⟨⟨ac_ (T:=4) rfl rfl rfl Tryz.underlying4 rfl a0' rfl,trivial⟩,?_⟩;go_wp2_with fail;refine (Cz (neg:=na) (Reads.of_owns Ho3.o) HD3.o (by have:=Hl3.o;omega) Hlc.o (A:=fun g=>w2.heap.size≤g) (fun g hg=>B7 Ho3.o hg)).mono ?_;rintro e w4 ⟨ra,rc,hlo,rfl,hr,hf⟩;rw [HV3.o,← HS1.o] at hlo hr;rw [HV3.o,← HS1.o];have hc4:=tk hf Hc3;obtain⟨c0,c1⟩:=e2_ hc4;have z0:=hEF hc4 0;have z1:=hEF hc4 1;have cl:=lBk hc4;have Hc:=q_ hc4;have Hlo:=q_ hlo;have Hr:=q_ hr;have Hf:=q_ (Hf3.o.trans0 hf);have hcl2:w.heap.size+1+1<w2.heap.size:=lBk Hc2.o;have Hcl2:=q_ hcl2;clear hlo hr hf hc4 a0' a1' al' hcl2;obtain⟨r1,r2,r3⟩:=r;go_wp2;refine mD_ ⟨trivial,sT_ rfl ?_⟩;go_wp2;(try simp only [Exit.inBlock,Exit.then]);refine bodyPost_ret (bRS rfl (b:=w.heap.size+1+1) (x:=.bool r1) (y:=.slice ra r2.length rc) rfl ?_ rfl) rfl ⟨_,_,⟨Hlo.o.1,fun g hg=>(by have:=Hlo.o.2 g hg;have:=Hcl2.o;omega)⟩,rfl,?_,?_⟩;·
     have h:=Hc.o;(repeat first|rw [if_pos o_]|rw [if_neg o_]|rw [hDR]|rw [hDN]|rw [hAz]|rw [hSz]|rw [hAC]|rw [hSC]|rw [oMS]|rw [uPC]|rw [lSZ]|rw [lSS]|rfl);rw [h];exact hpT
    ·refine Hr.o.keep fun x hx hl=>?_;have:=Hlo.o.2 x hx;have hcl:=Hcl2.o;rw [sCE _ _ _ u_',sCE _ _ _ u_']
    ·exact (Hf.o.setCell (.inr t_) _).setCell (.inr t_) _
   ·have hS:=HS.o;rw [if_neg hn] at hS;have hnb:(na != nb)=true:=(by simpa using hn);have hne:(na == nb)=false:=(by simpa using hn);have HN:=q_ hn;have hag:=fun w3 (hf:Fr [] w w3)=>Gv (Ha.o.fr hf) (Hb.o.fr hf) HDa.o HDb.o HcA.o HcB.o o_ o_;clear hn HS;by_cases hv:val 4294967296 da<val 4294967296 db;·
     rw [if_pos hv] at hS;have hc:Gc (val 4294967296 da) (val 4294967296 db)=-1:=(by unfold Gc;rw [if_pos hv]);rw [hc] at hag;have hlen:da.length≤db.length:=by
      rcases Nat.lt_or_ge db.length da.length with h|h
      ·have:=Im o_ HDb.o HDa.o HcA.o h;omega
      ·exact h
     have HS1:=q_ hS;have Hlen:=q_ hlen;have Hval:=q_ (Nat.le_of_lt hv);have Hag:=q_ hag;clear hS hlen hc hag hv;go_wp2_with fail;refine (Hag.o _ Hf2.o).mono ?_;rintro e w3 ⟨rfl,hd⟩;have hf:=hd.fr [];have H23:=q_ hf.size;have ha3:=(hf.block _ al i_).trans Ha2.o;have hb3:=(hf.block _ bl i_).trans Hb2.o;have Hc3':=q_ (tk hf Hc2);have Hf3':=q_ (Hf2.o.trans0 hf);clear a0 a1 al b0 b1 bl;obtain⟨a0,a1,al⟩:=l2_ ha3;obtain⟨b0,b1,bl⟩:=l2_ hb3;have az0:=hEF ha3 0;have az1:=hEF ha3 1;have bz0:=hEF hb3 0;have bz1:=hEF hb3 1;have Ha3:=q_ ha3;have Hb3:=q_ hb3;clear hd hf ha3 hb3;go_wp2;refine aBW (fun W=>W.heap[w.heap.size]?=some (.cells #[.bool nb,.slice b db.length bc] 30 (0,0))∧W.heap[w.heap.size+1]?=some (.cells #[.bool na,.slice a da.length ac] 30 (0,0)) ∧
      W.heap[w.heap.size+1+1]?=some (.cells #[.bool false,.slice none 0 0] 30 (0,0))∧Fr [] w W∧w2.heap.size≤W.heap.size) ?_ ?_
     ·have ha3:=Ha3.o;have hb3:=Hb3.o;have hc3:=Hc3'.o;refine⟨by (repeat first|rw [if_pos o_]|rw [if_neg o_]|rw [hDR]|rw [hDN]|rw [hAz]|rw [hSz]|rw [hAC]|rw [hSC]|rw [oMS]|rw [uPC]|rw [lSZ]|rw [lSS]|rfl);rw [ha3];(repeat first|rw [if_pos o_]|rw [if_neg o_]|rw [hDR]|rw [hDN]|rw [hAz]|rw [hSz]|rw [hAC]|rw [hSC]|rw [oMS]|rw [uPC]|rw [lSZ]|rw [lSS]|rfl),by (repeat first|rw [if_pos o_]|rw [if_neg o_]|rw [hDR]|rw [hDN]|rw [hAz]|rw [hSz]|rw [hAC]|rw [hSC]|rw [oMS]|rw [uPC]|rw [lSZ]|rw [lSS]|rfl);rw [hb3];(repeat first|rw [if_pos o_]|rw [if_neg o_]|rw [hDR]|rw [hDN]|rw [hAz]|rw [hSz]|rw [hAC]|rw [hSC]|rw [oMS]|rw [uPC]|rw [lSZ]|rw [lSS]|rfl),by (repeat first|rw [if_pos o_]|rw [if_neg o_]|rw [hDR]|rw [hDN]|rw [hAz]|rw [hSz]|rw [hAC]|rw [hSC]|rw [oMS]|rw [uPC]|rw [lSZ]|rw [lSS]|rfl);exact hc3,?_,by simp only [hSz];exact H23.o⟩;exact (((Hf3'.o.setCell (.inr t_) _).setCell (.inr t_) _).setCell (.inr t_) _).setCell (.inr t_) _
     clear a0 a1 al b0 b1 bl az0 az1 bz0 bz1;rintro W5 ⟨ha5,hb5,hc5,hf5,h25⟩;obtain⟨a0,a1,al⟩:=l2_ ha5;obtain⟨b0,b1,bl⟩:=l2_ hb5;have Ha5:=q_ ha5;have Hc5:=q_ hc5;have Hf5:=q_ hf5;have H25:=q_ h25;clear ha5 hb5 hc5 hf5 h25;refine wS [([0,1,2,3,4,5,6],[1]),([7,8,9,10,11],[])] ?_;(simp only [A2,pick,aq_,bq_,cq_,dq_,eq_]);go_wp2_with fail;refine (Nt (Hb.o.fr ?q1) (Ha.o.fr ?q2) HDb.o HDa.o o_ Hlen.o Hval.o).mono ?_;case q1=>have:=Hf5.o;exact Fr.t
     case q2=>have:=Hf5.o;exact Fr.t
     rintro e w6 ⟨pa,pc,ds,rfl,ho,hD,hV,hl,hlc,hf0⟩;have hf:Fr [] W5 w6:=Fr.trans0 (Fr.t) hf0;have ha3:=(hf.block _ al i_).trans Ha5.o;have a0':=hEC ha3 0;have a1':=hEC ha3 1;have al':=lBk ha3;have Ho3:=q_ ho;have HD3:=q_ hD;have HV3:=q_ hV;have Hl3:=q_ hl;have Hlc:=q_ hlc;have Hc3:=q_ (tk hf Hc5);have Hf3:=q_ (Hf5.o.trans0 hf);clear ho hD hV hl hlc hf hf0 ha3 a0 a1 al b0 b1 bl;go_wp2;refine mD_ ⟨⟨ac_ (T:=4) rfl rfl rfl Tryz.underlying4 rfl a0' rfl,trivial⟩,?_⟩;go_wp2_with fail;refine (Cz (neg:=nb) (Reads.of_owns Ho3.o) HD3.o (by have:=Hl3.o;omega) Hlc.o (A:=fun g=>w2.heap.size≤g) (fun g hg=>by have h1:W5.heap.size≤g:=B7 Ho3.o hg;have:=H25.o;omega)).mono ?_;rintro e w7 ⟨ra,rc,hlo,rfl,hr,hf⟩;rw [HV3.o,← HS1.o] at hlo hr;rw [HV3.o,← HS1.o];have hc4:=tk hf Hc3;obtain⟨c0,c1⟩:=e2_ hc4;have z0:=hEF hc4 0;have z1:=hEF hc4 1;have cl:=lBk hc4;have Hc:=q_ hc4;have Hlo:=q_ hlo;have Hr:=q_ hr;have Hf:=q_ (Hf3.o.trans0 hf);have hcl2:w.heap.size+1+1<w2.heap.size:=lBk Hc2.o;have Hcl2:=q_ hcl2;clear hlo hr hf hc4 a0' a1' al' hcl2;obtain⟨r1,r2,r3⟩:=r;go_wp2;refine mD_ ⟨trivial,sT_ rfl ?_⟩;go_wp2;(try simp only [Exit.inBlock,Exit.then]);refine bodyPost_ret (bRS rfl (b:=w.heap.size+1+1) (x:=.bool r1) (y:=.slice ra r2.length rc) rfl ?_ rfl) rfl ⟨_,_,⟨Hlo.o.1,fun g hg=>(by have:=Hlo.o.2 g hg;have:=Hcl2.o;omega)⟩,rfl,?_,?_⟩;·
      have h:=Hc.o;(repeat first|rw [if_pos o_]|rw [if_neg o_]|rw [hDR]|rw [hDN]|rw [hAz]|rw [hSz]|rw [hAC]|rw [hSC]|rw [oMS]|rw [uPC]|rw [lSZ]|rw [lSS]|rfl);rw [h];exact hpT
     ·refine Hr.o.keep fun x hx hl=>?_;have:=Hlo.o.2 x hx;have hcl:=Hcl2.o;rw [sCE _ _ _ u_',sCE _ _ _ u_']
     ·exact (Hf.o.setCell (.inr t_) _).setCell (.inr t_) _
    ·rw [if_neg hv] at hS;have hc:0≤Gc (val 4294967296 da) (val 4294967296 db):=(by unfold Gc;rw [if_neg hv];split<;>omega);have hlen:db.length≤da.length:=by
      rcases Nat.lt_or_ge da.length db.length with h|h
      ·have:=Im o_ HDa.o HDb.o HcB.o h;omega
      ·exact h
     obtain⟨q,hq⟩:∃ q,Gc (val 4294967296 da) (val 4294967296 db)=q:=⟨_,rfl⟩;rw [hq] at hag hc;have HS1:=q_ hS;have Hlen:=q_ hlen;have Hval:=q_ (Nat.le_of_not_lt hv);have Hag:=q_ hag;have hqd:decide (q<0)=false:=u_';clear hS hlen hag hv hq;go_wp2_with fail;refine (Hag.o _ Hf2.o).mono ?_;rintro e W5 ⟨rfl,hd⟩;have hf:=hd.fr [];have H25:=q_ hf.size;have ha3:=(hf.block _ al i_).trans Ha2.o;have hb3:=(hf.block _ bl i_).trans Hb2.o;have Hc5:=q_ (tk hf Hc2);have Hf5:=q_ (Hf2.o.trans0 hf);clear a0 a1 al b0 b1 bl;obtain⟨a0,a1,al⟩:=l2_ ha3;obtain⟨b0,b1,bl⟩:=l2_ hb3;have Ha5:=q_ ha3;clear hd hf ha3 hb3;go_wp2;refine wS [([0,1,2,3,4,5,6],[1]),([7,8,9,10,11],[])] ?_;(simp only [A2,pick,aq_,bq_,cq_,dq_,eq_]);go_wp2_with fail;refine (Nt (Ha.o.fr ?q1) (Hb.o.fr ?q2) HDa.o HDb.o o_ Hlen.o Hval.o).mono ?_;case q1=>have:=Hf5.o;exact Fr.t
     case q2=>have:=Hf5.o;exact Fr.t
     rintro e w6 ⟨pa,pc,ds,rfl,ho,hD,hV,hl,hlc,hf0⟩;have hf:Fr [] W5 w6:=Fr.trans0 (Fr.t) hf0;have ha3:=(hf.block _ al i_).trans Ha5.o;have a0':=hEC ha3 0;have a1':=hEC ha3 1;have al':=lBk ha3;have Ho3:=q_ ho;have HD3:=q_ hD;have HV3:=q_ hV;have Hl3:=q_ hl;have Hlc:=q_ hlc;have Hc3:=q_ (tk hf Hc5);have Hf3:=q_ (Hf5.o.trans0 hf);clear ho hD hV hl hlc hf hf0 ha3 a0 a1 al b0 b1 bl;go_wp2;refine mD_ ⟨⟨ac_ (T:=4) rfl rfl rfl Tryz.underlying4 rfl a0' rfl,trivial⟩,?_⟩;go_wp2_with fail;refine (Cz (neg:=na) (Reads.of_owns Ho3.o) HD3.o (by have:=Hl3.o;omega) Hlc.o (A:=fun g=>w2.heap.size≤g) (fun g hg=>by have h1:W5.heap.size≤g:=B7 Ho3.o hg;have:=H25.o;omega)).mono ?_;rintro e w7 ⟨ra,rc,hlo,rfl,hr,hf⟩;rw [HV3.o,← HS1.o] at hlo hr;rw [HV3.o,← HS1.o];have hc4:=tk hf Hc3;obtain⟨c0,c1⟩:=e2_ hc4;have z0:=hEF hc4 0;have z1:=hEF hc4 1;have cl:=lBk hc4;have Hc:=q_ hc4;have Hlo:=q_ hlo;have Hr:=q_ hr;have Hf:=q_ (Hf3.o.trans0 hf);have hcl2:w.heap.size+1+1<w2.heap.size:=lBk Hc2.o;have Hcl2:=q_ hcl2;clear hlo hr hf hc4 a0' a1' al' hcl2;obtain⟨r1,r2,r3⟩:=r;go_wp2;refine mD_ ⟨trivial,sT_ rfl ?_⟩;go_wp2;(try simp only [Exit.inBlock,Exit.then]);refine bodyPost_ret (bRS rfl (b:=w.heap.size+1+1) (x:=.bool r1) (y:=.slice ra r2.length rc) rfl ?_ rfl) rfl ⟨_,_,⟨Hlo.o.1,fun g hg=>(by have:=Hlo.o.2 g hg;have:=Hcl2.o;omega)⟩,rfl,?_,?_⟩;·
      have h:=Hc.o;(repeat first|rw [if_pos o_]|rw [if_neg o_]|rw [hDR]|rw [hDN]|rw [hAz]|rw [hSz]|rw [hAC]|rw [hSC]|rw [oMS]|rw [uPC]|rw [lSZ]|rw [lSS]|rfl);rw [h];exact hpT
     ·refine Hr.o.keep fun x hx hl=>?_;have:=Hlo.o.2 x hx;have hcl:=Hcl2.o;rw [sCE _ _ _ u_',sCE _ _ _ u_']
     ·exact (Hf.o.setCell (.inr t_) _).setCell (.inr t_) _
theorem From_calls {n:Int} (h1:-9223372036854775808≤n) (h2:n<9223372036854775808) :
  Calls Tryz.prog 45 #[.int .i64 n] w (Mt w (w.heap.size≤·) (Nx n)):=by
 have hsz:=fun w1=>size_calls (w:=w1) h1 h2;have hb:n.natAbs<18446744073709551616:=o_
 unfold Nx;obtain⟨neg,hneg⟩:∃ neg,decide (n<0)=neg:=⟨_,rfl⟩;rw [hneg];generalize n.natAbs=v at *
 obtain⟨r,hrr⟩:∃ r,mkN neg v=r:=⟨_,rfl⟩;rw [hrr];have HRR:=q_ hrr;clear hrr;have Hsz:=q_ hsz;have hv:val 4294967296 [v % 4294967296,v / 4294967296 % 4294967296]=v:=by simp only [val];omega
 have hdd:Dig 4294967296 [v % 4294967296,v / 4294967296 % 4294967296]:=fun x hx=>by simp at hx;omega
 have Hv:=q_ hv;have Hdd:=q_ hdd;have Hb:=q_ (And.intro h1 (And.intro h2 hb));clear hsz hv hdd h1 h2 hb;go_enter Tryz.func45,Tryz.ntmps45;go_wp2_with fail;refine (Hsz.o _).mono ?_;rintro e w1 ⟨rfl,rfl⟩;go_wp2_with fail;refine (Cz (ds:=[v % 4294967296,v / 4294967296 % 4294967296]) (A:=fun g=>w.heap.size+1≤g) (C3 (cs:=Aw [v % 4294967296,v / 4294967296 % 4294967296]) hpT rfl) Hdd.o i_ i_ (fun g hg=>by simp [Value.ownBlock] at hg;omega)).mono ?_;rintro e w2 ⟨ra,rc,hlo,rfl,hr,hf⟩;rw [Hv.o,HRR.o] at hlo hr;rw [Hv.o,HRR.o];have hc:=(hf.block w.heap.size u_' i_).trans (show _=some (.cells #[.bool false,.slice none 0 0] 30 (0,0)) from hpT);obtain⟨c0,c1⟩:=e2_ hc;have z0:=hEF hc 0;have z1:=hEF hc 1;have cl:=lBk hc;have Hc:=q_ hc;have Hlo:=q_ hlo;have Hr:=q_ hr;have Hf:=q_ (Fr.trans0 (Fr.t:Fr [] w _) hf);clear hlo hr hf hc;obtain⟨r1,r2,r3⟩:=r;go_wp2;(try simp only [Exit.inBlock,Exit.then]);refine bodyPost_ret (Ai rfl (b:=w.heap.size) (x:=.bool r1) (y:=.slice ra r2.length rc) rfl ?_) rfl ⟨_,_,⟨Hlo.o.1,fun g hg=>(by have h:=Hlo.o.2 g hg;omega)⟩,rfl,?_,?_⟩;·
  have h:=Hc.o;(repeat first|rw [if_pos o_]|rw [if_neg o_]|rw [hDR]|rw [hDN]|rw [hAz]|rw [hSz]|rw [hAC]|rw [hSC]|rw [oMS]|rw [uPC]|rw [lSZ]|rw [lSS]|rfl);first|exact h|(rw [h];(repeat first|rw [if_pos o_]|rw [if_neg o_]|rw [hDR]|rw [hDN]|rw [hAz]|rw [hSz]|rw [hAC]|rw [hSC]|rw [oMS]|rw [uPC]|rw [lSZ]|rw [lSS]|rfl))
 ·refine Hr.o.keep fun x hx hl=>?_;have h1:=Hlo.o.2 x hx;rw [hAE _ _ _ (by simp only [hSz];exact hl),sCE _ _ _ u_',sCE _ _ _ u_']
 ·repeat (first|exact Hf.o|refine Fr.alloc ?_ _|refine Fr.setCell ?_ (.inr f_') _)
theorem info_i64:(Tryz.prog.info? 3).map (fun i=>(i.zero,i.size,i.bytes))=some (some (.int .i64 0),1,8):=by kernel_rfl
variable {n:Nat}{y:Int}
theorem Bz {ops:Array Oper} {rest:List Oper} {o:Oper} {a:Act} {W:World} {Q:Exit→Act→World→Prop} (hgd:o.guard=none) {s x:Operand} (ho:o.op=.call { callee:=.builtin .append,args:=#[s,x],argTypes:=#[72,72] })
  {base:Nat} {xs:List Value} (hs:a.eval s=v) (hown:W.ownsRow base 3 1 v n xs) {nb:Nat} (hx:a.eval x=.slice (some ⟨nb,0,none⟩) 1 c)
  (hnb:W.heap[nb]?=some (.cells #[.int .i64 y] 3 (0,0))) (hn:n≤4000000000000) (hbase:base≤W.heap.size)
  (h:∀ g cap w',w'.ownsRow base 3 1 (.slice (some ⟨g,0,none⟩) (n+1) cap) (n+1) (xs++[.int .i64 y])→(∀ b,b<W.heap.size→v.ownBlock≠some b→w'.heap[b]?=W.heap[b]?)→Fr v.ownBlock.toList W w'→(v.ownBlock=some g∨g=W.heap.size)→g<w'.heap.size →
   wpList Tryz.prog ops Q rest (a.put o.dst (.slice (some ⟨g,0,none⟩) (n+1) cap)) w'):wpList Tryz.prog ops Q (o::rest) a W :=
 Lk hgd ho Tryz.underlying72 info_i64 rfl (by decide) hs hown hx (news:=[.int .i64 y]) hnb rfl (by intro u hu;simp at hu;subst hu;rfl) (by unfold maxLen;omega) o_ hbase h
theorem Mo (hv:Reads w v ds.length 1 (Aw ds)) (hl:ds.length≤9223372036854775807) :
  Calls Tryz.prog 9 #[.agg #[.bool neg,v]] w fun e w'=>e=.returned (.bool (A7 neg ds))∧Fr [] w w':=by
 obtain⟨_,a,c,rfl,hav⟩:=hv;have Hav:=q_ hav;clear hav;by_cases h0:ds.length=0;·
  have hd:decide ((ds.length:Int)=0)=true:=by simp [h0]
  have hR:A7 neg ds=!neg:=by unfold A7;rw [if_pos h0]
  have HR:=q_ hR;obtain rfl:=List.eq_nil_of_length_eq_zero h0;clear h0 hR hd;go_enter Tryz.func9,Tryz.ntmps9;go_wp2;go_ret;exact⟨by rw [HR.o];rfl,Fr.t⟩
 ·obtain⟨g,off,rfl,hg,hc⟩:=Hav.o o_;have hcz:=hc (ds.length - 1) _ (Av o_);have hd:((ds.length:Int) == 0)=false:=by rw [beq_eq_false_iff_ne];omega
  have hp1:(1:Int)≤ds.length:=o_
  have hp2:(ds.length:Int) - 1<ds.length:=o_
  by_cases h64:ds.length≤64;·
   have hd2:decide ((ds.length:Int)≤64)=true:=u_';have hR:A7 neg ds=(((ds.getD (ds.length - 1) 0:Nat):Int) != 0):=by unfold A7;rw [if_neg h0,Bool.eq_iff_iff];simp;omega
   have HR:=q_ hR;have H0:=q_ h0;generalize ds.getD (ds.length - 1) 0=y at *
   clear h0 hR hc;go_enter Tryz.func9,Tryz.ntmps9;go_wp2;go_ret;exact⟨by rw [HR.o];rfl,Fr.t⟩
  ·have hd2:decide ((ds.length:Int)≤64)=false:=u_';have hR:A7 neg ds=false:=by
    unfold A7;rw [if_neg h0,Bool.eq_iff_iff];simp;omega
   have HR:=q_ hR;have H0:=q_ h0;clear h0 hcz hR hc;go_enter Tryz.func9,Tryz.ntmps9;go_wp2;go_ret;exact⟨by rw [HR.o];rfl,Fr.t⟩
theorem Fo (hv:Reads w v ds.length 1 (Bi ds)) (hl:ds.length≤1000000) (i:Nat) :
  Calls Tryz.prog 102 #[v,.int .i64 i] w fun e w'=>e=.returned (.int .i64 (ds.getD i 0:Nat))∧w=w':=by
 obtain⟨_,a,c,rfl,hav⟩:=hv;by_cases h:i<ds.length;·
  obtain⟨g,off,rfl,hg,hc⟩:=hav o_;have hcz:=hc i _ (Pn h);clear hc hav;generalize ds.getD i 0=y at *
  go_enter Tryz.func102,Tryz.ntmps102;go_wp2;go_ret;exact⟨rfl,rfl⟩
 ·have h0:ds.getD i 0=0:=by rw [List.getD_eq_getElem?_getD,List.getElem?_eq_none o_];rfl
  rw [h0];clear h0 hav;go_enter Tryz.func102,Tryz.ntmps102;go_wp2;go_ret;exact⟨rfl,rfl⟩
theorem trim_calls0 (hv:Reads w (.slice a ds.length c) ds.length 1 (Bi ds)) (hD:Dig 256 ds) (hl:ds.length≤1000000) (hc:ds.length≤c) :
  Calls Tryz.prog 74 #[.slice a ds.length c] w fun e w'=>e=.returned (.slice a (Eu 256 ds).length (Eu 256 ds).length)∧w=w':=by
 obtain⟨_,a',c',he,hav⟩:=hv;cases he;have Hav:=q_ hav;have HD:=q_ hD;clear hav hD;obtain⟨n,hn⟩:∃ n,ds.length=n:=⟨_,rfl⟩;rw [hn] at hl hc ⊢;rw [hn] at Hav;have Hn:=q_ hn;clear hn;go_enter Tryz.func74,Tryz.ntmps74;go_wp2;go_loop [3] (fun x=>∃ k:Nat,k≤n∧x=.int .i64 k∧Eu 256 (ds.take k)=Eu 256 ds) (fun x=>(intOf x).toNat);case atStart=>exact⟨n,Nat.le_refl _,rfl,by rw [← Hn.o,List.take_length]⟩
 case round =>
  obtain⟨k,hk,rfl,hT⟩:=hrel;have HT:=q_ hT;clear hT;cases k with
  | zero =>have e:(Eu 256 ds).length=0:=(by rw [← HT.o,List.take_zero,Qm];rfl);go_wp2;go_ret;exact⟨rfl,rfl⟩
  | succ k =>
   obtain⟨g,off,rfl,hg,hcc⟩:=Hav.o o_;have hkn:k<ds.length:=(by have:=Hn.o;omega);have hcz:=hcc k _ (Pn hkn);have htk:ds.take (k+1)=ds.take k++[ds.getD k 0]:=by rw [List.take_add_one,List.getElem?_eq_getElem o_,List.getD_eq_getElem?_getD,List.getElem?_eq_getElem o_];rfl
   have Htk:=q_ htk;clear hcc htk hkn;obtain⟨y,hy⟩:∃ y,y=ds.getD k 0:=⟨_,rfl⟩;rw [← hy] at hcz Htk;have Hy:=q_ hy;clear hy;by_cases hz:y=0;·
    subst hz;go_wp2;go_round;case rel=>exact⟨k,o_,by go_num,by have:=HT.o;rwa [Htk.o,L6] at this⟩
    case measure=>simp [intOf]
   ·have hb:((y:Int) == 0)=false:=(by rw [beq_eq_false_iff_ne];omega);have Hz:=q_ hz;clear hz;have e:(Eu 256 ds).length=k+1:=by
     have hT:=HT.o;have hD:=HD.o.take (k+1);rw [Htk.o] at hT hD;rw [Jd o_ hD (Q7 Hz.o)] at hT;rw [← hT,List.length_append,List.length_take,Nat.min_eq_left (by have:=Hn.o;omega)];rfl
    have E:=q_ e;clear e;go_wp2;go_ret;exact⟨by rw [E.o];rfl,rfl⟩
theorem L5 (hv:Reads w (.slice a ds.length c) ds.length 1 (Bi ds)) (hD:Dig 256 ds) (hl:ds.length≤1000000) (hc:ds.length≤c) (hlo:∀ g,(Value.slice a ds.length c).ownBlock=some g→A g) :
  Calls Tryz.prog 74 #[.slice a ds.length c] w (Mq w A (dg 256 (val 256 ds))):=by
 refine (trim_calls0 hv hD hl hc).mono ?_;rintro e w1 ⟨rfl,rfl⟩;exact⟨a,_,⟨Nat.le_refl _,fun g hg=>hlo g (Oj a _ _ _ c▸hg)⟩,rfl,(Nq hv hD _).1,Fr.refl _ _⟩
theorem O6 (hv:Reads w v ds.length 1 (Aw ds)) (hD:Dig 4294967296 ds) (hl:ds.length≤100000) :
  Calls Tryz.prog 30 #[.agg #[.bool neg,v]] w (Mq w (w.heap.size<·) (dg 256 (val 4294967296 ds))):=by
 obtain⟨_,a,c,rfl,hav⟩:=hv;have Hav:=q_ hav;have HD:=q_ hD;clear hav hD;obtain⟨n,hn⟩:∃ n,ds.length=n:=⟨_,rfl⟩;rw [hn] at hl ⊢;rw [hn] at Hav;have Hn:=q_ hn;clear hn;go_enter Tryz.func30,Tryz.ntmps30;go_wp2_with fail;go_loopw [3,4] (fun x3 x4 wl=>∃ (i:Nat) (L:List Nat),x4=.int .i64 i∧i≤n∧Dig 256 L∧L.length=4*i∧val 256 L=val 4294967296 (ds.take i)∧wl.ownsRow (w.heap.size+1) 3 1 x3 L.length (Bi L)∧Fr [] w wl ∧
  wl.heap[w.heap.size]?=some (.cells #[.bool neg,.slice a n c] 30 (0,0))) (fun _ x4 _=>n - (intOf x4).toNat)
 case atStart=>exact⟨0,[],rfl,o_,Dig.nil,rfl,rfl,World.ownsRow_nil _ _ _ _,Fr.t,by (repeat first|rw [if_pos o_]|rw [if_neg o_]|rw [hDR]|rw [hDN]|rw [hAz]|rw [hSz]|rw [hAC]|rw [hSC]|rw [oMS]|rw [uPC]|rw [lSZ]|rw [lSS]|rfl)⟩
 case round =>
  obtain⟨i,L,rfl,hi,hD,hL,hv,ho,hf,hb⟩:=hrel;obtain⟨oa,oc,rfl,hoa,hon⟩:=oFM ho;obtain⟨b0,b1,bl⟩:=l2_ hb;have HDL:=q_ hD;have HL:=q_ hL;have Hv:=q_ hv;have Ho:=q_ ho;have Hf:=q_ hf;have Hb:=q_ hb;clear hoa hon hD hL hv ho hb;by_cases hin:i<n;·
   obtain⟨g,off,rfl,hg,hc⟩:=Hav.o (by have:=Hn.o;omega);have e1:=(hf.cell (p:=⟨g,off+i,none⟩) hg i_).trans (hc i _ (Av (by have:=Hn.o;omega)));have hx:ds.getD i 0<4294967296:=HD.o.getD o_ i;have Hvt:=q_ (Am 4294967296 ds i);clear hc hf;generalize ds.getD i 0=x at *
   go_wp2_with fail;clear e1 b0 b1 bl;go_loopw [3,5,6] (fun x3 x5 x6 wl=>∃ (k d2:Nat) (L2:List Nat),x5=.int .u32 d2∧x6=.int .i64 k∧k≤4∧d2<256 ^ (4 - k)∧Dig 256 L2∧L2.length=4*i+k∧val 256 L2+256 ^ (4*i+k)*d2=val 4294967296 (ds.take i)+4294967296 ^ i*x ∧
    wl.ownsRow (w.heap.size+1) 3 1 x3 L2.length (Bi L2)∧Fr [] w wl∧wl.heap[w.heap.size]?=some (.cells #[.bool neg,.slice (some ⟨g,off,none⟩) n c] 30 (0,0))) (fun _ _ x6 _=>4 - (intOf x6).toNat)
   case atStart=>exact⟨0,x,L,rfl,rfl,o_,hx,HDL.o,HL.o,by rw [Hv.o,Nat.add_zero,Mz],Ho.o,Hf.o,Hb.o⟩
   case round =>
    obtain⟨k,d2,L2,rfl,rfl,hk,hd2,hD2,hL2,hv2,ho2,hf2,hb2⟩:=hrel;obtain⟨oa2,oc2,rfl,hoa2,hon2⟩:=oFM ho2;have HD2:=q_ hD2;have HL2:=q_ hL2;have Hv2:=q_ hv2;have Ho2:=q_ ho2;have Hf2:=q_ hf2;have Hb2:=q_ hb2;have Hd2:=q_ hd2;have hd2b:d2<4294967296:=Nat.lt_of_lt_of_le hd2 (Nat.pow_le_pow_right (show 0<256 by omega) (show 4 - k≤4 by omega));clear hoa2 hon2 hD2 hL2 hv2 ho2 hf2 hb2 hd2;by_cases hk4:k<4;·
     obtain⟨r,hr⟩:∃ r,r=d2 % 256:=⟨_,rfl⟩;have Er:((d2:Int) % 256)=(r:Nat):=o_;have hr256:r<256:=o_;have Hr:=q_ hr;clear hr;go_wp2_with (at_builtin;refine Bz (n:=L2.length) (base:=w.heap.size+1) (xs:=Bi L2) (y:=(r:Int)) rfl rfl rfl ?e1 rfl ?e2 ?e3 ?e4 ?_);case e1=>exact oOB Ho2.o fun y hy=>hAE _ _ _ (oLT Ho2.o hy)
     case e2=>(repeat first|rw [if_pos o_]|rw [if_neg o_]|rw [hDR]|rw [hDN]|rw [hAz]|rw [hSz]|rw [hAC]|rw [hSC]|rw [oMS]|rw [uPC]|rw [lSZ]|rw [lSS]|rfl)
     case e3=>have:=HL2.o;omega
     case e4=>have:=Hf2.o.size;have:=lBk Hb2.o;(first|omega|(simp only [hDR,hDN,hAz];omega)|(simp;omega))
     intro g2 cap w9 hown1 hW1 hF1 hloc1 hg1;rw [D5] at hown1;have Hb9:=q_ ((hW1 w.heap.size (by have:=lBk Hb2.o;(first|omega|(simp only [hDR,hDN,hAz];omega)|(simp;omega))) (fun e=>by have h:=B7 Ho2.o e;omega)).trans ((hAE _ _ _ (lBk Hb2.o)).trans Hb2.o));have Hown1:=q_ hown1;have Hf9:=q_ (Bs Hf2.o (Ft Ho2.o (Nat.le_succ _)) hF1);clear hown1 hW1 hF1 hloc1;go_wp2;go_roundw;case rel =>
      refine⟨k+1,d2 / 256,L2++[r],by go_num,by go_num,o_,?_,HD2.o.append (fun z hz=>by rw [List.mem_singleton] at hz;omega),by rw [List.length_append];have:=HL2.o;simp;omega,?_,by rw [List.length_append];exact Hown1.o,Hf9.o,Hb9.o⟩;·
       have h:=Hd2.o;rw [show 4 - k=(4 - (k+1))+1 by omega,Nat.pow_succ] at h;rw [Nat.div_lt_iff_lt_mul o_];exact h
      ·rw [Ck,HL2.o,Hr.o,show 4*i+(k+1)=4*i+k+1 by omega,Nat.pow_succ];exact bytes_step Hv2.o
     case measure=>simp [intOf];omega
    ·obtain rfl:k=4:=o_;have hd0:d2=0:=(by have:=Hd2.o;omega);have hv9:val 256 L2=val 4294967296 (ds.take (i+1)):=(by have h:=Hv2.o;rw [hd0,Nat.mul_zero,Nat.add_zero] at h;rw [Hvt.o];exact h);have Hv9:=q_ hv9;clear hv9 hd0 hd2b;go_wp2;go_roundw;case rel=>exact⟨i+1,L2,by go_num,o_,HD2.o,by have:=HL2.o;omega,Hv9.o,Ho2.o,Hf2.o,Hb2.o⟩
     case measure=>simp [intOf];omega
  ·obtain rfl:i=n:=o_;have hv:=Hv.o;rw [List.take_of_length_le (by have:=Hn.o;omega)] at hv;have ht:=L5 (Reads.of_owns Ho.o) HDL.o (by have:=HL.o;omega) (F7 Ho.o) (A:=fun g=>w.heap.size<g) (fun g hg=>B7 Ho.o hg);rw [hv] at ht;have Ht:=q_ ht;clear ht hv hf;go_wp2_with fail;refine Ht.o.mono ?_;rintro e w4 ⟨ra,rc,hlo,rfl,hr,hf⟩;have Hf5:=q_ (Hf.o.trans0 hf);have Hr:=q_ hr;have Hlo:=q_ hlo;clear hf hr hlo b0 b1 bl;go_wp2;go_ret;exact⟨ra,rc,Hlo.o,rfl,Hr.o,Hf5.o⟩
theorem O9 {k:Int} (hv:Reads w (.slice a ds.length c) ds.length 1 (Aw ds)) (hD:Dig 4294967296 ds) (hl:ds.length≤10000) (hc:ds.length≤c) (hk1:-9223372036854775808≤k) (hk2:k<9223372036854775808) :
  Calls Tryz.prog 95 #[.agg #[.bool neg,.slice a ds.length c],.int .i64 k] w (BigPost w (w.heap.size≤·) (D8 neg ds k)):=by
 have hra:=fun w1 (hf:Fr [] w w1)=>Ba (neg:=neg) (hv.fr hf) o_;have Hk:=q_ (And.intro hk1 hk2);clear hk1 hk2;obtain⟨r,hS⟩:∃ r,r=D8 neg ds k:=⟨_,rfl⟩;rw [← hS];unfold D8 at hS;have Hv:=q_ hv;have HDd:=q_ hD;clear hv hD;cases hR1:A7 neg ds with
 | false =>
  rw [hR1] at hS hra;simp only [if_true] at hS;subst hS;have Hra:=q_ hra;clear hR1 hra;go_enter Tryz.func95,Tryz.ntmps95;go_wp2_with fail;refine (Hra.o _ (Fr.t)).mono ?_;rintro e w1 ⟨rfl,hf⟩;have hc:=(hf.block (w.heap.size+1) i_ i_).trans (show _=some (.cells #[.bool false,.slice none 0 0] 30 (0,0)) from hpT);obtain⟨c0,c1⟩:=e2_ hc;have z0:=hEF hc 0;have z1:=hEF hc 1;have cl:=lBk hc;have Hc:=q_ hc;have Hf:=q_ (Fr.trans0 (Fr.t:Fr [] w _) hf);clear hf hc;go_wp2;(try simp only [Exit.inBlock,Exit.then]);refine bodyPost_ret (bRS rfl (b:=w.heap.size+1) (x:=.bool false) (y:=.slice none 0 0) rfl ?_ rfl) rfl ⟨_,_,⟨Nat.le_refl _,fun g hg=>(by cases hg)⟩,rfl,reads_nil _,?_⟩;·
   have h:=Hc.o;(repeat first|rw [if_pos o_]|rw [if_neg o_]|rw [hDR]|rw [hDN]|rw [hAz]|rw [hSz]|rw [hAC]|rw [hSC]|rw [oMS]|rw [uPC]|rw [lSZ]|rw [lSS]|rfl);rw [h];exact hpT
  ·exact (Hf.o.setCell (.inr t_) _).setCell (.inr t_) _
 | true =>
  obtain⟨cA,lA,_⟩:=C7 hR1;rw [hR1] at hS hra;simp only [Bool.true_eq_false,if_false] at hS;have Hra:=q_ hra;have HcA:=q_ cA;clear hR1 hra cA;by_cases h0:ds.length=0;·
   rw [if_pos h0] at hS;subst hS;rw [h0] at Hra ⊢;clear h0;go_enter Tryz.func95,Tryz.ntmps95;go_wp2_with fail;refine (Hra.o _ (Fr.t)).mono ?_;rintro e w1 ⟨rfl,hf⟩;have hb:=(hf.block w.heap.size u_' i_).trans (show _=some (.cells #[.bool neg,.slice a 0 c] 30 (0,0)) from hpT);obtain⟨b0,b1,bl⟩:=l2_ hb;have hc:=(hf.block (w.heap.size+1) i_ i_).trans (show _=some (.cells #[.bool false,.slice none 0 0] 30 (0,0)) from hpT);obtain⟨c0,c1⟩:=e2_ hc;have z0:=hEF hc 0;have z1:=hEF hc 1;have cl:=lBk hc;have Hc:=q_ hc;have Hf:=q_ (Fr.trans0 (Fr.t:Fr [] w _) hf);clear hf hc hb;go_wp2;(try simp only [Exit.inBlock,Exit.then]);refine bodyPost_ret (bRS rfl (b:=w.heap.size+1) (x:=.bool false) (y:=.slice none 0 0) rfl ?_ rfl) rfl ⟨_,_,⟨Nat.le_refl _,fun g hg=>(by cases hg)⟩,rfl,reads_nil _,?_⟩;·
    have h:=Hc.o;(repeat first|rw [if_pos o_]|rw [if_neg o_]|rw [hDR]|rw [hDN]|rw [hAz]|rw [hSz]|rw [hAC]|rw [hSC]|rw [oMS]|rw [uPC]|rw [lSZ]|rw [lSS]|rfl);rw [h];exact hpT
   ·exact (Hf.o.setCell (.inr t_) _).setCell (.inr t_) _
  rw [if_neg h0] at hS;by_cases hk:k<0;·
   rw [if_pos hk] at hS;unfold O3 at hS;have hd1:decide (k<0)=true:=u_';have hle:¬ ds.length=0:=h0;by_cases hbig:¬ k < -4096;obtain⟨m,hm⟩:∃ m:Nat,-k=m:=⟨(-k).toNat,o_⟩;have hmt:(-k).toNat=m:=o_;rw [if_neg hbig,hmt] at hS;have hdn:=fun w1 (hf:Fr [] w w1)=>down_calls (k:=m) (Hv.o.fr hf) HDd.o HcA.o o_ hc o_;obtain⟨X,hX⟩:∃ X,val 4294967296 ds / 2 ^ m=X:=⟨_,rfl⟩;obtain⟨lost,hlost⟩:∃ lost,decide (val 4294967296 ds % 2 ^ m≠0)=lost:=⟨_,rfl⟩;simp only [hX,hlost] at hdn;rw [hX,hlost] at hS;have HDN:=q_ hdn;have HS:=q_ hS;clear hdn hX hlost hS hmt h0
   rotate_left
   have hbig:=Decidable.not_not.1 hbig;rw [if_pos hbig] at hS;have hdn:=fun w1 (hf:Fr [] w w1)=>down_calls (k:=4096) (Hv.o.fr hf) HDd.o HcA.o o_ hc o_;obtain⟨X,hX⟩:∃ X,val 4294967296 ds / 2 ^ 4096=X:=⟨_,rfl⟩;obtain⟨lost,hlost⟩:∃ lost,decide (val 4294967296 ds % 2 ^ 4096≠0)=lost:=⟨_,rfl⟩;simp only [hX,hlost] at hdn;rw [hX,hlost] at hS;have HDN:=q_ hdn;have HS:=q_ hS;clear hdn hX hlost hS h0
   rotate_left
   all_goals
    go_enter Tryz.func95,Tryz.ntmps95;go_wp2_with fail;refine (Hra.o _ (Fr.t)).mono ?_;rintro e w1 ⟨rfl,hf⟩;have hb:=(hf.block w.heap.size u_' i_).trans (show _=some (.cells #[.bool neg,.slice a ds.length c] 30 (0,0)) from hpT);obtain⟨b0,b1,bl⟩:=l2_ hb;have Hb:=q_ hb;have Hc:=q_ ((hf.block (w.heap.size+1) i_ i_).trans (show _=some (.cells #[.bool false,.slice none 0 0] 30 (0,0)) from hpT));have Hf:=q_ (Fr.trans0 (Fr.t:Fr [] w _) hf);clear hf hb;go_wp2_with fail;refine (HDN.o _ Hf.o).mono ?_;rintro e w2 ⟨pa,pc,os,rfl,hr,hlo,hDo,hvo,hll,hcap,hf⟩;have hb2:=(hf.block _ bl i_).trans Hb.o;have b0':=hEC hb2 0;have bl':=lBk hb2;have Hb2:=q_ hb2;have hc2:=tk hf Hc;have Hc2:=q_ hc2;have Hf2:=q_ (Hf.o.trans0 hf);have Hr:=q_ hr;have Hlo:=q_ hlo;have HDo:=q_ hDo;have Hvo:=q_ hvo;have Hll:=q_ hll;have Hcap:=q_ hcap;have h2w:w.heap.size+1<w1.heap.size:=lBk Hc.o;have H2w:=q_ (And.intro h2w hf.size);clear hf hb2 hc2 hr hlo hDo hvo hll hcap b0 b1 bl h2w;cases neg<;>cases lost;go_wp2_with fail
    rotate_left 3
    ·have hS:=HS.o;simp only [Bool.and_self,if_true] at hS;refine (P5 (Hr.o.fr (Fr.t)) (C3 (cs:=Aw [1]) hpT rfl) HDo.o (db:=[1]) (fun x hx=>by simp at hx;omega) (by have:=Hll.o;omega) i_).mono ?_;rintro e w4 ⟨qa,qc,qs,rfl,ho,hD,hV,hl4,hlc,hf0⟩;rw [Hvo.o,show val 4294967296 [1]=1 by rfl] at hV;simp only [List.length_cons,List.length_nil] at hl4;have hmd:=Cz (neg:=true) (Reads.of_owns ho) hD (by have:=Hll.o;omega) hlc (A:=fun g=>w2.heap.size≤g) (fun g hg=>by have h:=B7 ho hg;simp at h;omega);rw [hV,← hS] at hmd;have HMD:=q_ (fun (A:Nat→Prop) (hA:∀ g,w2.heap.size≤g→A g)=>hmd.mono fun e w' h=>BigPost.mono h hA);have hf:Fr [] w2 w4:=Fr.trans0 (Fr.t) hf0;have b0'':=(hEC ((hf.block _ bl' i_).trans Hb2.o) 0);have bl'':=lBk ((hf.block _ bl' i_).trans Hb2.o);have Hc4:=q_ (tk hf Hc2);have Hf4:=q_ (Hf2.o.trans0 hf);clear ho hD hV hl4 hlc hf0 hf hmd hS;go_wp2_with fail;refine (HMD.o (fun g=>w1.heap.size≤g) (fun g hg=>by have:=H2w.o;omega)).mono ?_;rintro e w5 ⟨ra,rc,hlo,rfl,hr,hf⟩;have hc5:=tk hf Hc4;obtain⟨c0,c1⟩:=e2_ hc5;have z0:=hEF hc5 0;have z1:=hEF hc5 1;have cl:=lBk hc5;have Hc5:=q_ hc5;have Hlo5:=q_ hlo;have Hr5:=q_ hr;have Hf5:=q_ (Hf4.o.trans0 hf);clear hlo hr hf hc5;obtain⟨r1,r2,r3⟩:=r;go_wp2;(try simp only [Exit.inBlock,Exit.then]);refine bodyPost_ret (bRS rfl (b:=w.heap.size+1) (x:=.bool r1) (y:=.slice ra r2.length rc) rfl ?_ rfl) rfl ⟨_,_,⟨Hlo5.o.1,fun g hg=>(by have:=Hlo5.o.2 g hg;have:=H2w.o;omega)⟩,rfl,?_,?_⟩;·
      have h:=Hc5.o;(repeat first|rw [if_pos o_]|rw [if_neg o_]|rw [hDR]|rw [hDN]|rw [hAz]|rw [hSz]|rw [hAC]|rw [hSC]|rw [oMS]|rw [uPC]|rw [lSZ]|rw [lSS]|rfl);rw [h];exact hpT
     ·refine Hr5.o.keep fun x hx hl=>?_;have:=Hlo5.o.2 x hx;have hcl:=H2w.o;rw [sCE _ _ _ u_',sCE _ _ _ u_']
     ·exact (Hf5.o.setCell (.inr t_) _).setCell (.inr t_) _
    all_goals
     have hS:=HS.o;simp only [Bool.and_self,Bool.false_and,Bool.and_false,Bool.false_eq_true,if_false,Nat.add_zero] at hS;have HSS:=q_ hS;have hmd:=fun neg=>Cz (neg:=neg) Hr.o HDo.o (by have:=Hll.o;omega) Hcap.o (A:=fun g=>w1.heap.size≤g) Hlo.o;simp only [Hvo.o] at hmd;have HMD:=q_ hmd;have Hc4:=q_ Hc2.o;have Hf4:=q_ Hf2.o;clear hS hmd;refine (HMD.o _).mono ?_;rintro e w5 ⟨ra,rc,hlo,rfl,hr,hf⟩;rw [← HSS.o] at hlo hr;rw [← HSS.o];have hc5:=tk hf Hc4;obtain⟨c0,c1⟩:=e2_ hc5;have z0:=hEF hc5 0;have z1:=hEF hc5 1;have cl:=lBk hc5;have Hc5:=q_ hc5;have Hlo5:=q_ hlo;have Hr5:=q_ hr;have Hf5:=q_ (Hf4.o.trans0 hf);clear hlo hr hf hc5;obtain⟨r1,r2,r3⟩:=r;go_wp2;(try simp only [Exit.inBlock,Exit.then]);refine bodyPost_ret (bRS rfl (b:=w.heap.size+1) (x:=.bool r1) (y:=.slice ra r2.length rc) rfl ?_ rfl) rfl ⟨_,_,⟨Hlo5.o.1,fun g hg=>(by have:=Hlo5.o.2 g hg;have:=H2w.o;omega)⟩,rfl,?_,?_⟩;·
      have h:=Hc5.o;(repeat first|rw [if_pos o_]|rw [if_neg o_]|rw [hDR]|rw [hDN]|rw [hAz]|rw [hSz]|rw [hAC]|rw [hSC]|rw [oMS]|rw [uPC]|rw [lSZ]|rw [lSS]|rfl);rw [h];exact hpT
     ·refine Hr5.o.keep fun x hx hl=>?_;have:=Hlo5.o.2 x hx;have hcl:=H2w.o;rw [sCE _ _ _ u_',sCE _ _ _ u_']
     ·exact (Hf5.o.setCell (.inr t_) _).setCell (.inr t_) _
  rw [if_neg hk] at hS;by_cases hk2:2048<k;·
   rw [if_pos hk2] at hS;subst hS;have hle:¬ ds.length=0:=h0;have hd1:decide (k<0)=false:=u_';have hd2:decide (2048<k)=true:=u_';clear hk hk2;go_enter Tryz.func95,Tryz.ntmps95;go_wp2_with fail;refine (Hra.o _ (Fr.t)).mono ?_;rintro e w1 ⟨rfl,hf⟩;have hb:=(hf.block w.heap.size u_' i_).trans (show _=some (.cells #[.bool neg,.slice a ds.length c] 30 (0,0)) from hpT);obtain⟨b0,b1,bl⟩:=l2_ hb;have hc:=(hf.block (w.heap.size+1) i_ i_).trans (show _=some (.cells #[.bool false,.slice none 0 0] 30 (0,0)) from hpT);obtain⟨c0,c1⟩:=e2_ hc;have z0:=hEF hc 0;have z1:=hEF hc 1;have cl:=lBk hc;have Hc:=q_ hc;have Hf:=q_ (Fr.trans0 (Fr.t:Fr [] w _) hf);clear hf hc hb;go_wp2;(try simp only [Exit.inBlock,Exit.then]);refine bodyPost_ret (bRS rfl (b:=w.heap.size+1) (x:=.bool false) (y:=.slice none 0 0) rfl ?_ rfl) rfl ⟨_,_,⟨Nat.le_refl _,fun g hg=>(by cases hg)⟩,rfl,reads_nil _,?_⟩;·
    have h:=Hc.o;(repeat first|rw [if_pos o_]|rw [if_neg o_]|rw [hDR]|rw [hDN]|rw [hAz]|rw [hSz]|rw [hAC]|rw [hSC]|rw [oMS]|rw [uPC]|rw [lSZ]|rw [lSS]|rfl);rw [h];exact hpT
   ·exact (Hf.o.setCell (.inr t_) _).setCell (.inr t_) _
  rw [if_neg hk2] at hS;obtain⟨m,rfl⟩:∃ m:Nat,k=m:=⟨k.toNat,o_⟩;rw [Int.toNat_natCast] at hS;obtain⟨wd,hwd⟩:∃ wd,m / 32=wd:=⟨_,rfl⟩;obtain⟨rs,hrs⟩:∃ rs,m % 32=rs:=⟨_,rfl⟩;have Ew:((m:Int) / 32)=wd:=o_
  have Er:((m:Int) % 32)=rs:=o_
  have hr32:rs<32:=o_
  have hwb:wd≤64:=o_
  have Htp:=q_ (I0 (ds:=ds) hwd hrs).1;have hd1:decide ((m:Int)<0)=false:=by simp
  have hd2:decide ((2048:Int)<m)=false:=by simp;omega
  have Hn:=q_ (show ((wd:Int)+ds.length+1)=((wd+ds.length+1:Nat):Int) by omega);have HS:=q_ hS;clear hk hk2 hwd hrs hS;go_enter Tryz.func95,Tryz.ntmps95;go_wp2_with fail;refine (Hra.o _ (Fr.t)).mono ?_;rintro e w1 ⟨rfl,hf⟩;have hb:=(hf.block w.heap.size u_' i_).trans (show _=some (.cells #[.bool neg,.slice a ds.length c] 30 (0,0)) from hpT);obtain⟨b0,b1,bl⟩:=l2_ hb;have Hb:=q_ hb;have Hc:=q_ ((hf.block (w.heap.size+1) i_ i_).trans (show _=some (.cells #[.bool false,.slice none 0 0] 30 (0,0)) from hpT));have Hf:=q_ (Fr.trans0 (Fr.t:Fr [] w _) hf);clear hf hb;go_wp2_with (refine Dt rfl (t:=28) (e:=75) (n:=wd+ds.length+1) (z:=.int .u32 0) (bytes:=4) rfl (congrArg (Value.int .i64) Hn.o) (congrArg (Value.int .i64) Hn.o) Tryz.underlying28 I8 rfl o_ (by unfold maxLen;omega) ?_);intro w2 ho2 hf2 hsz2;obtain⟨n,hn⟩:∃ n,wd+ds.length+1=n:=⟨_,rfl⟩;have hni:((wd:Int)+ds.length+1)=n:=o_
  rw [hn] at ho2;rw [hn,hni];have hb2:=(hf2.block _ bl i_).trans Hb.o;have Hc2:=q_ (tk hf2 Hc);have b0':=hEC hb2 0;have b1':=hEC hb2 1;have bl':=lBk hb2;have Hb2:=q_ hb2;obtain⟨q,hq⟩:∃ q,w1.heap.size=q:=⟨_,rfl⟩;have hqw:w.heap.size+1<q:=by rw [← hq];exact lBk Hc.o
  rw [hq] at ho2;rw [hq];have Ho2:=q_ ho2;have Hf2:=q_ (Hf.o.trans0 hf2);have Hnn:=q_ hn;have Haa:=q_ (Hv.o.2);clear ho2 hf2 hsz2 hn hni hb2 b0 b1 bl hq;go_wp2_with fail;go_loopw [70] (fun xk wl=>∃ (i:Nat) (l:List Nat),xk=.int .i64 i∧i≤ds.length∧l.length=n∧Dig 4294967296 l∧(∀ j,wd+i<j→l.getD j 0=0)∧l.getD (wd+i) 0<2 ^ rs∧val 4294967296 l=val 4294967296 (ds.take i)*(4294967296 ^ wd*2 ^ rs) ∧
   wl.ownsRow q 75 1 (.slice (some ⟨q,0,none⟩) n n) n (Aw l)∧Fr [] w wl∧wl.heap[w.heap.size]?=some (.cells #[.bool neg,.slice a ds.length c] 30 (0,0)) ∧
   wl.heap[w.heap.size+1]?=some (.cells #[.bool false,.slice none 0 0] 30 (0,0))) (fun xk _=>ds.length - (intOf xk).toNat)
  case atStart=>exact⟨0,List.replicate n 0,rfl,o_,List.length_replicate,Dig.replicate o_ n,fun j _=>by simp [List.getD_eq_getElem?_getD,List.getElem?_replicate];split<;>rfl,by simp [List.getD_eq_getElem?_getD,List.getElem?_replicate];split<;>simp [Nat.pow_pos],by simp [val,En],by rw [Gy];exact Ho2.o,Hf2.o,Hb2.o,Hc2.o⟩
  case round =>
   obtain⟨i,l,rfl,hi,hl,hD,hz,hlow,hv,ho,hf,hb,hcc⟩:=hrel;have hol:=oLT ho rfl;by_cases hin:i<ds.length;·
    obtain⟨_,_,e0,hga⟩:=Haa.o;simp only [Value.slice.injEq,true_and] at e0;obtain⟨rfl,rfl⟩:=e0;obtain⟨g1,o1,rfl,hg1,hc1⟩:=hga o_;have e1:=(hf.cell (p:=⟨g1,o1+i,none⟩) hg1 i_).trans (hc1 i _ (Av hin));have hgr:g1<wr.heap.size:=(by have:=hf.size;omega);have hwi:wd+i<n:=(by have:=Hnn.o;omega);have hwi2:wd+i+1<n:=(by have:=Hnn.o;omega);have e3:=An ho rfl (Av (l:=l) (i:=wd+i) o_);have hfz:=Bo ho rfl (wd+i);have hfz2:=Bo ho rfl (wd+i+1);have hx:ds.getD i 0<4294967296:=HDd.o.getD o_ i;have e4:=An ho rfl (Av (l:=l) (i:=wd+i+1) o_);have Hset:=q_ (fun d d2=>G6 (G6 ho rfl (j:=wd+i) (by rw [Cv];omega) (.int .u32 d)) rfl (j:=wd+i+1) (by rw [List.length_set,Cv];omega) (.int .u32 d2));have Hvt:=q_ (Am 4294967296 ds i);have Hf3:=q_ hf;have HDl:=q_ hD;have Hz:=q_ hz;have Hv3:=q_ hv;have Hl:=q_ hl;have Hlow:=q_ hlow;have Hb3:=q_ hb;have Hc3:=q_ hcc;have Hxl:=q_ hx;have Ex:IntKind.u64.wrap ((ds.getD i 0:Nat):Int)=(ds.getD i 0:Nat):=IntWalk.u64_in _ o_;clear ho hf hD hz hv hl hlow hb hcc hc1 hga hx b0' b1' bl';have Hs1:=q_ (fun d=>Rr (B:=4294967296) d (show wd+i<l.length by have:=Hl.o;omega));have Hs2:=q_ (fun d d2=>Rr (B:=4294967296) (l:=l.set (wd+i) d) d2 (show wd+i+1<(l.set (wd+i) d).length by rw [List.length_set];have:=Hl.o;omega));generalize ds.getD i 0=x at *
    generalize l.getD (wd+i) 0=o at *
    generalize l.getD (wd+i+1) 0=o2 at *
    obtain⟨v,Es,hvb,Ey,hst⟩:=shl_facts Hxl.o hr32 Hlow.o;have Hvb:=q_ hvb;have Hst:=q_ hst;clear hvb hst;go_wp2;go_roundw;case rel =>
     obtain⟨hv2,hlt⟩:=Hst.o;have e1:((o+v % 4294967296:Nat):Int)=(o:Int)+(v:Int) % 4294967296:=o_;have e2:((v / 4294967296 % 4294967296:Nat):Int)=(v:Int) / 4294967296 % 4294967296:=o_;have h31:2 ^ rs≤2 ^ 31:=Nat.pow_le_pow_right o_ o_;have hvb:=Hvb.o;have e3:v / 4294967296 % 4294967296=v / 4294967296:=Nat.mod_eq_of_lt o_;refine⟨i+1,(l.set (wd+i) (o+v % 4294967296)).set (wd+i+1) (v / 4294967296 % 4294967296),by go_num,o_,by rw [List.length_set,List.length_set];exact Hl.o,(HDl.o.set hlt).set (Nat.mod_lt _ o_),?_,?_,?_,?_,?_,?_,?_⟩;·
      intro j hj;rw [getD_set_ne o_,getD_set_ne o_];exact Hz.o j o_
     ·rw [List.getD_eq_getElem?_getD,show wd+(i+1)=wd+i+1 by omega,List.getElem?_set_self (by rw [List.length_set];have:=Hl.o;omega),e3];exact hvb
     ·have h1:=Hs1.o (o+v % 4294967296);have h2:=Hs2.o (o+v % 4294967296) (v / 4294967296 % 4294967296);rw [getD_set_ne o_,Hz.o _ o_,Nat.mul_zero,Nat.add_zero] at h2;rw [h2,Hvt.o,Nat.add_mul,← Hv3.o,e3];have h3:4294967296 ^ (wd+i)*(o+v % 4294967296)=4294967296 ^ (wd+i)*o+4294967296 ^ (wd+i)*(v % 4294967296):=Nat.mul_add _ _ _;have h4:4294967296 ^ i*x*(4294967296 ^ wd*2 ^ rs)=4294967296 ^ (wd+i)*(v % 4294967296)+4294967296 ^ (wd+i+1)*(v / 4294967296):=by
       rw [Nat.pow_succ,Nat.mul_assoc (4294967296 ^ (wd+i)),← Nat.mul_add,Nat.mod_add_div,hv2,Nat.pow_add];simp only [Nat.mul_assoc,Nat.mul_left_comm,Nat.mul_comm]
      rw [h4];generalize 4294967296 ^ (wd+i)*(o+v % 4294967296)=u1 at *
      generalize 4294967296 ^ (wd+i)*o=u2 at *
      omega
     ·rw [Gz,Gz,e1,e2];exact Hset.o _ _
     ·exact (Hf3.o.setCell (.inr u_') _).setCell (.inr u_') _
     ·(repeat first|rw [if_pos o_]|rw [if_neg o_]|rw [hDR]|rw [hDN]|rw [hAz]|rw [hSz]|rw [hAC]|rw [hSC]|rw [oMS]|rw [uPC]|rw [lSZ]|rw [lSS]|rfl);exact Hb3.o
     ·(repeat first|rw [if_pos o_]|rw [if_neg o_]|rw [hDR]|rw [hDN]|rw [hAz]|rw [hSz]|rw [hAC]|rw [hSC]|rw [oMS]|rw [uPC]|rw [lSZ]|rw [lSS]|rfl);exact Hc3.o
    case measure=>simp [intOf];omega
   ·obtain rfl:i=ds.length:=o_;rw [List.take_length,← Htp.o] at hv;have b0'':=hEC hb 0;have bl'':=lBk hb;have Hvv:=q_ hv;have Ho:=q_ ho;have HDl:=q_ hD;have Hl:=q_ hl;have Hcc:=q_ hcc;have Hff:=q_ hf;clear hv ho hD hl hcc hf hb hz hlow b0' b1' bl';go_wp2_with fail;have hln:=Hl.o;have hmc:=Cz (w:=wr) (neg:=neg) (ds:=l) (a:=some ⟨q,0,none⟩) (c:=n) (by have h:=Reads.of_owns Ho.o;rw [hln];exact h) HDl.o (by have:=Hnn.o;omega) o_ (A:=fun g=>q≤g) (fun g hg=>by
     have h:q=g:=by simpa [Value.ownBlock] using hg
     omega)
    rw [hln,Hvv.o,← HS.o] at hmc;refine hmc.mono ?_;rintro e w4 ⟨ra,rc,hlo,rfl,hr,hf⟩;have hc4:=tk hf Hcc;obtain⟨c0,c1⟩:=e2_ hc4;have z0:=hEF hc4 0;have z1:=hEF hc4 1;have cl:=lBk hc4;have Hc4:=q_ hc4;have Hlo:=q_ hlo;have Hr:=q_ hr;have Hf5:=q_ (Hff.o.trans0 hf);have Hqw:=q_ hqw;clear hlo hr hf hc4 hmc hln;obtain⟨r1,r2,r3⟩:=r;go_wp2;(try simp only [Exit.inBlock,Exit.then]);refine bodyPost_ret (bRS rfl (b:=w.heap.size+1) (x:=.bool r1) (y:=.slice ra r2.length rc) rfl ?_ rfl) rfl ⟨_,_,⟨Hlo.o.1,fun g hg=>(by have:=Hlo.o.2 g hg;have:=Hqw.o;omega)⟩,rfl,?_,?_⟩;·
     have h:=Hc4.o;(repeat first|rw [if_pos o_]|rw [if_neg o_]|rw [hDR]|rw [hDN]|rw [hAz]|rw [hSz]|rw [hAC]|rw [hSC]|rw [oMS]|rw [uPC]|rw [lSZ]|rw [lSS]|rfl);rw [h];exact hpT
    ·refine Hr.o.keep fun x hx hl=>?_;have:=Hlo.o.2 x hx;have hcl:=Hqw.o;rw [sCE _ _ _ u_',sCE _ _ _ u_']
    ·exact (Hf5.o.setCell (.inr t_) _).setCell (.inr t_) _
variable {V:Nat}
theorem dg_of {B:Nat} (hB:2≤B) (l:List Nat) (hV:val B l=V) (hD:Dig B l) (hC:Canon l):dg B V=l:=by rw [← hV];exact Q0 hB hD hC
theorem mkN_of (l:List Nat) (hV:val 4294967296 l=V) (hD:Dig 4294967296 l) (hC:Canon l) (h0:V≠0) (hl:l.length≤64):mkN neg V=(neg,l,0):=by unfold mkN;rw [if_neg h0,if_pos,dg_of o_ l hV hD hC];rw [← hV];exact Nat.lt_of_lt_of_le (Ce hD) (Nat.pow_le_pow_right o_ hl)
theorem Jj (hC:Canon ds) (hl:ds.length≤64) (hn:ds=[]→neg=false):A7 neg ds=true:=by
 unfold A7;by_cases h0:ds.length=0;·rw [if_pos h0,hn (List.eq_nil_of_length_eq_zero h0)];rfl
 ·rw [if_neg h0,decide_eq_true_eq];refine⟨hl,fun e=>hC ?_⟩;rw [List.getLast?_eq_getElem?,List.getElem?_eq_getElem o_];rw [List.getD_eq_getElem?_getD,List.getElem?_eq_getElem o_] at e;exact congrArg some e
theorem Qz (hR:A7 neg ds=true) (hD:Dig 4294967296 ds):mkN neg (val 4294967296 ds)=(neg,ds,0):=by
 obtain⟨hC,hl,hn⟩:=C7 hR;by_cases h0:val 4294967296 ds=0
 ·have:ds=[]:=by
   rcases Nat.eq_zero_or_pos ds.length with h|h
   ·exact List.eq_nil_of_length_eq_zero h
   ·have:=Fx (B:=4294967296) o_ hC (by intro e;rw [e] at h;simp at h);omega
  subst this;unfold mkN;rw [if_pos h0,hn rfl]
 ·exact mkN_of ds rfl hD hC h0 hl
variable {r1:Bool}{r2:List Nat}
theorem mkN_ok (h:mkN neg V=(r1,r2,0)):val 4294967296 r2=V∧A7 r1 r2=true∧r1=(neg && decide (V≠0))∧V<4294967296 ^ 64:=by
 unfold mkN at h;by_cases h0:V=0;·
  rw [if_pos h0] at h;simp only [Prod.mk.injEq] at h;obtain⟨rfl,rfl,_⟩:=h;subst h0;exact⟨rfl,by decide,i_,Nat.pow_pos o_⟩
 ·rw [if_neg h0] at h;by_cases h1:V<4294967296 ^ 64;·
   rw [if_pos h1] at h;simp only [Prod.mk.injEq] at h;obtain⟨rfl,rfl,_⟩:=h;refine⟨Gn o_ V,Jj (Q1 o_ V) ((Az o_ 64).2 h1) fun e=>?_,by simp [h0],h1⟩;exact absurd ((Dp o_).1 e) h0
  ·rw [if_neg h1] at h;simp at h
theorem mkN_err (h:V<4294967296 ^ 64):(mkN neg V).2.2=0:=by
 unfold mkN;split;·rfl
 ·rfl
theorem Tm (neg:Bool):mkN neg 0=(false,[],0):=by unfold mkN;rw [if_pos rfl]
theorem Il (hR:A7 neg ds=true) (hD:Dig 4294967296 ds):val 4294967296 ds<4294967296 ^ 64 :=
 Nat.lt_of_lt_of_le (Ce hD) (Nat.pow_le_pow_right o_ (C7 hR).2.1)
theorem right_pos (hR:A7 neg ds=true) (h:ds.length≠0):0<val 4294967296 ds :=
 Fx o_ (C7 hR).1 fun e=>h (by rw [e];rfl)
theorem right_val0 (hR:A7 neg ds=true):val 4294967296 ds=0↔ds.length=0:=by
 constructor;·
  intro h;rcases Nat.eq_zero_or_pos ds.length with h1|h1
  ·exact h1
  ·have:=right_pos hR o_;omega
 ·intro h;rw [List.eq_nil_of_length_eq_zero h];rfl
def sgn (neg:Bool) (V:Nat):Int:=if neg then -(V:Int) else V
def mkI (z:Int):Bool×List Nat×Int:=mkN (decide (z<0)) z.natAbs
theorem Lv (neg:Bool) (V:Nat):(sgn neg V).natAbs=V:=by unfold sgn;cases neg<;>simp
theorem sgn_neg (h:V≠0):decide (sgn neg V<0)=neg:=by
 unfold sgn;cases neg;·simp
 ·simp;omega
theorem Ol (neg:Bool) (V:Nat):mkN neg V=mkI (sgn neg V):=by
 by_cases h:V=0;·
  subst h;unfold mkI;rw [Lv,Tm,Tm]
 ·unfold mkI;rw [Lv,sgn_neg h]
def sv (neg:Bool) (ds:List Nat):Int:=sgn neg (val 4294967296 ds)
theorem mkI_sv (hR:A7 neg ds=true) (hD:Dig 4294967296 ds):mkI (sv neg ds)=(neg,ds,0):=by unfold sv;rw [← Ol];exact Qz hR hD
variable {z:Int}
theorem mkI_ok (h:mkI z=(r1,r2,0)):sv r1 r2=z∧A7 r1 r2=true:=by
 obtain⟨h1,h2,h3,_⟩:=mkN_ok h;refine⟨?_,h2⟩;unfold sv sgn;rw [h1,h3];by_cases hz:z<0;·
  have:decide (z<0)=true:=by simpa using hz
  rw [this,show (true && decide (z.natAbs≠0))=true by simp;omega];simp;omega
 ·have:decide (z<0)=false:=by simpa using hz
  rw [this,Bool.false_and];simp;omega
theorem addS_sv (ha:A7 na da=true) (hb:A7 nb db=true):Xd na da nb db=mkI (sv na da+sv nb db):=by
 unfold Xd sv;rw [ha,hb,if_neg (by decide)];generalize val 4294967296 da=Va;generalize val 4294967296 db=Vb;by_cases h:na=nb;·
  subst h;rw [if_pos rfl,Ol];congr 1;unfold sgn;cases na<;>simp<;>omega
 ·rw [if_neg h];split;·
   rename_i hl;rw [Ol];congr 1;unfold sgn;cases na<;>cases nb<;>simp at h ⊢<;>omega
  ·rename_i hl;rw [Ol];congr 1;unfold sgn;cases na<;>cases nb<;>simp at h ⊢<;>omega
theorem fromS_mkI (n:Int):Nx n=mkI n:=rfl
theorem int_from {n:Int} (h1:-9223372036854775808≤n) (h2:n<9223372036854775808):Tv (Nx n).1 (Nx n).2.1=(n,true):=by
 obtain⟨⟨r1,r2,r3⟩,hr⟩:∃ r,mkI n=r:=⟨_,rfl⟩;have h3:(mkI n).2.2=0:=mkN_err (Nat.lt_of_lt_of_le (show n.natAbs<4294967296 ^ 2 by omega) (Nat.pow_le_pow_right o_ o_));rw [hr] at h3;simp only at h3;subst h3;obtain⟨h4,h5⟩:=mkI_ok hr;obtain⟨h6,_,h7,_⟩:=mkN_ok hr;rw [fromS_mkI,hr];simp only;have hl:r2.length≤2:=by
  have:r2=dg 4294967296 n.natAbs:=by
   by_cases h0:n.natAbs=0;·
    have:val 4294967296 r2=0:=o_;have:=(right_val0 h5).1 this;rw [List.eq_nil_of_length_eq_zero this,h0,Bd]
   ·have e:=hr;unfold mkI mkN at e;rw [if_neg h0,if_pos (Nat.lt_of_lt_of_le (show n.natAbs<4294967296 ^ 2 by omega) (Nat.pow_le_pow_right o_ o_))] at e;simp only [Prod.mk.injEq] at e;exact e.2.1.symm
  rw [this,Az o_];omega
 unfold Tv;rw [h5,if_neg u_',h6];have h8:sgn r1 n.natAbs=n:=by rw [← h6];exact h4
 unfold sgn at h8;cases r1 with
 | false =>simp only [Bool.false_eq_true,if_false] at h8 ⊢;rw [if_pos o_,h8]
 | true =>simp only [if_true] at h8 ⊢;rw [if_pos o_,h8]
theorem Ss (l:List Nat):val 4294967296 l % 2=l.getD 0 0 % 2:=by
 cases l with
 | nil=>rfl
 | cons d l=>show (d+4294967296*val 4294967296 l) % 2=d % 2;omega
def zd (z:Int):List Nat:=dg 4294967296 z.natAbs
def BigZ (w:World) (A:Nat→Prop) (v:Value) (z:Int):Prop :=
 ∃ a c,v=.agg #[.bool (decide (z<0)),.slice a (zd z).length c]∧(zd z).length≤c∧(∀ g,(Value.slice a (zd z).length c).ownBlock=some g→A g)∧Reads w (.slice a (zd z).length c) (zd z).length 1 (Aw (zd z))
def Zok (z:Int):Prop:=z.natAbs<4294967296 ^ 64
theorem E8 (z:Int):Dig 4294967296 (zd z):=Jw o_ _
theorem Ij (z:Int):val 4294967296 (zd z)=z.natAbs:=Gn o_ _
theorem D7 (h:Zok z):(zd z).length≤64:=(Az o_ 64).2 h
theorem Ct (h:Zok z):A7 (decide (z<0)) (zd z)=true :=
 Jj (Q1 o_ _) (D7 h) fun e=>by have:=(Dp o_).1 e;simp;omega
theorem Gd (z:Int):sv (decide (z<0)) (zd z)=z:=by
 unfold sv sgn;rw [Ij];by_cases h:z<0;·simp only [h,decide_true,if_true];omega
 ·simp only [h,decide_false];simp;omega
theorem Vm (h:Zok z):mkI z=(decide (z<0),zd z,0):=by
 unfold mkI mkN zd;by_cases h0:z.natAbs=0;·
  have:z=0:=o_
  subst this;simp [Bd]
 ·rw [if_neg h0,if_pos (show z.natAbs<4294967296 ^ 64 from h)]
theorem addS_z {x:Int} (hx:Zok x) (hy:Zok y) (h:Zok (x+y)):Xd (decide (x<0)) (zd x) (decide (y<0)) (zd y)=(decide (x+y<0),zd (x+y),0):=by rw [addS_sv (Ct hx) (Ct hy),Gd,Gd,Vm h]
theorem S9 (h:Zok z):Nx z=(decide (z<0),zd z,0):=Vm h
theorem Bb (h1:-9223372036854775808≤z) (h2:z<9223372036854775808):Zok z:=by
 unfold Zok;have:(9223372036854775808:Nat)<4294967296 ^ 64:=by rw [show (64:Nat)=2+62 from rfl,Nat.pow_add];have h1:=Nat.one_le_pow 62 4294967296 o_;have:=Nat.mul_le_mul_left (4294967296 ^ 2) h1;omega
 omega
theorem negS_z (h:Zok z):Tj (decide (z<0)) (zd z)=(decide (-z<0),zd (-z),0):=by
 unfold Tj;rw [if_neg (by rw [Ct h];simp),Ij];unfold mkN zd;by_cases h0:z.natAbs=0;·
  have:z=0:=o_
  subst this;simp [Bd]
 ·rw [if_neg h0,if_pos (show z.natAbs<4294967296 ^ 64 from h),Int.natAbs_neg];have:(!decide (z<0))=decide (-z<0):=by
   by_cases hz:z<0;·simp [hz];omega
   ·simp [hz];omega
  rw [this]
def Bw (x y:Int):Int:=if x<y then -1 else if x=y then 0 else 1
theorem cmpS_z {x:Int} (hx:Zok x) (hy:Zok y):cmpS (decide (x<0)) (zd x) (decide (y<0)) (zd y)=Bw x y:=by unfold cmpS;rw [if_neg (by rw [Ct hx,Ct hy];simp),Ij,Ij];unfold Gc Bw;by_cases h1:x<0<;>by_cases h2:y<0<;>simp only [h1,h2,decide_true,decide_false,if_true,reduceCtorEq,if_false,Bool.false_eq_true]<;>(repeat' split)<;>omega
theorem intS_z (h:Zok z):Tv (decide (z<0)) (zd z)=if -9223372036854775808≤z∧z<9223372036854775808 then (z,true) else (0,false):=by
 by_cases hi:-9223372036854775808≤z∧z<9223372036854775808;·
  rw [if_pos hi];have:=int_from hi.1 hi.2;rwa [S9 h] at this
 ·rw [if_neg hi];unfold Tv;by_cases hl:2<(zd z).length;·rw [if_pos (.inr hl)]
  ·rw [if_neg (by rw [Ct h];simpa using hl),Ij];by_cases h1:z<0;·simp only [h1,decide_true,if_true];rw [if_neg o_]
   ·simp only [h1,decide_false,Bool.false_eq_true,if_false];rw [if_neg o_]
theorem Fy {a:Nat} (h:n<a*k):2 ^ n<(2 ^ a) ^ k:=by rw [← Nat.pow_mul];exact Nat.pow_lt_pow_right o_ h
theorem shift_one (h:n≤2047):D8 false (zd 1) n=(false,zd ((2 ^ n:Nat):Int),0):=by
 have h1:zd 1=[1]:=by unfold zd;rw [show (1:Int).natAbs=1 from rfl,dg_succ o_ o_,show 1 / 4294967296=0 from rfl,Bd]
 unfold D8;rw [h1,if_neg (by simp [A7]),if_neg i_,if_neg o_,if_neg o_];have hv:val 4294967296 [1]=1:=by simp [val]
 rw [hv,Nat.one_mul,Int.toNat_natCast];unfold mkN zd;have hp:2 ^ n<4294967296 ^ 64:=Fy (a:=32) (k:=64) o_;rw [if_neg (by have:=Nat.pow_pos (n:=n) (show 0<2 by omega);omega),if_pos hp,Int.natAbs_natCast]
theorem Bh (h:n≤2047):Zok ((2 ^ n:Nat):Int):=by unfold Zok;rw [Int.natAbs_natCast];exact Fy (a:=32) (k:=64) o_
theorem E7 {x:Int} (hy:Zok y) (h:x.natAbs≤y.natAbs):Zok x:=Nat.lt_of_le_of_lt h hy
theorem right_z (hR:A7 neg ds=true) (hD:Dig 4294967296 ds):∃ z,Zok z∧neg=decide (z<0)∧ds=zd z:=by
 refine⟨sv neg ds,?_,?_,?_⟩;·unfold Zok sv;rw [Lv];exact Il hR hD
 ·have:=mkI_sv hR hD;have h2:Zok (sv neg ds):=by unfold Zok sv;rw [Lv];exact Il hR hD
  rw [Vm h2] at this;exact (congrArg (·.1) this).symm
 ·have:=mkI_sv hR hD;have h2:Zok (sv neg ds):=by unfold Zok sv;rw [Lv];exact Il hR hD
  rw [Vm h2] at this;exact (congrArg (·.2.1) this).symm
theorem bitS_z (h:Zok z) (hz:0≤z) (hk:k<2048):bitS (decide (z<0)) (zd z) k=z.toNat / 2 ^ k % 2:=by
 have hn:decide (z<0)=false:=by simp;omega
 unfold bitS;rw [if_neg (by rw [Ct h];simp),if_neg o_,hn];unfold D8;have hR:=Ct h;rw [hn] at hR;rw [if_neg (by rw [hR];simp)];by_cases h0:(zd z).length=0;·
  rw [if_pos h0];have:z.natAbs=0:=by rw [← Ij z,List.length_eq_zero_iff.1 h0];rfl
  rw [show z.toNat=0 by omega];simp
 ·rw [if_neg h0];by_cases hk0:k=0;·
   subst hk0;simp only [Int.natCast_zero,Int.neg_zero,show ¬ (0:Int)<0 by omega,if_false,show ¬ (2048:Int)<0 by omega,Int.toNat_zero,Nat.pow_zero,Nat.mul_one,Nat.div_one];rw [Qz hR (E8 z),← Ss,Ij];congr 1;omega
  ·rw [if_pos o_,if_neg o_];have e1:(- -(k:Int)).toNat=k:=o_;rw [e1];unfold O3;simp only [Bool.false_and,Bool.false_eq_true,if_false,Nat.add_zero];rw [Ij,show z.natAbs=z.toNat by omega,← Ss (mkN false (z.toNat / 2 ^ k)).2.1];unfold mkN;by_cases hq:z.toNat / 2 ^ k=0;·rw [if_pos hq,hq];rfl
   ·have hlt:z.toNat / 2 ^ k<4294967296 ^ 64:=Nat.lt_of_le_of_lt (Nat.div_le_self _ _) (by have:z.natAbs<4294967296 ^ 64:=h;omega);rw [if_neg hq,if_pos hlt,Gn o_]
variable {w':World}
theorem BigZ.fr (h:BigZ w A v z) {F:List Nat} (hf:Fr F w w') (hA:∀ g,A g→g∉F):BigZ w' A v z:=by obtain⟨a,c,rfl,h1,h2,h3⟩:=h;exact⟨a,c,rfl,h1,h2,h3.keep fun x hx hl=>hf.block x hl (hA x (h2 x hx))⟩
theorem BigZ.fr0 (h:BigZ w A v z) (hf:Fr [] w w'):BigZ w' A v z:=h.fr hf fun _ _=>by simp
theorem BigZ.mono {B:Nat→Prop} (h:BigZ w A v z) (hA:∀ g,A g→B g):BigZ w B v z:=by obtain⟨a,c,rfl,h1,h2,h3⟩:=h;exact⟨a,c,rfl,h1,fun g hg=>hA g (h2 g hg),h3⟩
theorem BigZ.zero (w:World) (A:Nat→Prop):BigZ w A (.agg #[.bool false,.slice none 0 0]) 0:=by
 refine⟨none,0,?_,?_,?_,?_⟩;·simp [zd,Bd]
 ·simp [zd,Bd]
 ·intro g hg;cases hg
 ·simp only [zd,Int.natAbs_zero,Bd];exact⟨rfl,none,0,rfl,fun h=>by simp at h⟩
end Go.Proofs.YtebolidfbflkmaaGreat
