/- Own texts of this claim, part 5: no condition. -/
import Derived.Lib.SliceRun
import Derived.Maps.AppendAt
import Derived.Test.YtebolidfbflkmaaGreatZN3
set_option linter.unusedVariables false
set_option linter.unusedSimpArgs false
set_option maxHeartbeats 16000000
set_option maxRecDepth 100000
section
namespace Go.Proofs.YtebolidfbflkmaaGreat
open Go Go.RowKit Rg Hp Bn
theorem Right_calls {w:World} {neg:Bool} {ds:List Nat} {v:Value} (hv:Reads w v ds.length 1 (u32s ds)) (hl:ds.length≤9223372036854775807) :
  Calls Tryz.prog 42 #[.agg #[.bool neg,v]] w fun e w'=>e=.returned (.bool (RightB neg ds))∧Fr [] w w':=by
 obtain⟨_,a,c,rfl,hav⟩:=hv;have Hav:=q_ hav;clear hav;by_cases h0:ds.length=0;·
  have hd:decide ((ds.length:Int)=0)=true:=by simp [h0]
  have hR:RightB neg ds=!neg:=by unfold RightB;rw [if_pos h0]
  have HR:=q_ hR;obtain rfl:=List.eq_nil_of_length_eq_zero h0;clear h0 hR hd;go_enter Tryz.func42,Tryz.ntmps42;go_wp2;go_ret;exact⟨by rw [HR.out];rfl,Fr.t⟩
 ·obtain⟨g,off,rfl,hg,hc⟩:=Hav.out o_;have hcz:=hc (ds.length - 1) _ (u32s_get o_);have hd:((ds.length:Int) == 0)=false:=by rw [beq_eq_false_iff_ne];omega
  have hp1:(1:Int)≤ds.length:=o_
  have hp2:(ds.length:Int) - 1<ds.length:=o_
  by_cases h64:ds.length≤64;·
   have hd2:decide ((ds.length:Int)≤64)=true:=(by simp;omega);have hR:RightB neg ds=(((ds.getD (ds.length - 1) 0:Nat):Int) != 0):=by unfold RightB;rw [if_neg h0,Bool.eq_iff_iff];simp;omega
   have HR:=q_ hR;have H0:=q_ h0;generalize ds.getD (ds.length - 1) 0=y at *
   clear h0 hR hc;go_enter Tryz.func42,Tryz.ntmps42;go_wp2;go_ret;exact⟨by rw [HR.out];rfl,Fr.t⟩
  ·have hd2:decide ((ds.length:Int)≤64)=false:=(by simp;omega);have hR:RightB neg ds=false:=by
    unfold RightB;rw [if_neg h0,Bool.eq_iff_iff];simp;omega
   have HR:=q_ hR;have H0:=q_ h0;clear h0 hcz hR hc;go_enter Tryz.func42,Tryz.ntmps42;go_wp2;go_ret;exact⟨by rw [HR.out];rfl,Fr.t⟩
theorem digit_calls {w:World} {ds:List Nat} {v:Value} (hv:Reads w v ds.length 1 (u32s ds)) (hl:ds.length≤1000000) (i:Nat) :
  Calls Tryz.prog 97 #[v,.int .i64 i] w fun e w'=>e=.returned (.int .u32 (ds.getD i 0:Nat))∧w=w':=by
 obtain⟨_,a,c,rfl,hav⟩:=hv;by_cases h:i<ds.length;·
  obtain⟨g,off,rfl,hg,hc⟩:=hav o_;have hcz:=hc i _ (u32s_get h);clear hc hav;generalize ds.getD i 0=y at *
  go_enter Tryz.func97,Tryz.ntmps97;go_wp2;go_ret;exact⟨rfl,rfl⟩
 ·have h0:ds.getD i 0=0:=by rw [List.getD_eq_getElem?_getD,List.getElem?_eq_none o_];rfl
  rw [h0];clear h0 hav;go_enter Tryz.func97,Tryz.ntmps97;go_wp2;go_ret;exact⟨rfl,rfl⟩
theorem trimmed_calls {w:World} {ds:List Nat} {a:Option Addr} {c:Nat} (hv:Reads w (.slice a ds.length c) ds.length 1 (u32s ds)) (hD:Dig 4294967296 ds) (hl:ds.length≤1000000) (hc:ds.length≤c) :
  Calls Tryz.prog 125 #[.slice a ds.length c] w fun e w'=>e=.returned (.slice a (trimL 4294967296 ds).length c)∧w=w':=by
 obtain⟨_,a',c',he,hav⟩:=hv;cases he;have Hav:=q_ hav;have HD:=q_ hD;clear hav hD;go_enter Tryz.func125,Tryz.ntmps125;go_wp2;go_loop [0] (fun x=>∃ k:Nat,k≤ds.length∧x=.slice a k c∧trimL 4294967296 (ds.take k)=trimL 4294967296 ds) (fun x=>match x with|.slice _ k _=>k|_=>0);case atStart=>exact⟨_,Nat.le_refl _,rfl,by rw [List.take_length]⟩
 case round =>
  obtain⟨k,hk,rfl,hT⟩:=hrel;have HT:=q_ hT;clear hT;cases k with
  | zero =>go_wp2;go_ret;have hT:=HT.out;rw [List.take_zero] at hT;exact⟨by rw [← hT,trimL_nil];rfl,rfl⟩
  | succ k =>
   obtain⟨g,off,rfl,hg,hc⟩:=Hav.out o_;have hcz:=hc k _ (u32s_get o_);have htk:ds.take (k+1)=ds.take k++[ds.getD k 0]:=by rw [List.take_add_one,List.getElem?_eq_getElem o_,List.getD_eq_getElem?_getD,List.getElem?_eq_getElem o_];rfl
   have Htk:=q_ htk;clear hc htk;obtain⟨y,hy⟩:∃ y,y=ds.getD k 0:=⟨_,rfl⟩;rw [← hy] at hcz Htk;have Hy:=q_ hy;clear hy;by_cases hz:y=0;·
    subst hz;go_wp2;go_round;case rel=>exact⟨k,o_,rfl,by have:=HT.out;rwa [Htk.out,trimL_zero] at this⟩
    case measure=>simp
   ·have hb:((y:Int) == 0)=false:=(by rw [beq_eq_false_iff_ne];omega);have Hz:=q_ hz;clear hz;go_wp2;go_ret;refine⟨?_,rfl⟩;have hT:=HT.out;have hD:=HD.out.take (k+1);rw [Htk.out] at hT hD;rw [trimL_canon o_ hD (canon_snoc Hz.out)] at hT;rw [← hT,List.length_append,List.length_take,Nat.min_eq_left o_];rfl
theorem made_calls {w:World} {neg:Bool} {ds:List Nat} {a:Option Addr} {c:Nat} (hv:Reads w (.slice a ds.length c) ds.length 1 (u32s ds)) (hD:Dig 4294967296 ds) (hl:ds.length≤1000000) (hc:ds.length≤c) {A:Nat→Prop} (hlo:∀ g,(Value.slice a ds.length c).ownBlock=some g→A g) :
  Calls Tryz.prog 88 #[.bool neg,.slice a ds.length c] w (BigPost w A (mkN neg (val 4294967296 ds))):=by
 have Hlo:=q_ hlo;clear hlo;have hT:=fun w1 (hf:Fr [] w w1)=>trimmed_calls (hv.fr hf) hD hl hc;obtain⟨k,hk,hkt⟩:=trimL_prefix (by omega:2≤4294967296) ds.length rfl hD;have hkl:(trimL 4294967296 ds).length=k:=by rw [hkt,List.length_take,Nat.min_eq_left hk]
 rw [hkl] at hT;have hr:=Reads.take hv hk;have hu:(u32s ds).take k=u32s (dg 4294967296 (val 4294967296 ds)):=by rw [u32s,u32s,← List.map_take,← hkt];rfl
 rw [hu] at hr;have hle:=dg_length_le (B:=4294967296) o_ 64 (n:=val 4294967296 ds);have h0:=dg_eq_nil (B:=4294967296) o_ (n:=val 4294967296 ds);rw [← List.length_eq_zero_iff] at h0;have hkl':(dg 4294967296 (val 4294967296 ds)).length=k:=hkl;rw [hkl'] at hle h0;have HT:=q_ hT;have Hr:=q_ hr;have Hkl:=q_ hkl';clear hT hr hu hkt hkl hkl' hv hD;have hmk:mkN neg (val 4294967296 ds)=if k=0 then (false,[],0) else if k≤64 then (neg,dg 4294967296 (val 4294967296 ds),0) else (false,[],6):=by
  unfold mkN;by_cases e:val 4294967296 ds=0;·rw [if_pos e,if_pos (h0.2 e)]
  ·rw [if_neg e,if_neg (fun h=>e (h0.1 h))];by_cases e2:val 4294967296 ds<4294967296 ^ 64;·rw [if_pos e2,if_pos (hle.2 e2)]
   ·rw [if_neg e2,if_neg (fun h=>e2 (hle.1 h))]
 generalize mkN neg (val 4294967296 ds)=r at *
 generalize dg 4294967296 (val 4294967296 ds)=T at *
 clear hle h0;by_cases hk0:k=0;·
  rw [if_pos hk0] at hmk;have Hmk:=q_ hmk;clear hmk;subst hk0;go_enter Tryz.func88,Tryz.ntmps88;go_wp2_with fail;refine (HT.out _ (Fr.t)).mono ?_;rintro e w1 ⟨rfl,rfl⟩;go_wp2;(try simp only [Exit.inBlock,Exit.then]);have hr:=Hmk.out;subst hr;refine bodyPost_ret (bRS rfl (b:=w.heap.size) (x:=.bool false) (y:=.slice none 0 0) rfl hpT rfl) rfl ⟨_,_,⟨Nat.le_refl _,fun g hg=>(by cases hg)⟩,rfl,reads_nil _,Fr.t⟩
 by_cases hk64:k≤64;·
  rw [if_neg hk0,if_pos hk64] at hmk;have Hmk:=q_ hmk;clear hmk;have hd:decide ((64:Int)<k)=false:=by simp;omega
  have hd0:((k:Int) == 0)=false:=by rw [beq_eq_false_iff_ne];omega
  have Hk:=q_ (And.intro hk0 hk64);clear hk0 hk64;go_enter Tryz.func88,Tryz.ntmps88;go_wp2_with fail;refine (HT.out _ (Fr.t)).mono ?_;rintro e w1 ⟨rfl,rfl⟩;go_wp2;(try simp only [Exit.inBlock,Exit.then]);have hr:=Hmk.out;subst hr;have hTl:=Hkl.out;subst hTl;exact bodyPost_ret (bRS rfl (b:=w.heap.size) (x:=.bool neg) (y:=.slice a T.length c) rfl hpT rfl) rfl ⟨_,_,⟨(show T.length≤c by omega),fun g hg=>Hlo.out g (own_len a _ _ c c▸hg)⟩,rfl,Hr.out.fr (Fr.t),Fr.t⟩
 ·rw [if_neg hk0,if_neg hk64] at hmk;have Hmk:=q_ hmk;clear hmk;have hd:decide ((64:Int)<k)=true:=by simp;omega
  have Hk:=q_ (And.intro hk0 hk64);clear hk0 hk64;go_enter Tryz.func88,Tryz.ntmps88;go_wp2_with fail;refine (HT.out _ (Fr.t)).mono ?_;rintro e w1 ⟨rfl,rfl⟩;go_wp2;(try simp only [Exit.inBlock,Exit.then]);have hr:=Hmk.out;subst hr;exact bodyPost_ret (bRS rfl (b:=w.heap.size) (x:=.bool false) (y:=.slice none 0 0) rfl hpT rfl) rfl ⟨_,_,⟨Nat.le_refl _,fun g hg=>(by cases hg)⟩,rfl,reads_nil _,Fr.t⟩
theorem size_calls {w:World} {n:Int} (h1:-9223372036854775808≤n) (h2:n<9223372036854775808) :
  Calls Tryz.prog 92 #[.int .i64 n] w fun e w'=>e=.returned (.int .u64 (n.natAbs:Nat))∧w=w':=by
 by_cases h:n<0;·
  have hd:decide (n<0)=true:=by simpa using h
  go_enter Tryz.func92,Tryz.ntmps92;go_wp2;go_ret;exact⟨ret_u64 (by show IntKind.u64.wrap (-IntKind.u64.wrap n)=_;rw [wrap_u64,wrap_u64];omega),rfl⟩
 ·have hd:decide (n<0)=false:=by simpa using h
  go_enter Tryz.func92,Tryz.ntmps92;go_wp2;go_ret;exact⟨ret_u64 (by show n=_;omega),rfl⟩
theorem Sub32_calls {w:World} {x y b:Nat} (hx:x<4294967296) (hy:y<4294967296) (hb:b≤1) :
  Calls Tryz.prog 127 #[.int .u32 x,.int .u32 y,.int .u32 b] w fun e w'=>e=.returned (.tuple #[.int .u32 ((x+4294967296 - y - b) % 4294967296:Nat),.int .u32 (bor x y b:Nat)])∧w=w':=by
 have hbit:=sub32_bit hx hy hb;obtain⟨d,hdd⟩:∃ d,d=(x+4294967296 - y - b) % 4294967296:=⟨_,rfl⟩;have hd:((x:Int) - y - b) % 4294967296=(d:Nat):=o_
 have hdl:d<4294967296:=o_
 rw [← hdd] at hbit ⊢;have e1:bits BinOp.xor IntKind.u32 IntKind.u32.max (x:Int)=((4294967295 ^^^ x:Nat):Int):=u32_xor_nat 4294967295 x o_ hx;have e2:bits BinOp.xor IntKind.u32 (x:Int) (y:Int)=((x ^^^ y:Nat):Int):=u32_xor_nat x y hx hy;have hn1:4294967295 ^^^ x<4294967296:=Nat.xor_lt_two_pow (n:=32) o_ hx;have hxy:x ^^^ y<4294967296:=Nat.xor_lt_two_pow (n:=32) hx hy;have hn2:4294967295 ^^^ (x ^^^ y)<4294967296:=Nat.xor_lt_two_pow (n:=32) o_ hxy;have e3:bits BinOp.xor IntKind.u32 IntKind.u32.max ((x ^^^ y:Nat):Int)=((4294967295 ^^^ (x ^^^ y):Nat):Int):=u32_xor_nat 4294967295 (x ^^^ y) o_ hxy;have ha1:(4294967295 ^^^ x) &&& y<4294967296:=Nat.lt_of_le_of_lt Nat.and_le_right hy;have ha2:(4294967295 ^^^ (x ^^^ y)) &&& d<4294967296:=Nat.lt_of_le_of_lt Nat.and_le_right hdl;have e4:bits BinOp.and IntKind.u32 ((4294967295 ^^^ x:Nat):Int) (y:Int)=(((4294967295 ^^^ x) &&& y:Nat):Int):=u32_and_nat _ _ hn1 hy;have e5:bits BinOp.and IntKind.u32 ((4294967295 ^^^ (x ^^^ y):Nat):Int) (d:Int)=(((4294967295 ^^^ (x ^^^ y)) &&& d:Nat):Int):=u32_and_nat _ _ hn2 hdl;have e6:bits BinOp.or IntKind.u32 (((4294967295 ^^^ x) &&& y:Nat):Int) (((4294967295 ^^^ (x ^^^ y)) &&& d:Nat):Int)=((((4294967295 ^^^ x) &&& y) ||| ((4294967295 ^^^ (x ^^^ y)) &&& d):Nat):Int):=u32_or_nat _ _ ha1 ha2;have hres:bits BinOp.or IntKind.u32 (bits BinOp.and IntKind.u32 (bits BinOp.xor IntKind.u32 IntKind.u32.max (x:Int)) y) (bits BinOp.and IntKind.u32 (bits BinOp.xor IntKind.u32 IntKind.u32.max (bits BinOp.xor IntKind.u32 (x:Int) y)) (((x:Int) - y - b) % 4294967296)) / 2147483648=(bor x y b:Nat):=by rw [hd,e1,e2,e3,e4,e5,e6];omega
 have Hres:=q_ hres;have Hd:=q_ hd;generalize bor x y b=bb at *
 clear hbit hdd hd hdl e1 e2 hn1 hxy hn2 e3 ha1 ha2 e4 e5 e6 hres;go_enter Tryz.func127,Tryz.ntmps127;go_wp2;go_ret2;exact⟨by rw [← Hres.out,← Hd.out];rfl,rfl⟩
theorem carry_calls {w:World} {c x y:Nat} {b:Nat} (hc:c<4294967296) (hx:x<4294967296) (hy:y<4294967296) (hb:w.heap[b]?=some (.cells #[.int .u32 x,.int .u32 y] 75 (0,0))) :
  Calls Tryz.prog 126 #[.int .u64 c,.slice (some ⟨b,0,none⟩) 2 2] w fun e w'=>e=.returned (.tuple #[.int .u32 ((c+x+y) % 4294967296:Nat),.int .u64 ((c+x+y) / 4294967296:Nat)])∧w=w':=by
 obtain⟨b0,b1,hl⟩:=l2_ hb;have e1:((((c+x+y) % 4294967296:Nat)):Int)=((c:Int)+x+y) % 4294967296:=o_
 have e2:((((c+x+y) / 4294967296:Nat)):Int)=((c:Int)+x+y) / 4294967296:=o_
 have E:=q_ (And.intro e1 e2);clear hb e1 e2;go_enter Tryz.func126,Tryz.ntmps126;go_wp2;refine wp_loop_rounds 3 ?_
 iterate 3 (rw [rounds_succ];go_wp2)
 go_ret2;exact⟨by rw [E.out.1,E.out.2];rfl,rfl⟩
theorem against_calls {w:World} {da db:List Nat} {va vb:Value} (ha:Reads w va da.length 1 (u32s da)) (hb:Reads w vb db.length 1 (u32s db)) (hDa:Dig 4294967296 da) (hDb:Dig 4294967296 db) (ca:Canon da) (cb:Canon db) (hla:da.length≤1000000) (hlb:db.length≤1000000) :
  Calls Tryz.prog 90 #[va,vb] w fun e w'=>e=.returned (.int .i64 (cmpN (val 4294967296 da) (val 4294967296 db)))∧Drew w w':=by
 obtain⟨_,a,ac,rfl,haa⟩:=ha;obtain⟨_,b,bc,rfl,hbb⟩:=hb;have Ha:=q_ haa;have Hb:=q_ hbb;clear haa hbb;obtain⟨r,hr0⟩:∃ r,cmpN (val 4294967296 da) (val 4294967296 db)=r:=⟨_,rfl⟩;rw [hr0];have Hr0:=q_ hr0;clear hr0;by_cases hne:da.length=db.length
 rotate_left
 ·have hd:((da.length:Int) != (db.length:Int))=true:=by simp;omega
  by_cases hlt:da.length<db.length;·
   have hd2:decide (da.length<db.length)=true:=(by simpa using hlt);have hr:=val_lt_len o_ hDa hDb cb hlt;have hc:cmpN (val 4294967296 da) (val 4294967296 db)=-1:=(by unfold cmpN;rw [if_pos hr]);have Hc:=q_ hc;clear hc hr hDa hDb ca cb hne hlt;go_enter Tryz.func90,Tryz.ntmps90;go_wp2;go_ret;exact⟨by rw [← Hr0.out,Hc.out];rfl,Drew.refl _⟩
  ·have hd2:decide (da.length<db.length)=false:=(by simpa using hlt);have hr:=val_lt_len o_ hDb hDa ca o_;have hc:cmpN (val 4294967296 da) (val 4294967296 db)=1:=(by unfold cmpN;rw [if_neg o_,if_pos hr]);have Hc:=q_ hc;clear hc hr hDa hDb ca cb hne hlt;go_enter Tryz.func90,Tryz.ntmps90;go_wp2;go_ret;exact⟨by rw [← Hr0.out,Hc.out];rfl,Drew.refl _⟩
 ·have hd:((da.length:Int) != (db.length:Int))=false:=by simp;omega
  have HDa:=q_ hDa;have HDb:=q_ hDb;have Hne:=q_ hne;clear hDa hDb ca cb hne;go_enter Tryz.func90,Tryz.ntmps90;go_wp2;go_loopw [5] (fun x wr=>∃ (k:Nat) (z:Int),x=.int .i64 z∧z=(k:Int) - 1∧k≤da.length∧da.drop k=db.drop k∧Drew w wr) (fun x _=>(intOf x+1).toNat);case atStart=>exact⟨da.length,_,rfl,rfl,Nat.le_refl _,by rw [List.drop_length,Hne.out,List.drop_length],Drew.refl _⟩
  case round =>
   obtain⟨k,z,rfl,hz,hk,hdr,m,rfl⟩:=hrel;have Hdr:=q_ hdr;clear hdr;cases k with
   | zero =>have hz':z=-1:=o_;subst hz';clear hz;have heq:=Hdr.out;rw [List.drop_zero,List.drop_zero] at heq;have hc:cmpN (val 4294967296 da) (val 4294967296 db)=0:=(by rw [heq];unfold cmpN;rw [if_neg o_,if_neg o_]);have Hc:=q_ hc;clear hc heq;go_wp2;go_ret;exact⟨by rw [← Hr0.out,Hc.out];rfl,m,rfl⟩
   | succ k =>
    obtain rfl:z=(k:Int):=o_;clear hz;have hkb:k<db.length:=(by have:=Hne.out;omega);obtain⟨g1,off1,rfl,hg1,hc1⟩:=Ha.out o_;obtain⟨g2,off2,rfl,hg2,hc2⟩:=Hb.out o_;have e1:=hc1 k _ (u32s_get o_);have e2:=hc2 k _ (u32s_get hkb);have hxl:=HDa.out.getD o_ k;have hyl:=HDb.out.getD o_ k;have htop:=fun h=>val_lt_top (B:=4294967296) o_ HDa.out HDb.out (i:=k) o_ Hne.out Hdr.out h;have htop2:=fun h=>val_lt_top (B:=4294967296) o_ HDb.out HDa.out (i:=k) o_ Hne.out.symm Hdr.out.symm h;have hde:=drop_eq_succ (i:=k) o_ Hne.out Hdr.out;have Htop:=q_ htop;have Htop2:=q_ htop2;have Hde:=q_ hde;clear hc1 hc2 htop htop2 hde hxl hyl;generalize da.getD k 0=x at *
    generalize db.getD k 0=y at *
    rcases Nat.lt_trichotomy x y with hxy|hxy|hxy
    ·have hd1:decide (x<y)=true:=(by simpa using hxy);have hc:cmpN (val 4294967296 da) (val 4294967296 db)=-1:=(by unfold cmpN;rw [if_pos (Htop.out hxy)]);have Hc:=q_ hc;clear hc hxy;go_wp2;(refine wT ?_);go_wp2;refine sT_ rfl ?_;go_wp2;go_ret;exact⟨by rw [← Hr0.out,Hc.out];rfl,m+1,rfl⟩
    ·subst hxy;go_wp2;(refine wT ?_);go_wp2;refine sT_ rfl ?_;go_wp2;(refine wT ?_);go_wp2;refine sT_ rfl ?_;go_wp2;go_roundw;case rel=>exact⟨k,_,rfl,rfl,o_,Hde.out (by first|rfl|trivial),m+1+1,rfl⟩
     case measure=>first|(simp [intOf];done)|(simp [intOf];omega)
    ·have hd1:decide (x<y)=false:=(by simp;omega);have hd2:decide (y<x)=true:=(by simpa using hxy);have hc:cmpN (val 4294967296 da) (val 4294967296 db)=1:=(by unfold cmpN;rw [if_neg (by have:=Htop2.out hxy;omega),if_pos (Htop2.out hxy)]);have Hc:=q_ hc;clear hc hxy;go_wp2;(refine wT ?_);go_wp2;refine sT_ rfl ?_;go_wp2;(refine wT ?_);go_wp2;refine sT_ rfl ?_;go_wp2;go_ret;exact⟨by rw [← Hr0.out,Hc.out];rfl,m+1+1,rfl⟩
theorem info_u32:(Tryz.prog.info? 75).map (fun i=>(i.zero,i.size,i.bytes))=some (some (.int .u32 0),1,4):=by kernel_rfl
def FreshPost (w:World) (V n:Nat) (e:Ending) (w':World):Prop :=
 ∃ a c ds,e=.returned (.slice a ds.length c)∧w'.ownsRow w.heap.size 75 1 (.slice a ds.length c) ds.length (u32s ds)∧Dig 4294967296 ds∧val 4294967296 ds=V∧ds.length≤n∧ds.length≤c∧Fr [] w w'
theorem plus_calls {w:World} {da db:List Nat} {va vb:Value} (ha:Reads w va da.length 1 (u32s da)) (hb:Reads w vb db.length 1 (u32s db)) (hDa:Dig 4294967296 da) (hDb:Dig 4294967296 db) (hla:da.length≤100000) (hlb:db.length≤100000) :
  Calls Tryz.prog 89 #[va,vb] w (FreshPost w (val 4294967296 da+val 4294967296 db) (max da.length db.length+1)):=by
 have hda:=fun w1 (hf:Fr [] w w1) i=>digit_calls (ha.fr hf) o_ i;have hdb:=fun w1 (hf:Fr [] w w1) i=>digit_calls (hb.fr hf) o_ i;have Hda:=q_ hda;have Hdb:=q_ hdb;obtain⟨_,a,ac,rfl,_⟩:=ha;obtain⟨_,b,bc,rfl,_⟩:=hb;have HDa:=q_ hDa;have HDb:=q_ hDb;clear hda hdb hDa hDb;have Hna:=q_ (show ((da.length:Int)+1)=((da.length+1:Nat):Int) by omega);have Hnb:=q_ (show ((db.length:Int)+1)=((db.length+1:Nat):Int) by omega);by_cases hlt:da.length<db.length;·
  go_enter Tryz.func89,Tryz.ntmps89;go_wp2_with (refine wpList_make1 rfl (t:=28) (e:=75) (n:=db.length+1) (z:=.int .u32 0) (bytes:=4) rfl (congrArg (Value.int .i64) Hnb.out) (congrArg (Value.int .i64) Hnb.out) Tryz.underlying28 info_u32 rfl o_ (by unfold maxLen;omega) ?_);intro w1 ho1 hf1 hsz1;obtain⟨n,hn⟩:∃ n:Nat,db.length+1=n:=⟨_,rfl⟩;have hni:((db.length:Int)+1)=n:=o_
  rw [hn] at ho1;rw [hn,hni];have hn1:da.length+1≤n:=o_
  have hn2:db.length+1≤n:=o_
  have hn3:n≤max da.length db.length+1:=o_
  have hn4:n≤100001:=o_
  have HN3:=q_ hn3;have Ho1:=q_ ho1;have Hf1:=q_ hf1;clear ho1 hf1 hn hni hlt hn3;go_wp2_with fail;go_loopw [7,18] (fun xc xk wl=>∃ (k c:Nat) (l:List Nat),xc=.int .u64 c∧xk=.int .i64 k∧k≤n∧c<4294967296∧l.length=n∧Dig 4294967296 l∧val 4294967296 (l.take k)+4294967296 ^ k*c=val 4294967296 (da.take k)+val 4294967296 (db.take k) ∧
    wl.ownsRow w.heap.size 75 1 (.slice (some ⟨w.heap.size,0,none⟩) n n) n (u32s l)∧Fr [] w wl) (fun _ xk _=>n - (intOf xk).toNat)
  case atStart=>exact⟨0,0,List.replicate n 0,rfl,rfl,o_,o_,List.length_replicate,Dig.replicate o_ n,by simp [val],by rw [u32s_zero];exact Ho1.out,Hf1.out⟩
  case round =>
   obtain⟨k,c,l,rfl,rfl,hk,hc,hl,hD,hv,ho,hf⟩:=hrel;have hol:=oLT ho rfl;have Ho:=q_ ho;have Hf:=q_ hf;have HD:=q_ hD;have Hv:=q_ hv;have Hl:=q_ hl;by_cases hkn:k<n;·
    have hcz:=owns_cell ho rfl (u32s_get (l:=l) (i:=k) o_);have hz:=owns_frozen ho rfl k;have hxl:=HDa.out.getD (by omega:0<4294967296) k;have hyl:=HDb.out.getD (by omega:0<4294967296) k;have hst:=sum_step (B:=4294967296) (s:=c+da.getD k 0+db.getD k 0) o_ hv rfl;rw [← val_take_succ,← val_take_succ,← Nat.pow_succ] at hst;have hda:=fun w2 (hf2:Fr [] w w2)=>Hda.out w2 hf2 k;have hdb:=fun w2 (hf2:Fr [] w w2)=>Hdb.out w2 hf2 k;have hca:=fun (w2:World) (b:Nat) (hb:w2.heap[b]?=some (.cells #[.int .u32 (da.getD k 0:Nat),.int .u32 (db.getD k 0:Nat)] 75 (0,0)))=>carry_calls (c:=c) hc hxl hyl hb;have hset:=fun d=>owns_set ho rfl (j:=k) (by rw [u32s_length];omega) (.int .u32 d);have Hset:=q_ hset;have Hst:=q_ hst;have HA:=q_ hda;have HB:=q_ hdb;have HC:=q_ hca;clear ho hf hD hv hl hst hda hdb hca hset;generalize da.getD k 0=x at *
    generalize db.getD k 0=y at *
    generalize l.getD k 0=z at *
    go_wp2_with fail;refine (HA.out _ Hf.out).mono ?_;rintro e w2 ⟨rfl,rfl⟩;go_wp2_with fail;refine (HB.out _ Hf.out).mono ?_;rintro e w2 ⟨rfl,rfl⟩;go_wp2_with fail;refine (HC.out _ _ hpT).mono ?_;rintro e w2 ⟨rfl,rfl⟩;have hdl:(c+x+y) % 4294967296<4294967296:=Nat.mod_lt _ o_;have hcl:(c+x+y) / 4294967296<4294967296:=o_
    generalize (c+x+y) % 4294967296=d at *
    generalize (c+x+y) / 4294967296=c2 at *
    clear hxl hyl;go_wp2;go_roundw;case rel =>
     refine⟨k+1,c2,l.set k d,rfl,by go_num,o_,hcl,by rw [List.length_set];exact Hl.out,HD.out.set hdl,?_,?_,?_⟩;·rw [val_set_take (by have:=Hl.out;omega)];exact Hst.out
     ·rw [u32s_set];refine oOB (Hset.out d) fun z hz=>?_;have hzz:w.heap.size=z:=(by simpa [Value.ownBlock] using hz);subst hzz;exact hAE _ _ _ (by rw [hSz];exact hol)
     ·exact (Hf.out.setCell (.inr i_) _).alloc _
    case measure=>simp [intOf];omega
   ·obtain rfl:k=n:=o_;have hv':=Hv.out;rw [List.take_of_length_le (by have:=Hl.out;omega),List.take_of_length_le o_,List.take_of_length_le o_] at hv';have hc0:=plus_end o_ hv' (val_lt HDa.out) (val_lt HDb.out) hn1 hn2;subst hc0;have Hv2:=q_ hv';clear ho hf hD hv hl hv';go_wp2;go_ret;have hl:=Hl.out;subst hl;exact⟨_,_,l,rfl,Ho.out,HD.out,by have h:=Hv2.out;first|exact h|(rw [Nat.mul_zero,Nat.add_zero] at h;exact h),HN3.out,Nat.le_refl _,Hf.out⟩
 ·go_enter Tryz.func89,Tryz.ntmps89;go_wp2_with (refine wpList_make1 rfl (t:=28) (e:=75) (n:=da.length+1) (z:=.int .u32 0) (bytes:=4) rfl (congrArg (Value.int .i64) Hna.out) (congrArg (Value.int .i64) Hna.out) Tryz.underlying28 info_u32 rfl o_ (by unfold maxLen;omega) ?_);intro w1 ho1 hf1 hsz1;obtain⟨n,hn⟩:∃ n:Nat,da.length+1=n:=⟨_,rfl⟩;have hni:((da.length:Int)+1)=n:=o_
  rw [hn] at ho1;rw [hn,hni];have hn1:da.length+1≤n:=o_
  have hn2:db.length+1≤n:=o_
  have hn3:n≤max da.length db.length+1:=o_
  have hn4:n≤100001:=o_
  have HN3:=q_ hn3;have Ho1:=q_ ho1;have Hf1:=q_ hf1;clear ho1 hf1 hn hni hlt hn3;go_wp2_with fail;go_loopw [7,18] (fun xc xk wl=>∃ (k c:Nat) (l:List Nat),xc=.int .u64 c∧xk=.int .i64 k∧k≤n∧c<4294967296∧l.length=n∧Dig 4294967296 l∧val 4294967296 (l.take k)+4294967296 ^ k*c=val 4294967296 (da.take k)+val 4294967296 (db.take k) ∧
    wl.ownsRow w.heap.size 75 1 (.slice (some ⟨w.heap.size,0,none⟩) n n) n (u32s l)∧Fr [] w wl) (fun _ xk _=>n - (intOf xk).toNat)
  case atStart=>exact⟨0,0,List.replicate n 0,rfl,rfl,o_,o_,List.length_replicate,Dig.replicate o_ n,by simp [val],by rw [u32s_zero];exact Ho1.out,Hf1.out⟩
  case round =>
   obtain⟨k,c,l,rfl,rfl,hk,hc,hl,hD,hv,ho,hf⟩:=hrel;have hol:=oLT ho rfl;have Ho:=q_ ho;have Hf:=q_ hf;have HD:=q_ hD;have Hv:=q_ hv;have Hl:=q_ hl;by_cases hkn:k<n;·
    have hcz:=owns_cell ho rfl (u32s_get (l:=l) (i:=k) o_);have hz:=owns_frozen ho rfl k;have hxl:=HDa.out.getD (by omega:0<4294967296) k;have hyl:=HDb.out.getD (by omega:0<4294967296) k;have hst:=sum_step (B:=4294967296) (s:=c+da.getD k 0+db.getD k 0) o_ hv rfl;rw [← val_take_succ,← val_take_succ,← Nat.pow_succ] at hst;have hda:=fun w2 (hf2:Fr [] w w2)=>Hda.out w2 hf2 k;have hdb:=fun w2 (hf2:Fr [] w w2)=>Hdb.out w2 hf2 k;have hca:=fun (w2:World) (b:Nat) (hb:w2.heap[b]?=some (.cells #[.int .u32 (da.getD k 0:Nat),.int .u32 (db.getD k 0:Nat)] 75 (0,0)))=>carry_calls (c:=c) hc hxl hyl hb;have hset:=fun d=>owns_set ho rfl (j:=k) (by rw [u32s_length];omega) (.int .u32 d);have Hset:=q_ hset;have Hst:=q_ hst;have HA:=q_ hda;have HB:=q_ hdb;have HC:=q_ hca;clear ho hf hD hv hl hst hda hdb hca hset;generalize da.getD k 0=x at *
    generalize db.getD k 0=y at *
    generalize l.getD k 0=z at *
    go_wp2_with fail;refine (HA.out _ Hf.out).mono ?_;rintro e w2 ⟨rfl,rfl⟩;go_wp2_with fail;refine (HB.out _ Hf.out).mono ?_;rintro e w2 ⟨rfl,rfl⟩;go_wp2_with fail;refine (HC.out _ _ hpT).mono ?_;rintro e w2 ⟨rfl,rfl⟩;have hdl:(c+x+y) % 4294967296<4294967296:=Nat.mod_lt _ o_;have hcl:(c+x+y) / 4294967296<4294967296:=o_
    generalize (c+x+y) % 4294967296=d at *
    generalize (c+x+y) / 4294967296=c2 at *
    clear hxl hyl;go_wp2;go_roundw;case rel =>
     refine⟨k+1,c2,l.set k d,rfl,by go_num,o_,hcl,by rw [List.length_set];exact Hl.out,HD.out.set hdl,?_,?_,?_⟩;·rw [val_set_take (by have:=Hl.out;omega)];exact Hst.out
     ·rw [u32s_set];refine oOB (Hset.out d) fun z hz=>?_;have hzz:w.heap.size=z:=(by simpa [Value.ownBlock] using hz);subst hzz;exact hAE _ _ _ (by rw [hSz];exact hol)
     ·exact (Hf.out.setCell (.inr i_) _).alloc _
    case measure=>simp [intOf];omega
   ·obtain rfl:k=n:=o_;have hv':=Hv.out;rw [List.take_of_length_le (by have:=Hl.out;omega),List.take_of_length_le o_,List.take_of_length_le o_] at hv';have hc0:=plus_end o_ hv' (val_lt HDa.out) (val_lt HDb.out) hn1 hn2;subst hc0;have Hv2:=q_ hv';clear ho hf hD hv hl hv';go_wp2;go_ret;have hl:=Hl.out;subst hl;exact⟨_,_,l,rfl,Ho.out,HD.out,by have h:=Hv2.out;first|exact h|(rw [Nat.mul_zero,Nat.add_zero] at h;exact h),HN3.out,Nat.le_refl _,Hf.out⟩
theorem minus_calls {w:World} {da db:List Nat} {va vb:Value} (ha:Reads w va da.length 1 (u32s da)) (hb:Reads w vb db.length 1 (u32s db)) (hDa:Dig 4294967296 da) (hDb:Dig 4294967296 db) (hla:da.length≤100000) (hlb:db.length≤da.length) (hle:val 4294967296 db≤val 4294967296 da) :
  Calls Tryz.prog 91 #[va,vb] w (FreshPost w (val 4294967296 da - val 4294967296 db) da.length):=by
 have hdb:=fun w1 (hf:Fr [] w w1) i=>digit_calls (hb.fr hf) o_ i;have Hdb:=q_ hdb;obtain⟨_,a,ac,rfl,haa⟩:=ha;obtain⟨_,b,bc,rfl,_⟩:=hb;have Haa:=q_ haa;have HDa:=q_ hDa;have HDb:=q_ hDb;have Hle:=q_ hle;obtain⟨n,hn⟩:∃ n,da.length=n:=⟨_,rfl⟩;have Hn:=q_ hn;rw [hn] at Haa hla hlb ⊢;clear hdb hDa hDb haa hle hn;go_enter Tryz.func91,Tryz.ntmps91;go_wp2_with (refine wpList_make1 rfl (t:=28) (e:=75) (n:=n) (z:=.int .u32 0) (bytes:=4) rfl rfl rfl Tryz.underlying28 info_u32 rfl o_ (by unfold maxLen;omega) ?_);intro w1 ho1 hf1 hsz1;have Ho1:=q_ ho1;have Hf1:=q_ hf1;clear ho1 hf1;go_wp2_with fail;go_loopw [6,13] (fun xb xk wl=>∃ (k bo:Nat) (l:List Nat),xb=.int .u32 bo∧xk=.int .i64 k∧k≤n∧bo≤1∧l.length=n∧Dig 4294967296 l∧val 4294967296 (l.take k)+val 4294967296 (db.take k)=val 4294967296 (da.take k)+4294967296 ^ k*bo ∧
   wl.ownsRow w.heap.size 75 1 (.slice (some ⟨w.heap.size,0,none⟩) n n) n (u32s l)∧Fr [] w wl) (fun _ xk _=>n - (intOf xk).toNat)
 case atStart=>exact⟨0,0,List.replicate n 0,rfl,rfl,o_,o_,List.length_replicate,Dig.replicate o_ n,by simp [val],by rw [u32s_zero];exact Ho1.out,Hf1.out⟩
 case round =>
  obtain⟨k,bo,l,rfl,rfl,hk,hbo,hl,hD,hv,ho,hf⟩:=hrel;have hol:=oLT ho rfl;have Ho:=q_ ho;have Hf:=q_ hf;have HD:=q_ hD;have Hv:=q_ hv;have Hl:=q_ hl;by_cases hkn:k<n;·
   obtain⟨g,off,rfl,hg,hc⟩:=Haa.out o_;have e1:=(hf.cell (p:=⟨g,off+k,none⟩) hg i_).trans (hc k _ (u32s_get (by have:=Hn.out;omega)));have hgr:g<wr.heap.size:=(by have:=hf.size;omega);have hcz:=owns_cell ho rfl (u32s_get (l:=l) (i:=k) o_);have hz:=owns_frozen ho rfl k;have hxl:=HDa.out.getD (by omega:0<4294967296) k;have hyl:=HDb.out.getD (by omega:0<4294967296) k;have hst:=diff_step (B:=4294967296) (P:=4294967296 ^ k) hv (sub_digit hxl hyl hbo);rw [← val_take_succ,← val_take_succ,← Nat.pow_succ] at hst;have hdb:=fun w2 (hf2:Fr [] w w2)=>Hdb.out w2 hf2 k;have hsu:=fun (w2:World)=>Sub32_calls (w:=w2) hxl hyl hbo;have hset:=fun d=>owns_set ho rfl (j:=k) (by rw [u32s_length];omega) (.int .u32 d);have hdl:(da.getD k 0+4294967296 - db.getD k 0 - bo) % 4294967296<4294967296:=Nat.mod_lt _ o_;have hbl:=bor_le (da.getD k 0) (db.getD k 0) bo;have Hset:=q_ hset;have Hst:=q_ hst;have HB:=q_ hdb;have HC:=q_ hsu;have Hdl:=q_ hdl;have Hbl:=q_ hbl;clear ho hf hD hv hl hst hdb hsu hset hxl hyl hc hdl hbl;generalize (da.getD k 0+4294967296 - db.getD k 0 - bo) % 4294967296=d at *
   generalize bor (da.getD k 0) (db.getD k 0) bo=b2 at *
   generalize da.getD k 0=x at *
   generalize db.getD k 0=y at *
   generalize l.getD k 0=z at *
   go_wp2;refine wS [([0,1,2,3,4,5,6,7,8],[5]),([9,10,11,12,13,14,15,16],[])] ?_;(simp only [wpSegs,pick,aq_,bq_,cq_,dq_,eq_]);go_wp2_with fail;refine (HB.out _ (by have:=Hf.out;exact Fr.t)).mono ?_;rintro e w2 ⟨rfl,rfl⟩;go_wp2;refine mD_ ⟨⟨ac_ (T:=75) rfl rfl rfl Tryz.underlying75 rfl e1 rfl,trivial⟩,?_⟩;go_wp2_with fail;refine (HC.out _).mono ?_;rintro e w2 ⟨rfl,rfl⟩;go_wp2;refine mD_ ⟨trivial,sT_ rfl ?_⟩;go_wp2;go_roundw;case rel =>
    refine⟨k+1,b2,l.set k d,rfl,by go_num,o_,Hbl.out,by rw [List.length_set];exact Hl.out,HD.out.set Hdl.out,?_,?_,?_⟩;·rw [val_set_take (by have:=Hl.out;omega)];exact Hst.out
    ·rw [u32s_set];exact Hset.out d
    ·exact (Hf.out.setCell (.inr i_) _).drew
   case measure=>simp [intOf];omega
  ·obtain rfl:k=n:=o_;have hv':=Hv.out;rw [List.take_of_length_le (by have:=Hl.out;omega),List.take_of_length_le o_,List.take_of_length_le (by have:=Hn.out;omega)] at hv';have hvl:=val_lt hD;rw [hl] at hvl;obtain⟨hb0,hv2⟩:=minus_end hv' hvl Hle.out;subst hb0;have Hv2:=q_ hv2;clear ho hf hD hv hl hv' hvl hv2;go_wp2;go_ret;have hl:=Hl.out;subst hl;exact⟨_,_,l,rfl,Ho.out,HD.out,Hv2.out,Nat.le_refl _,Nat.le_refl _,Hf.out⟩
theorem down1_calls {w:World} {x:Nat}:Calls Tryz.prog 147 #[.int .u32 x] w fun e w'=>e=.returned (.bool (decide (x≠0)))∧w=w':=by
 have hd:((x:Int) != 0)=decide (x≠0):=by by_cases h:x=0<;>simp [h]
 obtain⟨b,hb⟩:∃ b,decide (x≠0)=b:=⟨_,rfl⟩;rw [hb] at hd ⊢;clear hb;go_enter Tryz.func147,Tryz.ntmps147;go_wp2;go_ret;exact⟨rfl,rfl⟩
theorem IndexFunc_calls {w:World} {ds:List Nat} {v:Value} (hv:Reads w v ds.length 1 (u32s ds)) (hl:ds.length≤1000000) :
  Calls Tryz.prog 162 #[v,.func (.func 147) #[] #[]] w fun e w'=>∃ z:Int,e=.returned (.int .i64 z)∧decide (0≤z)=decide (val 4294967296 ds≠0)∧Drew w w':=by
 obtain⟨_,a,c,rfl,hav⟩:=hv;have Hav:=q_ hav;clear hav;obtain⟨n,hn⟩:∃ n,ds.length=n:=⟨_,rfl⟩;have Hn:=q_ hn;rw [hn] at Hav hl ⊢;clear hn;go_enter Tryz.func162,Tryz.ntmps162;go_wp2_with fail;go_loopw [8] (fun xk wl=>∃ k:Nat,xk=.int .i64 k∧k≤n∧val 4294967296 (ds.take k)=0∧Drew w wl) (fun xk _=>n - (intOf xk).toNat);case atStart=>exact⟨0,rfl,o_,by simp [val],Drew.refl _⟩
 case round =>
  obtain⟨k,rfl,hk,hv,hd⟩:=hrel;by_cases hkn:k<n;·
   obtain⟨g,off,rfl,hg,hc⟩:=Hav.out o_;have hf:=hd.fr [];have e1:=(hf.cell (p:=⟨g,off+k,none⟩) hg i_).trans (hc k _ (u32s_get (by have:=Hn.out;omega)));have hgr:g<wr.heap.size:=(by have:=hf.size;omega);have hz:=val_zero_iff (B:=4294967296) o_ (l:=ds) k;have hne:=val_take_ne (B:=4294967296) (l:=ds) k o_;have Hz:=q_ hz;have Hne:=q_ hne;have Hd:=q_ hd;have Hv:=q_ hv;clear hf hc hz hne hd hv;generalize ds.getD k 0=x at *
   go_wp2_with fail;refine down1_calls.mono ?_;rintro e w2 ⟨rfl,rfl⟩;by_cases hx:x=0;·
    have hd0:decide (x≠0)=false:=(by simp [hx]);have Hx:=q_ hx;clear hx;rw [hd0];go_wp2;go_roundw;case rel=>exact⟨k+1,by go_num,o_,Hz.out.2 ⟨Hv.out,Hx.out⟩,Hd.out⟩
    case measure=>simp [intOf];omega
   ·have hd0:decide (x≠0)=true:=(by simp [hx]);have Hx:=q_ hx;clear hx;rw [hd0];go_wp2;go_ret;refine⟨k,rfl,?_,Hd.out⟩;have h:=Hne.out (fun h=>Hx.out (Hz.out.1 h).2) (by have:=Hn.out;omega);rw [decide_eq_true h];simp
  ·obtain rfl:k=n:=o_;rw [List.take_of_length_le (by have:=Hn.out;omega)] at hv;have Hd:=q_ hd;have Hv:=q_ hv;clear hd hv;go_wp2;go_ret;refine⟨-1,rfl,?_,Hd.out⟩;rw [Hv.out];rfl
theorem ContainsFunc_calls {w:World} {ds:List Nat} {v:Value} (hv:Reads w v ds.length 1 (u32s ds)) (hl:ds.length≤1000000) :
  Calls Tryz.prog 146 #[v,.func (.func 147) #[] #[]] w fun e w'=>e=.returned (.bool (decide (val 4294967296 ds≠0)))∧Drew w w':=by
 have hi:=IndexFunc_calls hv hl;obtain⟨b,hb⟩:∃ b,decide (val 4294967296 ds≠0)=b:=⟨_,rfl⟩;rw [hb] at hi ⊢;have Hi:=q_ hi;clear hi hb;obtain⟨_,a,c,rfl,_⟩:=hv;go_enter Tryz.func146,Tryz.ntmps146;go_wp2_with fail;refine Hi.out.mono ?_;rintro e w1 ⟨z,rfl,hz,hd⟩;have Hd:=q_ hd;clear hd;go_wp2;go_ret;exact⟨rfl,Hd.out⟩
theorem down_calls {w:World} {ds:List Nat} {k:Nat} {a:Option Addr} {c:Nat} (hv:Reads w (.slice a ds.length c) ds.length 1 (u32s ds)) (hD:Dig 4294967296 ds) (hcn:Canon ds) (hl:ds.length≤1000000) (hc:ds.length≤c) (hk:k≤1000000) :
  Calls Tryz.prog 130 #[.slice a ds.length c,.int .i64 k] w (DownPost w (val 4294967296 ds / 2 ^ k) (decide (val 4294967296 ds % 2 ^ k≠0)) ds.length):=by
 obtain⟨wd,hwd⟩:∃ wd,k / 32=wd:=⟨_,rfl⟩;obtain⟨rs,hrs⟩:∃ rs,k % 32=rs:=⟨_,rfl⟩;have Ew:((k:Int) / 32)=wd:=o_
 have Er:((k:Int) % 32)=rs:=o_
 have hdg:=fun w1 (hf:Fr [] w w1) i=>digit_calls (hv.fr hf) o_ i;have Hdg:=q_ hdg;clear hdg;by_cases hb:ds.length≤wd
 ·have hlt:val 4294967296 ds<2 ^ k:=by
   have h1:=val_lt hD;have h2:=(two_split (ds:=ds) hwd hrs).1;have h3:4294967296 ^ ds.length≤4294967296 ^ wd:=Nat.pow_le_pow_right o_ hb;have h4:=Nat.le_mul_of_pos_right (4294967296 ^ wd) (Nat.pow_pos (n:=rs) (show 0<2 by omega));omega
  have hlost:decide (val 4294967296 ds % 2 ^ k≠0)=decide (0<ds.length):=by
   rw [Nat.mod_eq_of_lt hlt];by_cases h0:ds=[];·subst h0;rfl
   ·have:=canon_pos (B:=4294967296) o_ hcn h0;have h1:0<ds.length:=List.length_pos_iff.2 h0;rw [decide_eq_true o_,decide_eq_true o_]
  rw [Nat.div_eq_of_lt hlt,hlost];obtain⟨n,hn⟩:∃ n,ds.length=n:=⟨_,rfl⟩;rw [hn] at hb hc ⊢;have Hn:=q_ hn;clear hv hlt hlost hwd hrs hn;go_enter Tryz.func130,Tryz.ntmps130;obtain⟨lost,hlost⟩:∃ lost,decide (0<n)=lost:=⟨_,rfl⟩;rw [hlost];go_wp2;go_ret2;exact⟨none,0,[],rfl,reads_nil _,fun g hg=>by simp [Value.ownBlock] at hg,Dig.nil,rfl,i_,i_,Fr.refl _ _⟩
 ·have hcf:=fun w1 (hf:Fr [] w w1)=>ContainsFunc_calls (ds:=ds.take wd) (v:=.slice a wd c) (w:=w1) (by
   have h:=(Reads.take hv (by omega:wd≤ds.length)).fr hf
   rw [List.length_take,Nat.min_eq_left o_]
   rw [u32s,← List.map_take] at h
   exact h) (by rw [List.length_take];omega)
  have hli:=lost_iff hD hwd hrs o_;have hdd:=fun i hi=>down_digit hD hwd hrs (i:=i) hi;have hxl:val 4294967296 ds / 2 ^ k<4294967296 ^ (ds.length - wd):=by have h1:=val_lt hD;have h2:=(two_split (ds:=ds) hwd hrs).1;have hp:=Nat.pow_pos (n:=rs) (show 0<2 by omega);rw [h2];refine Nat.div_lt_of_lt_mul ?_;rw [show 4294967296 ^ wd*2 ^ rs*4294967296 ^ (ds.length - wd)=2 ^ rs*4294967296 ^ (wd+(ds.length - wd)) by rw [Nat.pow_add];simp only [Nat.mul_assoc,Nat.mul_comm,Nat.mul_left_comm],show wd+(ds.length - wd)=ds.length by omega];exact Nat.lt_of_lt_of_le h1 (Nat.le_mul_of_pos_left _ hp)
  have hdw:∀ i,ds.getD i 0<4294967296:=fun i=>hD.getD o_ i;have hr32:rs<32:=o_
  obtain⟨_,_,_,e0,hav⟩:=hv;simp only [Value.slice.injEq,true_and] at e0;obtain⟨rfl,rfl⟩:=e0;obtain⟨X,hX⟩:∃ X,val 4294967296 ds / 2 ^ k=X:=⟨_,rfl⟩;simp only [hX] at hdd hxl ⊢;obtain⟨n,hn⟩:∃ n,ds.length=n:=⟨_,rfl⟩;rw [hn] at hb hc hl hxl hav;simp only [hn] at hdd ⊢;have Hn:=q_ hn;have Hli:=q_ hli;have Hdd:=q_ hdd;have Hcf:=q_ hcf;have Hxl:=q_ hxl;have Hav:=q_ hav;have Hdw:=q_ hdw;clear hli hcf hdd hX hav hcn hn hwd hrs hdw hxl;obtain⟨lost,hlost⟩:∃ lost,decide (val 4294967296 ds % 2 ^ k≠0)=lost:=⟨_,rfl⟩;rw [hlost];have Hlost:=q_ hlost;clear hlost;go_enter Tryz.func130,Tryz.ntmps130;go_wp2_with fail;refine (Hcf.out _ (Fr.refl _ _)).mono ?_;rintro e w1 ⟨rfl,hd⟩;have hf:=hd.fr [];obtain⟨g,off,rfl,hg,hcc⟩:=Hav.out o_;have e1:=(hf.cell (p:=⟨g,off+wd,none⟩) hg i_).trans (hcc wd _ (u32s_get (by have:=Hn.out;omega)));have hgr:g<w1.heap.size:=by have:=hf.size;omega
  have ham:=and_mask (Hdw.out wd) hr32;have Hf:=q_ hf;have hdl:lost=decide (¬ (val 4294967296 (ds.take wd)=0∧ds.getD wd 0 % 2 ^ rs=0)):=by rw [← Hlost.out];exact decide_eq_decide.2 (not_congr Hli.out)
  clear hd hf hcc;obtain⟨x,hx⟩:∃ x,ds.getD wd 0=x:=⟨_,rfl⟩;rw [hx] at e1 ham hdl;clear hx;by_cases hv0:val 4294967296 (ds.take wd)=0;have hd0:decide (val 4294967296 (ds.take wd)≠0)=false:=by simp [hv0]
  have hbl:decide (x % 2 ^ rs≠0)=lost:=by rw [hdl];simp [hv0]
  rw [hbl] at ham;rw [hd0];clear hd0 hv0 hdl hbl
  rotate_left
  have hd0:decide (val 4294967296 (ds.take wd)≠0)=true:=by simp [hv0]
  obtain rfl:lost=true:=by rw [hdl];simp [hv0]
  rw [hd0];clear hd0 hv0 hdl ham
  rotate_left
  all_goals go_wp2_with (refine wpList_make1 rfl (t:=28) (e:=75) (n:=n - wd) (z:=.int .u32 0) (bytes:=4) rfl (congrArg (Value.int .i64) (by omega:(n:Int) - wd=((n - wd:Nat):Int))) (congrArg (Value.int .i64) (by omega:(n:Int) - wd=((n - wd:Nat):Int))) Tryz.underlying28 info_u32 rfl o_ (by unfold maxLen;omega) ?_)
  all_goals
   intro w2 ho2 hf2 hsz2;obtain⟨m,hm⟩:∃ m,n - wd=m:=⟨_,rfl⟩;have hmi:(n:Int) - wd=m:=o_
   rw [hm] at ho2;rw [hm,hmi];have hwm:wd+m=n:=o_;have Hf2:=q_ (Hf.out.trans0 hf2);have Ho2:=q_ ho2;have Hwm:=q_ hwm;obtain⟨q,hq⟩:∃ q,w1.heap.size=q:=⟨_,rfl⟩;have hqw:w.heap.size≤q:=(by have:=Hf.out.size;omega);have Hqw:=q_ hqw;rw [hq] at Ho2;rw [hq];have hgq:g<q:=o_;clear hf2 ho2 hmi hm hsz2 e1 hgr hwm hqw hq;go_wp2_with fail;go_loopw [46] (fun xk wl=>∃ (k:Nat) (l:List Nat),xk=.int .i64 k∧k≤m∧l.length=m∧Dig 4294967296 l∧(∀ j,j<k→l.getD j 0=X / 4294967296 ^ j % 4294967296) ∧
     wl.ownsRow q 75 1 (.slice (some ⟨q,0,none⟩) m m) m (u32s l)∧Fr [] w wl) (fun xk _=>m - (intOf xk).toNat)
   case atStart=>exact⟨0,List.replicate m 0,rfl,o_,List.length_replicate,Dig.replicate o_ m,fun j hj=>by omega,by rw [u32s_zero];exact Ho2.out,Hf2.out⟩
   case round =>
    obtain⟨j,l,rfl,hj,hl,hD,hdj,ho,hf⟩:=hrel;have hol:=oLT ho rfl;by_cases hjm:j<m;·
     have hwj:wd+j<n:=(by have:=Hwm.out;omega);obtain⟨_,_,e0,_,hcc⟩:=Hav.out o_;simp only [Option.some.injEq,Addr.mk.injEq,and_true] at e0;obtain⟨rfl,rfl⟩:=e0;have e2:=(hf.cell (p:=⟨g,off+(wd+j),none⟩) hg i_).trans (hcc (wd+j) _ (u32s_get (by have:=Hn.out;omega)));have hgr2:g<wr.heap.size:=(by have:=hf.size;omega);have hdg:=fun w2 (hf2:Fr [] w w2)=>Hdg.out w2 hf2 (wd+j+1);rw [Hn.out,show (((wd+j+1:Nat)):Int)=(wd:Int)+j+1 by omega] at hdg;have hset:=fun d=>owns_set ho rfl (j:=j) (by rw [u32s_length];omega) (.int .u32 d);have hfz:=owns_frozen ho rfl j;have e3:=owns_cell ho rfl (u32s_get (l:=l) (i:=j) o_);have hd1:=Hdw.out (wd+j);have hd2:=Hdw.out (wd+j+1);have hdx:=Hdd.out j hwj;have Hset:=q_ hset;have HDG:=q_ hdg;have HDl:=q_ hD;have Hdj:=q_ hdj;have Hl:=q_ hl;have Hf:=q_ hf;clear ho hf hD hdj hl hset hdg hcc;generalize ds.getD (wd+j) 0=x at *
     generalize ds.getD (wd+j+1) 0=y at *
     have Ex:IntKind.u64.wrap (x:Int)=x:=IntWalk.u64_in _ o_;have Ev:=or_two hd1 hd2;have hvb:val 4294967296 [x,y]<18446744073709551616:=(by simp [val];omega);obtain⟨v,hv⟩:∃ v,val 4294967296 [x,y]=v:=⟨_,rfl⟩;rw [hv] at Ev hvb hdx;have Hdx:=q_ hdx;have Hvb:=q_ hvb;clear hd1 hd2 hv hdx hvb;go_wp2;refine wS [([0,1,2,3,4,5,6,7,8,9,10,11,12],[5]),([13,14,15,16],[])] ?_;(simp only [wpSegs,pick,aq_,bq_,cq_,dq_,eq_]);go_wp2_with fail;refine (HDG.out _ (by have:=Hf.out;exact Fr.t)).mono ?_;rintro e w3 ⟨rfl,rfl⟩;go_wp2;refine mD_ ⟨⟨ac_ (T:=75) rfl rfl rfl Tryz.underlying75 rfl e2 rfl,trivial⟩,?_⟩;go_wp2;refine mD_ ⟨trivial,sT_ rfl ?_⟩;go_wp2;go_roundw;case rel =>
      refine⟨j+1,l.set j (v / 2 ^ rs % 4294967296),by go_num,o_,by rw [List.length_set];exact Hl.out,HDl.out.set (Nat.mod_lt _ o_),?_,?_,?_⟩;·
       intro i hi;by_cases hij:i=j;·
        subst hij;rw [List.getD_eq_getElem?_getD,List.getElem?_set_self (by have:=Hl.out;omega),Hdx.out];rfl
       ·rw [getD_set_ne hij];exact Hdj.out i o_
      ·have e:((v / 2 ^ rs % 4294967296:Nat):Int)=(v:Int) / 2 ^ rs % 4294967296:=i_;rw [u32s_set,e];exact Hset.out _
      ·exact (Hf.out.setCell (.inr (by have:=Hqw.out;simp;omega)) _).drew
     case measure=>simp [intOf];omega
    ·obtain rfl:j=m:=o_;have hvd:=val_of_digits (B:=4294967296) (X:=X) (l:=l) o_ (fun i hi=>hdj i o_);rw [hl,Nat.mod_eq_of_lt (by have h:=Hxl.out;have h2:=Hwm.out;rw [show n - wd=j by omega] at h;exact h)] at hvd;have Ho:=q_ ho;have Hf:=q_ hf;have HDl:=q_ hD;have Hvd:=q_ hvd;have Hl:=q_ hl;clear ho hf hD hvd hl hdj;go_wp2;go_ret2;have hl:=Hl.out;subst hl;exact⟨_,_,l,rfl,Reads.of_owns Ho.out,fun g' hg'=>(by simp [Value.ownBlock] at hg';have:=Hqw.out;omega),HDl.out,Hvd.out,by have:=Hwm.out;omega,Nat.le_refl _,Hf.out⟩
end Go.Proofs.YtebolidfbflkmaaGreat
end
