/- Own texts of this claim, part 8: no condition. -/
import Derived.Lib.SliceRun
import Derived.Maps.AppendAt
import Derived.Test.YtdanghnadbkhfaaGreatZR6
set_option linter.unusedVariables false
set_option linter.unusedSimpArgs false
section
namespace Go.Proofs.YtdanghnadbkhfaaGreat
open Go Go.RowKit Rg Hp Bn
set_option maxHeartbeats 2000000 in
theorem Right_calls {w:World} {neg:Bool} {ds:List Nat} {v:Value} (hv:Reads w v ds.length 1 (u32s ds)) (hl:ds.length≤9223372036854775807) :
  Calls Tryz.prog 84 #[.agg #[.bool neg,v]] w fun e w'=>e=.returned (.bool (RightB neg ds))∧Fr [] w w':=by
 obtain⟨_,a,c,rfl,hav⟩:=hv
 have Hav:=Lib.hid hav
 clear hav
 by_cases h0:ds.length=0
 ·have hd:decide ((ds.length:Int)=0)=true:=by simp [h0]
  have hR:RightB neg ds=!neg:=by unfold RightB;rw [if_pos h0]
  have HR:=Lib.hid hR
  obtain rfl:=List.eq_nil_of_length_eq_zero h0
  clear h0 hR hd
  go_enter Tryz.func84,Tryz.ntmps84
  go_wp2
  go_ret
  exact⟨by rw [HR.out];rfl,by (repeat first|exact Fr.refl _ _|assumption|apply Fr.n|apply Fr.d|apply Fr.a|refine Fr.s ?_ (.inr (by simp;try omega)) _)⟩
 ·obtain⟨g,off,rfl,hg,hc⟩:=Hav.out (by omega)
  have hcz:=hc (ds.length - 1) _ (u32s_get (by omega))
  have hd:((ds.length:Int) == 0)=false:=by rw [beq_eq_false_iff_ne];omega
  have hp1:(1:Int)≤ds.length:=by omega
  have hp2:(ds.length:Int) - 1<ds.length:=by omega
  by_cases h64:ds.length≤64
  ·have hd2:decide ((ds.length:Int)≤64)=true:=by simp;omega
   have hR:RightB neg ds=(((ds.getD (ds.length - 1) 0:Nat):Int) != 0):=by
    unfold RightB;rw [if_neg h0,Bool.eq_iff_iff];simp;omega
   have HR:=Lib.hid hR
   have H0:=Lib.hid h0
   generalize ds.getD (ds.length - 1) 0=y at *
   clear h0 hR hc
   go_enter Tryz.func84,Tryz.ntmps84
   go_wp2
   go_ret
   exact⟨by rw [HR.out];rfl,by (repeat first|exact Fr.refl _ _|assumption|apply Fr.n|apply Fr.d|apply Fr.a|refine Fr.s ?_ (.inr (by simp;try omega)) _)⟩
  ·have hd2:decide ((ds.length:Int)≤64)=false:=by simp;omega
   have hR:RightB neg ds=false:=by
    unfold RightB;rw [if_neg h0,Bool.eq_iff_iff];simp;omega
   have HR:=Lib.hid hR
   have H0:=Lib.hid h0
   clear h0 hcz hR hc
   go_enter Tryz.func84,Tryz.ntmps84
   go_wp2
   go_ret
   exact⟨by rw [HR.out];rfl,by (repeat first|exact Fr.refl _ _|assumption|apply Fr.n|apply Fr.d|apply Fr.a|refine Fr.s ?_ (.inr (by simp;try omega)) _)⟩
theorem digit_calls {w:World} {ds:List Nat} {v:Value} (hv:Reads w v ds.length 1 (u32s ds)) (hl:ds.length≤1000000) (i:Nat) :
  Calls Tryz.prog 86 #[v,.int .i64 i] w fun e w'=>e=.returned (.int .u32 (ds.getD i 0:Nat))∧w=w':=by
 obtain⟨_,a,c,rfl,hav⟩:=hv
 by_cases h:i<ds.length
 ·obtain⟨g,off,rfl,hg,hc⟩:=hav (by omega)
  have hcz:=hc i _ (u32s_get h)
  clear hc hav
  generalize ds.getD i 0=y at *
  go_enter Tryz.func86,Tryz.ntmps86
  go_wp2
  go_ret
  exact⟨rfl,rfl⟩
 ·have h0:ds.getD i 0=0:=by rw [List.getD_eq_getElem?_getD,List.getElem?_eq_none (by omega)];rfl
  rw [h0]
  clear h0 hav
  go_enter Tryz.func86,Tryz.ntmps86
  go_wp2
  go_ret
  exact⟨rfl,rfl⟩
set_option maxHeartbeats 2000000 in
theorem trimmed_calls {w:World} {ds:List Nat} {a:Option Addr} {c:Nat} (hv:Reads w (.slice a ds.length c) ds.length 1 (u32s ds)) (hD:Dig 4294967296 ds) (hl:ds.length≤1000000) (hc:ds.length≤c) :
  Calls Tryz.prog 114 #[.slice a ds.length c] w fun e w'=>e=.returned (.slice a (trimL 4294967296 ds).length c)∧w=w':=by
 obtain⟨_,a',c',he,hav⟩:=hv
 cases he
 have Hav:=Lib.hid hav
 have HD:=Lib.hid hD
 clear hav hD
 go_enter Tryz.func114,Tryz.ntmps114
 go_wp2
 go_loop [0] (fun x=>∃ k:Nat,k≤ds.length∧x=.slice a k c∧trimL 4294967296 (ds.take k)=trimL 4294967296 ds) (fun x=>match x with|.slice _ k _=>k|_=>0)
 case atStart=>exact⟨_,Nat.le_refl _,rfl,by rw [List.take_length]⟩
 case round =>
  obtain⟨k,hk,rfl,hT⟩:=hrel
  have HT:=Lib.hid hT
  clear hT
  cases k with
  | zero =>
   go_wp2
   go_ret
   have hT:=HT.out
   rw [List.take_zero] at hT
   exact⟨by rw [← hT,trimL_nil];rfl,rfl⟩
  | succ k =>
   obtain⟨g,off,rfl,hg,hc⟩:=Hav.out (by omega)
   have hcz:=hc k _ (u32s_get (by omega))
   have htk:ds.take (k+1)=ds.take k++[ds.getD k 0]:=by
    rw [List.take_add_one,List.getElem?_eq_getElem (by omega),List.getD_eq_getElem?_getD,List.getElem?_eq_getElem (by omega)];rfl
   have Htk:=Lib.hid htk
   clear hc htk
   obtain⟨y,hy⟩:∃ y,y=ds.getD k 0:=⟨_,rfl⟩
   rw [← hy] at hcz Htk
   have Hy:=Lib.hid hy
   clear hy
   by_cases hz:y=0
   ·subst hz
    go_wp2
    go_round
    case rel=>exact⟨k,by omega,rfl,by have:=HT.out;rwa [Htk.out,trimL_zero] at this⟩
    case measure=>simp
   ·have hb:((y:Int) == 0)=false:=by rw [beq_eq_false_iff_ne];omega
    have Hz:=Lib.hid hz
    clear hz
    go_wp2
    go_ret
    refine⟨?_,rfl⟩
    have hT:=HT.out
    have hD:=HD.out.take (k+1)
    rw [Htk.out] at hT hD
    rw [trimL_canon (by omega) hD (canon_snoc Hz.out)] at hT
    rw [← hT,List.length_append,List.length_take,Nat.min_eq_left (by omega)]
    rfl
set_option maxHeartbeats 2000000 in
set_option maxRecDepth 100000 in
theorem made_calls {w:World} {neg:Bool} {ds:List Nat} {a:Option Addr} {c:Nat} (hv:Reads w (.slice a ds.length c) ds.length 1 (u32s ds)) (hD:Dig 4294967296 ds) (hl:ds.length≤1000000) (hc:ds.length≤c) {A:Nat→Prop} (hlo:∀ g,(Value.slice a ds.length c).ownBlock=some g→A g) :
  Calls Tryz.prog 94 #[.bool neg,.slice a ds.length c] w (BigPost w A (mkN neg (val 4294967296 ds))):=by
 have Hlo:=Lib.hid hlo
 clear hlo
 have hT:=fun w1 (hf:Fr [] w w1)=>trimmed_calls (hv.fr hf) hD hl hc
 obtain⟨k,hk,hkt⟩:=trimL_prefix (by omega:2≤4294967296) ds.length rfl hD
 have hkl:(trimL 4294967296 ds).length=k:=by rw [hkt,List.length_take,Nat.min_eq_left hk]
 rw [hkl] at hT
 have hr:=Reads.take hv hk
 have hu:(u32s ds).take k=u32s (dg 4294967296 (val 4294967296 ds)):=by rw [u32s,u32s,← List.map_take,← hkt];rfl
 rw [hu] at hr
 have hle:=dg_length_le (B:=4294967296) (by omega) 64 (n:=val 4294967296 ds)
 have h0:=dg_eq_nil (B:=4294967296) (by omega) (n:=val 4294967296 ds)
 rw [← List.length_eq_zero_iff] at h0
 have hkl':(dg 4294967296 (val 4294967296 ds)).length=k:=hkl
 rw [hkl'] at hle h0
 have HT:=Lib.hid hT
 have Hr:=Lib.hid hr
 have Hkl:=Lib.hid hkl'
 clear hT hr hu hkt hkl hkl' hv hD
 have hmk:mkN neg (val 4294967296 ds)=if k=0 then (false,[],0) else if k≤64 then (neg,dg 4294967296 (val 4294967296 ds),0) else (false,[],6):=by
  unfold mkN
  by_cases e:val 4294967296 ds=0
  ·rw [if_pos e,if_pos (h0.2 e)]
  ·rw [if_neg e,if_neg (fun h=>e (h0.1 h))]
   by_cases e2:val 4294967296 ds<4294967296 ^ 64
   ·rw [if_pos e2,if_pos (hle.2 e2)]
   ·rw [if_neg e2,if_neg (fun h=>e2 (hle.1 h))]
 generalize mkN neg (val 4294967296 ds)=r at *
 generalize dg 4294967296 (val 4294967296 ds)=T at *
 clear hle h0
 by_cases hk0:k=0
 ·rw [if_pos hk0] at hmk
  have Hmk:=Lib.hid hmk
  clear hmk
  subst hk0
  go_enter Tryz.func94,Tryz.ntmps94
  go_wp2_with fail
  refine (HT.out _ (by (repeat first|exact Fr.refl _ _|assumption|apply Fr.n|apply Fr.d|apply Fr.a|refine Fr.s ?_ (.inr (by simp;try omega)) _))).mono ?_
  rintro e w1 ⟨rfl,rfl⟩
  go_wp2
  (try simp only [Exit.inBlock,Exit.then])
  have hr:=Hmk.out
  subst hr
  refine bodyPost_ret (bRS rfl (b:=w.heap.size) (x:=.bool false) (y:=.slice none 0 0) rfl (by (repeat first|rw [if_pos (by omega)]|rw [if_neg (by omega)]|rw [hDR]|rw [hDN]|rw [hAz]|rw [hSz]|rw [hAC]|rw [hSC]|rw [oMS]|rw [uPC]|rw [lSZ]|rw [lSS]|rfl)) rfl) rfl ⟨_,_,⟨Nat.le_refl _,fun g hg=>(by cases hg)⟩,rfl,reads_nil _,by (repeat first|exact Fr.refl _ _|assumption|apply Fr.n|apply Fr.d|apply Fr.a|refine Fr.s ?_ (.inr (by simp;try omega)) _)⟩
 by_cases hk64:k≤64
 ·rw [if_neg hk0,if_pos hk64] at hmk
  have Hmk:=Lib.hid hmk
  clear hmk
  have hd:decide ((64:Int)<k)=false:=by simp;omega
  have hd0:((k:Int) == 0)=false:=by rw [beq_eq_false_iff_ne];omega
  have Hk:=Lib.hid (And.intro hk0 hk64)
  clear hk0 hk64
  go_enter Tryz.func94,Tryz.ntmps94
  go_wp2_with fail
  refine (HT.out _ (by (repeat first|exact Fr.refl _ _|assumption|apply Fr.n|apply Fr.d|apply Fr.a|refine Fr.s ?_ (.inr (by simp;try omega)) _))).mono ?_
  rintro e w1 ⟨rfl,rfl⟩
  go_wp2
  (try simp only [Exit.inBlock,Exit.then])
  have hr:=Hmk.out
  subst hr
  have hTl:=Hkl.out
  subst hTl
  exact bodyPost_ret (bRS rfl (b:=w.heap.size) (x:=.bool neg) (y:=.slice a T.length c) rfl (by (repeat first|rw [if_pos (by omega)]|rw [if_neg (by omega)]|rw [hDR]|rw [hDN]|rw [hAz]|rw [hSz]|rw [hAC]|rw [hSC]|rw [oMS]|rw [uPC]|rw [lSZ]|rw [lSS]|rfl)) rfl) rfl ⟨_,_,⟨(show T.length≤c by omega),fun g hg=>Hlo.out g (own_len a _ _ c c▸hg)⟩,rfl,Hr.out.fr (by (repeat first|exact Fr.refl _ _|assumption|apply Fr.n|apply Fr.d|apply Fr.a|refine Fr.s ?_ (.inr (by simp;try omega)) _)),by (repeat first|exact Fr.refl _ _|assumption|apply Fr.n|apply Fr.d|apply Fr.a|refine Fr.s ?_ (.inr (by simp;try omega)) _)⟩
 ·rw [if_neg hk0,if_neg hk64] at hmk
  have Hmk:=Lib.hid hmk
  clear hmk
  have hd:decide ((64:Int)<k)=true:=by simp;omega
  have Hk:=Lib.hid (And.intro hk0 hk64)
  clear hk0 hk64
  go_enter Tryz.func94,Tryz.ntmps94
  go_wp2_with fail
  refine (HT.out _ (by (repeat first|exact Fr.refl _ _|assumption|apply Fr.n|apply Fr.d|apply Fr.a|refine Fr.s ?_ (.inr (by simp;try omega)) _))).mono ?_
  rintro e w1 ⟨rfl,rfl⟩
  go_wp2
  (try simp only [Exit.inBlock,Exit.then])
  have hr:=Hmk.out
  subst hr
  exact bodyPost_ret (bRS rfl (b:=w.heap.size) (x:=.bool false) (y:=.slice none 0 0) rfl (by (repeat first|rw [if_pos (by omega)]|rw [if_neg (by omega)]|rw [hDR]|rw [hDN]|rw [hAz]|rw [hSz]|rw [hAC]|rw [hSC]|rw [oMS]|rw [uPC]|rw [lSZ]|rw [lSS]|rfl)) rfl) rfl ⟨_,_,⟨Nat.le_refl _,fun g hg=>(by cases hg)⟩,rfl,reads_nil _,by (repeat first|exact Fr.refl _ _|assumption|apply Fr.n|apply Fr.d|apply Fr.a|refine Fr.s ?_ (.inr (by simp;try omega)) _)⟩
end Go.Proofs.YtdanghnadbkhfaaGreat
end
section
namespace Go.Proofs.YtdanghnadbkhfaaGreat
open Go Go.RowKit Rg Hp Bn
theorem size_calls {w:World} {n:Int} (h1:-9223372036854775808≤n) (h2:n<9223372036854775808) :
  Calls Tryz.prog 93 #[.int .i64 n] w fun e w'=>e=.returned (.int .u64 (n.natAbs:Nat))∧w=w':=by
 by_cases h:n<0
 ·have hd:decide (n<0)=true:=by simpa using h
  go_enter Tryz.func93,Tryz.ntmps93
  go_wp2
  go_ret
  exact⟨ret_u64 (by show IntKind.u64.wrap (-IntKind.u64.wrap n)=_;rw [wrap_u64,wrap_u64];omega),rfl⟩
 ·have hd:decide (n<0)=false:=by simpa using h
  go_enter Tryz.func93,Tryz.ntmps93
  go_wp2
  go_ret
  exact⟨ret_u64 (by show n=_;omega),rfl⟩
theorem Sub32_calls {w:World} {x y b:Nat} (hx:x<4294967296) (hy:y<4294967296) (hb:b≤1) :
  Calls Tryz.prog 122 #[.int .u32 x,.int .u32 y,.int .u32 b] w fun e w'=>e=.returned (.tuple #[.int .u32 ((x+4294967296 - y - b) % 4294967296:Nat),.int .u32 (bor x y b:Nat)])∧w=w':=by
 have hbit:=sub32_bit hx hy hb
 obtain⟨d,hdd⟩:∃ d,d=(x+4294967296 - y - b) % 4294967296:=⟨_,rfl⟩
 have hd:((x:Int) - y - b) % 4294967296=(d:Nat):=by omega
 have hdl:d<4294967296:=by omega
 rw [← hdd] at hbit ⊢
 have e1:bits BinOp.xor IntKind.u32 IntKind.u32.max (x:Int)=((4294967295 ^^^ x:Nat):Int):=u32_xor_nat 4294967295 x (by omega) hx
 have e2:bits BinOp.xor IntKind.u32 (x:Int) (y:Int)=((x ^^^ y:Nat):Int):=u32_xor_nat x y hx hy
 have hn1:4294967295 ^^^ x<4294967296:=Nat.xor_lt_two_pow (n:=32) (by omega) hx
 have hxy:x ^^^ y<4294967296:=Nat.xor_lt_two_pow (n:=32) hx hy
 have hn2:4294967295 ^^^ (x ^^^ y)<4294967296:=Nat.xor_lt_two_pow (n:=32) (by omega) hxy
 have e3:bits BinOp.xor IntKind.u32 IntKind.u32.max ((x ^^^ y:Nat):Int)=((4294967295 ^^^ (x ^^^ y):Nat):Int):=u32_xor_nat 4294967295 (x ^^^ y) (by omega) hxy
 have ha1:(4294967295 ^^^ x) &&& y<4294967296:=Nat.lt_of_le_of_lt Nat.and_le_right hy
 have ha2:(4294967295 ^^^ (x ^^^ y)) &&& d<4294967296:=Nat.lt_of_le_of_lt Nat.and_le_right hdl
 have e4:bits BinOp.and IntKind.u32 ((4294967295 ^^^ x:Nat):Int) (y:Int)=(((4294967295 ^^^ x) &&& y:Nat):Int):=u32_and_nat _ _ hn1 hy
 have e5:bits BinOp.and IntKind.u32 ((4294967295 ^^^ (x ^^^ y):Nat):Int) (d:Int)=(((4294967295 ^^^ (x ^^^ y)) &&& d:Nat):Int):=u32_and_nat _ _ hn2 hdl
 have e6:bits BinOp.or IntKind.u32 (((4294967295 ^^^ x) &&& y:Nat):Int) (((4294967295 ^^^ (x ^^^ y)) &&& d:Nat):Int)=((((4294967295 ^^^ x) &&& y) ||| ((4294967295 ^^^ (x ^^^ y)) &&& d):Nat):Int):=u32_or_nat _ _ ha1 ha2
 have hres:bits BinOp.or IntKind.u32 (bits BinOp.and IntKind.u32 (bits BinOp.xor IntKind.u32 IntKind.u32.max (x:Int)) y) (bits BinOp.and IntKind.u32 (bits BinOp.xor IntKind.u32 IntKind.u32.max (bits BinOp.xor IntKind.u32 (x:Int) y)) (((x:Int) - y - b) % 4294967296)) / 2147483648=(bor x y b:Nat):=by
  rw [hd,e1,e2,e3,e4,e5,e6];omega
 have Hres:=Lib.hid hres
 have Hd:=Lib.hid hd
 generalize bor x y b=bb at *
 clear hbit hdd hd hdl e1 e2 hn1 hxy hn2 e3 ha1 ha2 e4 e5 e6 hres
 go_enter Tryz.func122,Tryz.ntmps122
 go_wp2
 go_ret2
 exact⟨by rw [← Hres.out,← Hd.out];rfl,rfl⟩
theorem carry_calls {w:World} {c x y:Nat} {b:Nat} (hc:c<4294967296) (hx:x<4294967296) (hy:y<4294967296) (hb:w.heap[b]?=some (.cells #[.int .u32 x,.int .u32 y] 106 (0,0))) :
  Calls Tryz.prog 120 #[.int .u64 c,.slice (some ⟨b,0,none⟩) 2 2] w fun e w'=>e=.returned (.tuple #[.int .u32 ((c+x+y) % 4294967296:Nat),.int .u64 ((c+x+y) / 4294967296:Nat)])∧w=w':=by
 have b0:=hEC hb 0
 have b1:=hEC hb 1
 have hl:=lBk hb
 have e1:((((c+x+y) % 4294967296:Nat)):Int)=((c:Int)+x+y) % 4294967296:=by omega
 have e2:((((c+x+y) / 4294967296:Nat)):Int)=((c:Int)+x+y) / 4294967296:=by omega
 have E:=Lib.hid (And.intro e1 e2)
 clear hb e1 e2
 go_enter Tryz.func120,Tryz.ntmps120
 go_wp2
 refine wp_loop_rounds 3 ?_
 iterate 3 (rw [rounds_succ];go_wp2)
 go_ret2
 exact⟨by rw [E.out.1,E.out.2];rfl,rfl⟩
set_option maxHeartbeats 2000000 in
set_option maxRecDepth 100000 in
theorem against_calls {w:World} {da db:List Nat} {va vb:Value} (ha:Reads w va da.length 1 (u32s da)) (hb:Reads w vb db.length 1 (u32s db)) (hDa:Dig 4294967296 da) (hDb:Dig 4294967296 db) (ca:Canon da) (cb:Canon db) (hla:da.length≤1000000) (hlb:db.length≤1000000) :
  Calls Tryz.prog 92 #[va,vb] w fun e w'=>e=.returned (.int .i64 (cmpN (val 4294967296 da) (val 4294967296 db)))∧Drew w w':=by
 obtain⟨_,a,ac,rfl,haa⟩:=ha
 obtain⟨_,b,bc,rfl,hbb⟩:=hb
 have Ha:=Lib.hid haa
 have Hb:=Lib.hid hbb
 clear haa hbb
 obtain⟨r,hr0⟩:∃ r,cmpN (val 4294967296 da) (val 4294967296 db)=r:=⟨_,rfl⟩
 rw [hr0]
 have Hr0:=Lib.hid hr0
 clear hr0
 by_cases hne:da.length=db.length
 rotate_left
 ·have hd:((da.length:Int) != (db.length:Int))=true:=by simp;omega
  by_cases hlt:da.length<db.length
  ·have hd2:decide (da.length<db.length)=true:=by simpa using hlt
   have hr:=val_lt_len (by omega) hDa hDb cb hlt
   have hc:cmpN (val 4294967296 da) (val 4294967296 db)=-1:=by unfold cmpN;rw [if_pos hr]
   have Hc:=Lib.hid hc
   clear hc hr hDa hDb ca cb hne hlt
   go_enter Tryz.func92,Tryz.ntmps92
   go_wp2
   go_ret
   exact⟨by rw [← Hr0.out,Hc.out];rfl,Drew.refl _⟩
  ·have hd2:decide (da.length<db.length)=false:=by simpa using hlt
   have hr:=val_lt_len (by omega) hDb hDa ca (by omega)
   have hc:cmpN (val 4294967296 da) (val 4294967296 db)=1:=by unfold cmpN;rw [if_neg (by omega),if_pos hr]
   have Hc:=Lib.hid hc
   clear hc hr hDa hDb ca cb hne hlt
   go_enter Tryz.func92,Tryz.ntmps92
   go_wp2
   go_ret
   exact⟨by rw [← Hr0.out,Hc.out];rfl,Drew.refl _⟩
 ·have hd:((da.length:Int) != (db.length:Int))=false:=by simp;omega
  have HDa:=Lib.hid hDa
  have HDb:=Lib.hid hDb
  have Hne:=Lib.hid hne
  clear hDa hDb ca cb hne
  go_enter Tryz.func92,Tryz.ntmps92
  go_wp2
  go_loopw [5] (fun x wr=>∃ (k:Nat) (z:Int),x=.int .i64 z∧z=(k:Int) - 1∧k≤da.length∧da.drop k=db.drop k∧Drew w wr) (fun x _=>(intOf x+1).toNat)
  case atStart=>exact⟨da.length,_,rfl,rfl,Nat.le_refl _,by rw [List.drop_length,Hne.out,List.drop_length],Drew.refl _⟩
  case round =>
   obtain⟨k,z,rfl,hz,hk,hdr,m,rfl⟩:=hrel
   have Hdr:=Lib.hid hdr
   clear hdr
   cases k with
   | zero =>
    have hz':z=-1:=by omega
    subst hz'
    clear hz
    have heq:=Hdr.out
    rw [List.drop_zero,List.drop_zero] at heq
    have hc:cmpN (val 4294967296 da) (val 4294967296 db)=0:=by rw [heq];unfold cmpN;rw [if_neg (by omega),if_neg (by omega)]
    have Hc:=Lib.hid hc
    clear hc heq
    go_wp2
    go_ret
    exact⟨by rw [← Hr0.out,Hc.out];rfl,m,rfl⟩
   | succ k =>
    obtain rfl:z=(k:Int):=by omega
    clear hz
    have hkb:k<db.length:=by have:=Hne.out;omega
    obtain⟨g1,off1,rfl,hg1,hc1⟩:=Ha.out (by omega)
    obtain⟨g2,off2,rfl,hg2,hc2⟩:=Hb.out (by omega)
    have e1:=hc1 k _ (u32s_get (by omega))
    have e2:=hc2 k _ (u32s_get hkb)
    have hxl:=HDa.out.getD (by omega) k
    have hyl:=HDb.out.getD (by omega) k
    have htop:=fun h=>val_lt_top (B:=4294967296) (by omega) HDa.out HDb.out (i:=k) (by omega) Hne.out Hdr.out h
    have htop2:=fun h=>val_lt_top (B:=4294967296) (by omega) HDb.out HDa.out (i:=k) (by omega) Hne.out.symm Hdr.out.symm h
    have hde:=drop_eq_succ (i:=k) (by omega) Hne.out Hdr.out
    have Htop:=Lib.hid htop
    have Htop2:=Lib.hid htop2
    have Hde:=Lib.hid hde
    clear hc1 hc2 htop htop2 hde hxl hyl
    generalize da.getD k 0=x at *
    generalize db.getD k 0=y at *
    rcases Nat.lt_trichotomy x y with hxy|hxy|hxy
    ·have hd1:decide (x<y)=true:=by simpa using hxy
     have hc:cmpN (val 4294967296 da) (val 4294967296 db)=-1:=by unfold cmpN;rw [if_pos (Htop.out hxy)]
     have Hc:=Lib.hid hc
     clear hc hxy
     go_wp2
     (refine wRT (by kernel_rfl) (by kernel_rfl) ?_)
     go_wp2
     refine Strict.intro rfl ?_
     go_wp2
     go_ret
     exact⟨by rw [← Hr0.out,Hc.out];rfl,m+1,rfl⟩
    ·subst hxy
     go_wp2
     (refine wRT (by kernel_rfl) (by kernel_rfl) ?_)
     go_wp2
     refine Strict.intro rfl ?_
     go_wp2
     (refine wRT (by kernel_rfl) (by kernel_rfl) ?_)
     go_wp2
     refine Strict.intro rfl ?_
     go_wp2
     go_roundw
     case rel=>exact⟨k,_,rfl,rfl,by omega,Hde.out (by first|rfl|trivial),m+1+1,rfl⟩
     case measure=>first|(simp [intOf];done)|(simp [intOf];omega)
    ·have hd1:decide (x<y)=false:=by simp;omega
     have hd2:decide (y<x)=true:=by simpa using hxy
     have hc:cmpN (val 4294967296 da) (val 4294967296 db)=1:=by unfold cmpN;rw [if_neg (by have:=Htop2.out hxy;omega),if_pos (Htop2.out hxy)]
     have Hc:=Lib.hid hc
     clear hc hxy
     go_wp2
     (refine wRT (by kernel_rfl) (by kernel_rfl) ?_)
     go_wp2
     refine Strict.intro rfl ?_
     go_wp2
     (refine wRT (by kernel_rfl) (by kernel_rfl) ?_)
     go_wp2
     refine Strict.intro rfl ?_
     go_wp2
     go_ret
     exact⟨by rw [← Hr0.out,Hc.out];rfl,m+1+1,rfl⟩
theorem info_u32:(Tryz.prog.info? 106).map (fun i=>(i.zero,i.size,i.bytes))=some (some (.int .u32 0),1,4):=by kernel_rfl
end Go.Proofs.YtdanghnadbkhfaaGreat
end
section
namespace Go.Proofs.YtdanghnadbkhfaaGreat
open Go Go.RowKit Rg Hp Bn
def FreshPost (w:World) (V n:Nat) (e:Ending) (w':World):Prop :=
 ∃ a c ds,e=.returned (.slice a ds.length c)∧w'.ownsRow w.heap.size 106 1 (.slice a ds.length c) ds.length (u32s ds)∧Dig 4294967296 ds∧val 4294967296 ds=V∧ds.length≤n∧ds.length≤c∧Fr [] w w'
set_option maxHeartbeats 4000000 in
set_option maxRecDepth 100000 in
theorem plus_calls {w:World} {da db:List Nat} {va vb:Value} (ha:Reads w va da.length 1 (u32s da)) (hb:Reads w vb db.length 1 (u32s db)) (hDa:Dig 4294967296 da) (hDb:Dig 4294967296 db) (hla:da.length≤100000) (hlb:db.length≤100000) :
  Calls Tryz.prog 108 #[va,vb] w (FreshPost w (val 4294967296 da+val 4294967296 db) (max da.length db.length+1)):=by
 have hda:=fun w1 (hf:Fr [] w w1) i=>digit_calls (ha.fr hf) (by omega) i
 have hdb:=fun w1 (hf:Fr [] w w1) i=>digit_calls (hb.fr hf) (by omega) i
 have Hda:=Lib.hid hda
 have Hdb:=Lib.hid hdb
 obtain⟨_,a,ac,rfl,_⟩:=ha
 obtain⟨_,b,bc,rfl,_⟩:=hb
 have HDa:=Lib.hid hDa
 have HDb:=Lib.hid hDb
 clear hda hdb hDa hDb
 have Hna:=Lib.hid (show ((da.length:Int)+1)=((da.length+1:Nat):Int) by omega)
 have Hnb:=Lib.hid (show ((db.length:Int)+1)=((db.length+1:Nat):Int) by omega)
 by_cases hlt:da.length<db.length
 ·go_enter Tryz.func108,Tryz.ntmps108
  go_wp2_with (refine wpList_make1 rfl (t:=25) (e:=106) (n:=db.length+1) (z:=.int .u32 0) (bytes:=4) rfl (congrArg (Value.int .i64) Hnb.out) (congrArg (Value.int .i64) Hnb.out) Tryz.underlying25 info_u32 rfl (by omega) (by unfold maxLen;omega) ?_)
  intro w1 ho1 hf1 hsz1
  obtain⟨n,hn⟩:∃ n:Nat,db.length+1=n:=⟨_,rfl⟩
  have hni:((db.length:Int)+1)=n:=by omega
  rw [hn] at ho1
  rw [hn,hni]
  have hn1:da.length+1≤n:=by omega
  have hn2:db.length+1≤n:=by omega
  have hn3:n≤max da.length db.length+1:=by omega
  have hn4:n≤100001:=by omega
  have HN3:=Lib.hid hn3
  have Ho1:=Lib.hid ho1
  have Hf1:=Lib.hid hf1
  clear ho1 hf1 hn hni hlt hn3
  go_wp2_with fail
  go_loopw [7,18] (fun xc xk wl=>∃ (k c:Nat) (l:List Nat),xc=.int .u64 c∧xk=.int .i64 k∧k≤n∧c<4294967296∧l.length=n∧Dig 4294967296 l∧val 4294967296 (l.take k)+4294967296 ^ k*c=val 4294967296 (da.take k)+val 4294967296 (db.take k) ∧
    wl.ownsRow w.heap.size 106 1 (.slice (some ⟨w.heap.size,0,none⟩) n n) n (u32s l)∧Fr [] w wl) (fun _ xk _=>n - (intOf xk).toNat)
  case atStart=>exact⟨0,0,List.replicate n 0,rfl,rfl,by omega,by omega,List.length_replicate,Dig.replicate (by omega) n,by simp [val],by rw [u32s_zero];exact Ho1.out,Hf1.out⟩
  case round =>
   obtain⟨k,c,l,rfl,rfl,hk,hc,hl,hD,hv,ho,hf⟩:=hrel
   have hol:=oLT ho rfl
   have Ho:=Lib.hid ho
   have Hf:=Lib.hid hf
   have HD:=Lib.hid hD
   have Hv:=Lib.hid hv
   have Hl:=Lib.hid hl
   by_cases hkn:k<n
   ·have hcz:=owns_cell ho rfl (u32s_get (l:=l) (i:=k) (by omega))
    have hz:=owns_frozen ho rfl k
    have hxl:=HDa.out.getD (by omega:0<4294967296) k
    have hyl:=HDb.out.getD (by omega:0<4294967296) k
    have hst:=sum_step (B:=4294967296) (s:=c+da.getD k 0+db.getD k 0) (by omega) hv rfl
    rw [← val_take_succ,← val_take_succ,← Nat.pow_succ] at hst
    have hda:=fun w2 (hf2:Fr [] w w2)=>Hda.out w2 hf2 k
    have hdb:=fun w2 (hf2:Fr [] w w2)=>Hdb.out w2 hf2 k
    have hca:=fun (w2:World) (b:Nat) (hb:w2.heap[b]?=some (.cells #[.int .u32 (da.getD k 0:Nat),.int .u32 (db.getD k 0:Nat)] 106 (0,0)))=>carry_calls (c:=c) hc hxl hyl hb
    have hset:=fun d=>owns_set ho rfl (j:=k) (by rw [u32s_length];omega) (.int .u32 d)
    have Hset:=Lib.hid hset
    have Hst:=Lib.hid hst
    have HA:=Lib.hid hda
    have HB:=Lib.hid hdb
    have HC:=Lib.hid hca
    clear ho hf hD hv hl hst hda hdb hca hset
    generalize da.getD k 0=x at *
    generalize db.getD k 0=y at *
    generalize l.getD k 0=z at *
    go_wp2_with fail
    refine (HA.out _ Hf.out).mono ?_
    rintro e w2 ⟨rfl,rfl⟩
    go_wp2_with fail
    refine (HB.out _ Hf.out).mono ?_
    rintro e w2 ⟨rfl,rfl⟩
    go_wp2_with fail
    refine (HC.out _ _ (by (repeat first|rw [if_pos (by omega)]|rw [if_neg (by omega)]|rw [hDR]|rw [hDN]|rw [hAz]|rw [hSz]|rw [hAC]|rw [hSC]|rw [oMS]|rw [uPC]|rw [lSZ]|rw [lSS]|rfl))).mono ?_
    rintro e w2 ⟨rfl,rfl⟩
    have hdl:(c+x+y) % 4294967296<4294967296:=Nat.mod_lt _ (by omega)
    have hcl:(c+x+y) / 4294967296<4294967296:=by omega
    generalize (c+x+y) % 4294967296=d at *
    generalize (c+x+y) / 4294967296=c2 at *
    clear hxl hyl
    go_wp2
    go_roundw
    case rel =>
     refine⟨k+1,c2,l.set k d,rfl,by go_num,by omega,hcl,by rw [List.length_set];exact Hl.out,HD.out.set hdl,?_,?_,?_⟩
     ·rw [val_set_take (by have:=Hl.out;omega)];exact Hst.out
     ·rw [u32s_set]
      refine oOB (Hset.out d) fun z hz=>?_
      have hzz:w.heap.size=z:=by simpa [Value.ownBlock] using hz
      subst hzz
      exact hAE _ _ _ (by rw [hSz];exact hol)
     ·exact (Hf.out.setCell (.inr (by simp)) _).alloc _
    case measure=>simp [intOf];omega
   ·obtain rfl:k=n:=by omega
    have hv':=Hv.out
    rw [List.take_of_length_le (by have:=Hl.out;omega),List.take_of_length_le (by omega),List.take_of_length_le (by omega)] at hv'
    have hc0:=plus_end (by omega) hv' (val_lt HDa.out) (val_lt HDb.out) hn1 hn2
    subst hc0
    have Hv2:=Lib.hid hv'
    clear ho hf hD hv hl hv'
    go_wp2
    go_ret
    have hl:=Hl.out
    subst hl
    exact⟨_,_,l,rfl,Ho.out,HD.out,by have h:=Hv2.out;first|exact h|(rw [Nat.mul_zero,Nat.add_zero] at h;exact h),HN3.out,Nat.le_refl _,Hf.out⟩
 ·go_enter Tryz.func108,Tryz.ntmps108
  go_wp2_with (refine wpList_make1 rfl (t:=25) (e:=106) (n:=da.length+1) (z:=.int .u32 0) (bytes:=4) rfl (congrArg (Value.int .i64) Hna.out) (congrArg (Value.int .i64) Hna.out) Tryz.underlying25 info_u32 rfl (by omega) (by unfold maxLen;omega) ?_)
  intro w1 ho1 hf1 hsz1
  obtain⟨n,hn⟩:∃ n:Nat,da.length+1=n:=⟨_,rfl⟩
  have hni:((da.length:Int)+1)=n:=by omega
  rw [hn] at ho1
  rw [hn,hni]
  have hn1:da.length+1≤n:=by omega
  have hn2:db.length+1≤n:=by omega
  have hn3:n≤max da.length db.length+1:=by omega
  have hn4:n≤100001:=by omega
  have HN3:=Lib.hid hn3
  have Ho1:=Lib.hid ho1
  have Hf1:=Lib.hid hf1
  clear ho1 hf1 hn hni hlt hn3
  go_wp2_with fail
  go_loopw [7,18] (fun xc xk wl=>∃ (k c:Nat) (l:List Nat),xc=.int .u64 c∧xk=.int .i64 k∧k≤n∧c<4294967296∧l.length=n∧Dig 4294967296 l∧val 4294967296 (l.take k)+4294967296 ^ k*c=val 4294967296 (da.take k)+val 4294967296 (db.take k) ∧
    wl.ownsRow w.heap.size 106 1 (.slice (some ⟨w.heap.size,0,none⟩) n n) n (u32s l)∧Fr [] w wl) (fun _ xk _=>n - (intOf xk).toNat)
  case atStart=>exact⟨0,0,List.replicate n 0,rfl,rfl,by omega,by omega,List.length_replicate,Dig.replicate (by omega) n,by simp [val],by rw [u32s_zero];exact Ho1.out,Hf1.out⟩
  case round =>
   obtain⟨k,c,l,rfl,rfl,hk,hc,hl,hD,hv,ho,hf⟩:=hrel
   have hol:=oLT ho rfl
   have Ho:=Lib.hid ho
   have Hf:=Lib.hid hf
   have HD:=Lib.hid hD
   have Hv:=Lib.hid hv
   have Hl:=Lib.hid hl
   by_cases hkn:k<n
   ·have hcz:=owns_cell ho rfl (u32s_get (l:=l) (i:=k) (by omega))
    have hz:=owns_frozen ho rfl k
    have hxl:=HDa.out.getD (by omega:0<4294967296) k
    have hyl:=HDb.out.getD (by omega:0<4294967296) k
    have hst:=sum_step (B:=4294967296) (s:=c+da.getD k 0+db.getD k 0) (by omega) hv rfl
    rw [← val_take_succ,← val_take_succ,← Nat.pow_succ] at hst
    have hda:=fun w2 (hf2:Fr [] w w2)=>Hda.out w2 hf2 k
    have hdb:=fun w2 (hf2:Fr [] w w2)=>Hdb.out w2 hf2 k
    have hca:=fun (w2:World) (b:Nat) (hb:w2.heap[b]?=some (.cells #[.int .u32 (da.getD k 0:Nat),.int .u32 (db.getD k 0:Nat)] 106 (0,0)))=>carry_calls (c:=c) hc hxl hyl hb
    have hset:=fun d=>owns_set ho rfl (j:=k) (by rw [u32s_length];omega) (.int .u32 d)
    have Hset:=Lib.hid hset
    have Hst:=Lib.hid hst
    have HA:=Lib.hid hda
    have HB:=Lib.hid hdb
    have HC:=Lib.hid hca
    clear ho hf hD hv hl hst hda hdb hca hset
    generalize da.getD k 0=x at *
    generalize db.getD k 0=y at *
    generalize l.getD k 0=z at *
    go_wp2_with fail
    refine (HA.out _ Hf.out).mono ?_
    rintro e w2 ⟨rfl,rfl⟩
    go_wp2_with fail
    refine (HB.out _ Hf.out).mono ?_
    rintro e w2 ⟨rfl,rfl⟩
    go_wp2_with fail
    refine (HC.out _ _ (by (repeat first|rw [if_pos (by omega)]|rw [if_neg (by omega)]|rw [hDR]|rw [hDN]|rw [hAz]|rw [hSz]|rw [hAC]|rw [hSC]|rw [oMS]|rw [uPC]|rw [lSZ]|rw [lSS]|rfl))).mono ?_
    rintro e w2 ⟨rfl,rfl⟩
    have hdl:(c+x+y) % 4294967296<4294967296:=Nat.mod_lt _ (by omega)
    have hcl:(c+x+y) / 4294967296<4294967296:=by omega
    generalize (c+x+y) % 4294967296=d at *
    generalize (c+x+y) / 4294967296=c2 at *
    clear hxl hyl
    go_wp2
    go_roundw
    case rel =>
     refine⟨k+1,c2,l.set k d,rfl,by go_num,by omega,hcl,by rw [List.length_set];exact Hl.out,HD.out.set hdl,?_,?_,?_⟩
     ·rw [val_set_take (by have:=Hl.out;omega)];exact Hst.out
     ·rw [u32s_set]
      refine oOB (Hset.out d) fun z hz=>?_
      have hzz:w.heap.size=z:=by simpa [Value.ownBlock] using hz
      subst hzz
      exact hAE _ _ _ (by rw [hSz];exact hol)
     ·exact (Hf.out.setCell (.inr (by simp)) _).alloc _
    case measure=>simp [intOf];omega
   ·obtain rfl:k=n:=by omega
    have hv':=Hv.out
    rw [List.take_of_length_le (by have:=Hl.out;omega),List.take_of_length_le (by omega),List.take_of_length_le (by omega)] at hv'
    have hc0:=plus_end (by omega) hv' (val_lt HDa.out) (val_lt HDb.out) hn1 hn2
    subst hc0
    have Hv2:=Lib.hid hv'
    clear ho hf hD hv hl hv'
    go_wp2
    go_ret
    have hl:=Hl.out
    subst hl
    exact⟨_,_,l,rfl,Ho.out,HD.out,by have h:=Hv2.out;first|exact h|(rw [Nat.mul_zero,Nat.add_zero] at h;exact h),HN3.out,Nat.le_refl _,Hf.out⟩
set_option maxHeartbeats 4000000 in
set_option maxRecDepth 100000 in
theorem minus_calls {w:World} {da db:List Nat} {va vb:Value} (ha:Reads w va da.length 1 (u32s da)) (hb:Reads w vb db.length 1 (u32s db)) (hDa:Dig 4294967296 da) (hDb:Dig 4294967296 db) (hla:da.length≤100000) (hlb:db.length≤da.length) (hle:val 4294967296 db≤val 4294967296 da) :
  Calls Tryz.prog 111 #[va,vb] w (FreshPost w (val 4294967296 da - val 4294967296 db) da.length):=by
 have hdb:=fun w1 (hf:Fr [] w w1) i=>digit_calls (hb.fr hf) (by omega) i
 have Hdb:=Lib.hid hdb
 obtain⟨_,a,ac,rfl,haa⟩:=ha
 obtain⟨_,b,bc,rfl,_⟩:=hb
 have Haa:=Lib.hid haa
 have HDa:=Lib.hid hDa
 have HDb:=Lib.hid hDb
 have Hle:=Lib.hid hle
 obtain⟨n,hn⟩:∃ n,da.length=n:=⟨_,rfl⟩
 have Hn:=Lib.hid hn
 rw [hn] at Haa hla hlb ⊢
 clear hdb hDa hDb haa hle hn
 go_enter Tryz.func111,Tryz.ntmps111
 go_wp2_with (refine wpList_make1 rfl (t:=25) (e:=106) (n:=n) (z:=.int .u32 0) (bytes:=4) rfl rfl rfl Tryz.underlying25 info_u32 rfl (by omega) (by unfold maxLen;omega) ?_)
 intro w1 ho1 hf1 hsz1
 have Ho1:=Lib.hid ho1
 have Hf1:=Lib.hid hf1
 clear ho1 hf1
 go_wp2_with fail
 go_loopw [6,13] (fun xb xk wl=>∃ (k bo:Nat) (l:List Nat),xb=.int .u32 bo∧xk=.int .i64 k∧k≤n∧bo≤1∧l.length=n∧Dig 4294967296 l∧val 4294967296 (l.take k)+val 4294967296 (db.take k)=val 4294967296 (da.take k)+4294967296 ^ k*bo ∧
   wl.ownsRow w.heap.size 106 1 (.slice (some ⟨w.heap.size,0,none⟩) n n) n (u32s l)∧Fr [] w wl) (fun _ xk _=>n - (intOf xk).toNat)
 case atStart=>exact⟨0,0,List.replicate n 0,rfl,rfl,by omega,by omega,List.length_replicate,Dig.replicate (by omega) n,by simp [val],by rw [u32s_zero];exact Ho1.out,Hf1.out⟩
 case round =>
  obtain⟨k,bo,l,rfl,rfl,hk,hbo,hl,hD,hv,ho,hf⟩:=hrel
  have hol:=oLT ho rfl
  have Ho:=Lib.hid ho
  have Hf:=Lib.hid hf
  have HD:=Lib.hid hD
  have Hv:=Lib.hid hv
  have Hl:=Lib.hid hl
  by_cases hkn:k<n
  ·obtain⟨g,off,rfl,hg,hc⟩:=Haa.out (by omega)
   have e1:=(hf.cell (p:=⟨g,off+k,none⟩) hg (by simp)).trans (hc k _ (u32s_get (by have:=Hn.out;omega)))
   have hgr:g<wr.heap.size:=by have:=hf.size;omega
   have hcz:=owns_cell ho rfl (u32s_get (l:=l) (i:=k) (by omega))
   have hz:=owns_frozen ho rfl k
   have hxl:=HDa.out.getD (by omega:0<4294967296) k
   have hyl:=HDb.out.getD (by omega:0<4294967296) k
   have hst:=diff_step (B:=4294967296) (P:=4294967296 ^ k) hv (sub_digit hxl hyl hbo)
   rw [← val_take_succ,← val_take_succ,← Nat.pow_succ] at hst
   have hdb:=fun w2 (hf2:Fr [] w w2)=>Hdb.out w2 hf2 k
   have hsu:=fun (w2:World)=>Sub32_calls (w:=w2) hxl hyl hbo
   have hset:=fun d=>owns_set ho rfl (j:=k) (by rw [u32s_length];omega) (.int .u32 d)
   have hdl:(da.getD k 0+4294967296 - db.getD k 0 - bo) % 4294967296<4294967296:=Nat.mod_lt _ (by omega)
   have hbl:=bor_le (da.getD k 0) (db.getD k 0) bo
   have Hset:=Lib.hid hset
   have Hst:=Lib.hid hst
   have HB:=Lib.hid hdb
   have HC:=Lib.hid hsu
   have Hdl:=Lib.hid hdl
   have Hbl:=Lib.hid hbl
   clear ho hf hD hv hl hst hdb hsu hset hxl hyl hc hdl hbl
   generalize (da.getD k 0+4294967296 - db.getD k 0 - bo) % 4294967296=d at *
   generalize bor (da.getD k 0) (db.getD k 0) bo=b2 at *
   generalize da.getD k 0=x at *
   generalize db.getD k 0=y at *
   generalize l.getD k 0=z at *
   go_wp2
   refine wRS [([0,1,2,3,4,5,6,7,8],[5]),([9,10,11,12,13,14,15,16],[])] (by kernel_rfl) (by kernel_rfl) ?_
   (simp only [wpSegs,pick,Array.getD_eq_getD_getElem?,List.getElem?_toArray,List.getElem?_cons_succ,List.getElem?_cons_zero,Option.getD_some])
   go_wp2_with fail
   refine (HB.out _ (by have:=Hf.out;(repeat first|exact Fr.refl _ _|assumption|apply Fr.n|apply Fr.d|apply Fr.a|refine Fr.s ?_ (.inr (by simp;try omega)) _))).mono ?_
   rintro e w2 ⟨rfl,rfl⟩
   go_wp2
   refine Mid.intro ⟨⟨again_cell (T:=106) rfl rfl rfl Tryz.underlying106 rfl e1 rfl,trivial⟩,?_⟩
   go_wp2_with fail
   refine (HC.out _).mono ?_
   rintro e w2 ⟨rfl,rfl⟩
   go_wp2
   refine Mid.intro ⟨trivial,Strict.intro rfl ?_⟩
   go_wp2
   go_roundw
   case rel =>
    refine⟨k+1,b2,l.set k d,rfl,by go_num,by omega,Hbl.out,by rw [List.length_set];exact Hl.out,HD.out.set Hdl.out,?_,?_,?_⟩
    ·rw [val_set_take (by have:=Hl.out;omega)];exact Hst.out
    ·rw [u32s_set]
     exact Hset.out d
    ·exact (Hf.out.setCell (.inr (by simp)) _).drew
   case measure=>simp [intOf];omega
  ·obtain rfl:k=n:=by omega
   have hv':=Hv.out
   rw [List.take_of_length_le (by have:=Hl.out;omega),List.take_of_length_le (by omega),List.take_of_length_le (by have:=Hn.out;omega)] at hv'
   have hvl:=val_lt hD
   rw [hl] at hvl
   obtain⟨hb0,hv2⟩:=minus_end hv' hvl Hle.out
   subst hb0
   have Hv2:=Lib.hid hv2
   clear ho hf hD hv hl hv' hvl hv2
   go_wp2
   go_ret
   have hl:=Hl.out
   subst hl
   exact⟨_,_,l,rfl,Ho.out,HD.out,Hv2.out,Nat.le_refl _,Nat.le_refl _,Hf.out⟩
end Go.Proofs.YtdanghnadbkhfaaGreat
end
