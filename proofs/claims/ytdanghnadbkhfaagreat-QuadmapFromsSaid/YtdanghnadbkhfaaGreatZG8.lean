/- Own texts of this claim, part 9: no condition. -/
import Derived.Deep.RegionHeld3
import Derived.Deep.DeepCutAuto
import Derived.Test.YtdanghnadbkhfaaGreatRows
import Derived.Test.YtdanghnadbkhfaaGreatZG4
import Derived.Test.YtdanghnadbkhfaaGreatZG6
import Derived.Test.YtdanghnadbkhfaaGreatZG7
import Derived.Test.YtdanghnadbkhfaaGreatZG5
import Derived.Test.YtdanghnadbkhfaaGreatZG2
import Derived.Test.YtdanghnadbkhfaaGreatZG3
set_option linter.unusedVariables false
set_option linter.unusedSimpArgs false
section
namespace Go.Proofs.YtdanghnadbkhfaaGreat
open Go Go.RowKit Rg Hp Bn
def RBigCall (w:World) (z:Int) (e:Ending) (w':World):Prop:=∃ v,e=.returned (.tuple #[v,.int .i64 0])∧BigZ w' (w.heap.size≤·) v z∧Fr [] w w'
def RBigCall1 (w:World) (z:Int) (e:Ending) (w':World):Prop:=∃ v,e=.returned v∧BigZ w' (w.heap.size≤·) v z∧Fr [] w w'
section
variable {w:World} {A B:Nat→Prop} {va vb:Value} {x y:Int}
theorem RAdd_z (ha:BigZ w A va x) (hb:BigZ w B vb y) (hx:Zok x) (hy:Zok y) (hs:Zok (x+y)):Calls Tryz.prog 89 #[va,vb] w (RBigCall w (x+y)):=by
 obtain⟨a,c,rfl,_,_,h3⟩:=ha
 obtain⟨a',c',rfl,_,_,k3⟩:=hb
 refine (RAdd_calls h3 k3 (zd_dig x) (zd_dig y) (by have:=zd_len hx;omega) (by have:=zd_len hy;omega)).mono ?_
 rw [addS_z hx hy hs]
 rintro e w' ⟨a,c,⟨h1,h2⟩,rfl,h3,hf⟩
 exact⟨_,rfl,⟨a,c,rfl,h1,h2,h3⟩,hf⟩
theorem RCompare_z (ha:BigZ w A va x) (hb:BigZ w B vb y) (hx:Zok x) (hy:Zok y):Calls Tryz.prog 37 #[va,vb] w fun e w'=>e=.returned (.int .i64 (cmpI x y))∧Fr [] w w':=by
 obtain⟨a,c,rfl,_,_,h3⟩:=ha
 obtain⟨a',c',rfl,_,_,k3⟩:=hb
 have:=RCompare_calls (na:=decide (x<0)) (nb:=decide (y<0)) h3 k3 (zd_dig x) (zd_dig y) (by have:=zd_len hx;omega) (by have:=zd_len hy;omega)
 rwa [cmpS_z hx hy] at this
theorem RFrom_z (h1:-9223372036854775808≤x) (h2:x<9223372036854775808):Calls Tryz.prog 35 #[.int .i64 x] w (RBigCall1 w x):=by
 refine (RFrom_calls h1 h2).mono ?_
 rw [fromS_z (zok_int h1 h2)]
 rintro e w' ⟨a,c,⟨h1,h2⟩,rfl,h3,hf⟩
 exact⟨_,rfl,⟨a,c,rfl,h1,h2,h3⟩,hf⟩
theorem RShift_z {n:Nat} (ha:BigZ w A va 1) (hn:n≤2047):Calls Tryz.prog 91 #[va,.int .i64 n] w (RBigCall w ((2 ^ n:Nat):Int)):=by
 obtain⟨a,c,rfl,h0,_,h3⟩:=ha
 refine (RShift_calls (neg:=decide ((1:Int)<0)) h3 (zd_dig 1) (by have:=zd_len (z:=1) (zok_int (by omega) (by omega));omega) (by omega) (by omega)).mono ?_
 rw [show decide ((1:Int)<0)=false from rfl,shift_one hn]
 rintro e w' ⟨a,c,⟨h1,h2⟩,rfl,h3,hf⟩
 refine⟨_,rfl,⟨a,c,?_,h1,h2,h3⟩,hf⟩
 rw [decide_eq_false (Int.not_lt.2 (Int.natCast_nonneg _))]
end
end Go.Proofs.YtdanghnadbkhfaaGreat
end
section
namespace Go.Proofs.YtdanghnadbkhfaaGreat
open Go Go.RowKit Rg Hp Bn
set_option maxHeartbeats 8000000 in
set_option maxRecDepth 100000 in
theorem RInt_calls {w:World} {neg:Bool} {ds:List Nat} {v:Value} (hv:Reads w v ds.length 1 (u32s ds)) (hD:Dig 4294967296 ds) (hl:ds.length≤10000) :
  Calls Tryz.prog 58 #[.agg #[.bool neg,v]] w fun e w'=>e=.returned (.tuple #[.int .i64 (intS neg ds).1,.bool (intS neg ds).2])∧Fr [] w w':=by
 have hra:=fun w1 (hf:Fr [] w w1)=>RRight_calls (neg:=neg) (hv.fr hf) (by omega)
 have hby:=fun w1 (hf:Fr [] w w1)=>bytes_calls (neg:=neg) (hv.fr hf) hD (by omega)
 obtain⟨_,a,c,rfl,hav⟩:=hv
 obtain⟨r,hS⟩:∃ r,r=intS neg ds:=⟨_,rfl⟩
 rw [← hS]
 unfold intS at hS
 obtain⟨n,hn⟩:∃ n,ds.length=n:=⟨_,rfl⟩
 have Hn:=Lib.hid hn
 clear hav
 cases hR1:RightB neg ds with
 | false =>
  rw [hR1] at hS hra
  simp only [true_or,if_true] at hS
  rw [hn] at hra ⊢
  have Hra:=Lib.hid hra
  have Hr:=Lib.hid hS
  clear hra hR1 hby hn hl hS
  go_enter Tryz.func58,Tryz.ntmps58
  go_wp2_with fail
  refine (Hra.out _ (by (repeat first|exact Fr.refl _ _|assumption|apply Fr.n|apply Fr.d|apply Fr.a|refine Fr.s ?_ (.inr (by simp;try omega)) _))).mono ?_
  rintro e w1 ⟨rfl,hf⟩
  have ha_:=(hf.block (w.heap.size) (by first|(simp;done)|(simp;omega)) (by simp)).trans (show _=some (.cells #[.bool neg,.slice a n c] 27 (0,0)) by (repeat first|rw [if_pos (by omega)]|rw [if_neg (by omega)]|rw [hDR]|rw [hDN]|rw [hAz]|rw [hSz]|rw [hAC]|rw [hSC]|rw [oMS]|rw [uPC]|rw [lSZ]|rw [lSS]|rfl))
  have a0:=hEC ha_ 0
  have a1:=hEC ha_ 1
  have al:=lBk ha_
  have Ha:=Lib.hid ha_
  clear ha_
  have Hf:=Lib.hid (Fr.trans0 (by (repeat first|exact Fr.refl _ _|assumption|apply Fr.n|apply Fr.d|apply Fr.a|refine Fr.s ?_ (.inr (by simp;try omega)) _):Fr [] w _) hf)
  clear hf
  go_wp2
  go_ret2
  exact⟨by rw [Hr.out];rfl,Hf.out⟩
 | true =>
  obtain⟨cA,lA,nA⟩:=right_canon hR1
  rw [hR1] at hS hra
  simp only [Bool.true_eq_false,false_or] at hS
  by_cases h2:2<ds.length
  ·rw [if_pos h2] at hS
   have hd:decide ((2:Int)<n)=true:=by rw [decide_eq_true_eq];omega
   rw [hn] at hra ⊢
   have Hra:=Lib.hid hra
   have Hr:=Lib.hid hS
   clear hra hR1 hby hn hl hS h2 nA
   go_enter Tryz.func58,Tryz.ntmps58
   go_wp2_with fail
   refine (Hra.out _ (by (repeat first|exact Fr.refl _ _|assumption|apply Fr.n|apply Fr.d|apply Fr.a|refine Fr.s ?_ (.inr (by simp;try omega)) _))).mono ?_
   rintro e w1 ⟨rfl,hf⟩
   have ha_:=(hf.block (w.heap.size) (by first|(simp;done)|(simp;omega)) (by simp)).trans (show _=some (.cells #[.bool neg,.slice a n c] 27 (0,0)) by (repeat first|rw [if_pos (by omega)]|rw [if_neg (by omega)]|rw [hDR]|rw [hDN]|rw [hAz]|rw [hSz]|rw [hAC]|rw [hSC]|rw [oMS]|rw [uPC]|rw [lSZ]|rw [lSS]|rfl))
   have a0:=hEC ha_ 0
   have a1:=hEC ha_ 1
   have al:=lBk ha_
   have Ha:=Lib.hid ha_
   clear ha_
   have Hf:=Lib.hid (Fr.trans0 (by (repeat first|exact Fr.refl _ _|assumption|apply Fr.n|apply Fr.d|apply Fr.a|refine Fr.s ?_ (.inr (by simp;try omega)) _):Fr [] w _) hf)
   clear hf
   go_wp2
   go_ret2
   exact⟨by rw [Hr.out];rfl,Hf.out⟩
  ·rw [if_neg h2] at hS
   have hd:decide ((2:Int)<n)=false:=by rw [decide_eq_false_iff_not];omega
   obtain⟨V,hV⟩:∃ V,val 4294967296 ds=V:=⟨_,rfl⟩
   have hVb:V<18446744073709551616:=by
    rw [← hV]
    exact Nat.lt_of_lt_of_le (val_lt hD) (Nat.pow_le_pow_right (show 0<4294967296 by omega) (show ds.length≤2 by omega))
   have hVp:neg=true→1≤V:=fun h=>by
    have hne:ds≠[]:=fun e=>by have:=nA e;rw [this] at h;cases h
    have:=canon_pos (B:=4294967296) (by omega) cA hne
    omega
   obtain⟨X,hX⟩:∃ X,dg 256 V=X:=⟨_,rfl⟩
   have hXV:val 256 X=V:=by rw [← hX];exact val_dg (by omega) V
   have hXD:Dig 256 X:=by rw [← hX];exact dg_dig (by omega) V
   have hXl:X.length≤8:=by rw [← hX,dg_length_le (by omega)];omega
   rw [hV] at hS hby
   rw [hX] at hby
   rw [hn] at hra hby ⊢
   have Hra:=Lib.hid hra
   have Hby:=Lib.hid hby
   have HXV:=Lib.hid hXV
   have HXD:=Lib.hid hXD
   have HS:=Lib.hid hS
   have HVp:=Lib.hid hVp
   have HVb:=Lib.hid hVb
   obtain⟨m,hm⟩:∃ m,X.length=m:=⟨_,rfl⟩
   have Hm:=Lib.hid hm
   rw [hm] at hXl
   clear hra hR1 hby hn hl hS h2 nA hV hX hXV hXD hVp hVb cA lA hm
   go_enter Tryz.func58,Tryz.ntmps58
   go_wp2_with fail
   refine (Hra.out _ (by (repeat first|exact Fr.refl _ _|assumption|apply Fr.n|apply Fr.d|apply Fr.a|refine Fr.s ?_ (.inr (by simp;try omega)) _))).mono ?_
   rintro e w1 ⟨rfl,hf⟩
   have ha_:=(hf.block (w.heap.size) (by first|(simp;done)|(simp;omega)) (by simp)).trans (show _=some (.cells #[.bool neg,.slice a n c] 27 (0,0)) by (repeat first|rw [if_pos (by omega)]|rw [if_neg (by omega)]|rw [hDR]|rw [hDN]|rw [hAz]|rw [hSz]|rw [hAC]|rw [hSC]|rw [oMS]|rw [uPC]|rw [lSZ]|rw [lSS]|rfl))
   have a0:=hEC ha_ 0
   have a1:=hEC ha_ 1
   have al:=lBk ha_
   have Ha:=Lib.hid ha_
   clear ha_
   have Hf:=Lib.hid (Fr.trans0 (by (repeat first|exact Fr.refl _ _|assumption|apply Fr.n|apply Fr.d|apply Fr.a|refine Fr.s ?_ (.inr (by simp;try omega)) _):Fr [] w _) hf)
   clear hf
   go_wp2_with fail
   refine (Hby.out _ Hf.out).mono ?_
   rintro e w2 ⟨xa,xc,hlo,rfl,hr,hf⟩
   rw [Hm.out] at hr ⊢
   (try clear a0)
   (try clear a1)
   (try clear al)
   have ha_:=(hf.block _ (lBk Ha.out) (by simp)).trans Ha.out
   clear Ha
   have a0:=hEC ha_ 0
   have a1:=hEC ha_ 1
   have al:=lBk ha_
   have Ha:=Lib.hid ha_
   clear ha_
   have Hf:=Lib.hid (Hf.out.trans0 hf)
   obtain⟨_,xa2,xc2,he,hxa⟩:=hr
   cases he
   have Hxa:=Lib.hid hxa
   clear hf hlo hxa
   go_wp2_with fail
   go_loopw [4,6] (fun x4 x6 wl=>∃ (u k:Nat) (z:Int),x4=.int .u64 u∧x6=.int .i64 z∧z=(k:Int) - 1∧k≤m∧u=val 256 (X.drop k)∧wl=w2) (fun _ x6 _=>(intOf x6+1).toNat)
   case atStart=>exact⟨0,m,_,rfl,rfl,rfl,by omega,by rw [List.drop_of_length_le (by have:=Hm.out;omega)];rfl,rfl⟩
   case round =>
    obtain⟨u,k,z,rfl,rfl,hz,hk,hu,rfl⟩:=hrel
    have Hu:=Lib.hid hu
    clear hu
    cases k with
    | zero =>
     obtain rfl:z=-1:=by omega
     have hu:=Hu.out
     rw [List.drop_zero,HXV.out] at hu
     subst hu
     clear hz
     have hS:=HS.out
     cases neg
     ·simp only [Bool.false_eq_true,if_false] at hS
      by_cases h:u<9223372036854775808
      ·rw [if_pos h] at hS
       have Hr:=Lib.hid hS
       have hdu:decide ((9223372036854775807:Int)<u)=false:=by rw [decide_eq_false_iff_not];omega
       have Eu:wrap64 (u:Int)=u:=by simp only [wrap64];omega
       clear hS h HS
       go_wp2
       go_ret2
       exact⟨by rw [Hr.out];first|rfl|(show Ending.returned (.tuple #[.int .i64 (wrap64 (u:Int)),.bool true])=_;rw [Eu]),Hf.out⟩
      ·rw [if_neg h] at hS
       have Hr:=Lib.hid hS
       have hdu:decide ((9223372036854775807:Int)<u)=true:=by rw [decide_eq_true_eq];omega
       clear hS h HS
       go_wp2
       go_ret2
       exact⟨by rw [Hr.out];rfl,Hf.out⟩
     ·simp only [if_true] at hS
      by_cases h:u≤9223372036854775808
      ·rw [if_pos h] at hS
       have Hr:=Lib.hid hS
       have Hh:=Lib.hid h
       have hdu:decide ((9223372036854775808:Int)<u)=false:=by rw [decide_eq_false_iff_not];omega
       clear hS h HS
       go_wp2
       go_ret2
       exact⟨by rw [Hr.out];exact rint_neg (HVp.out (by first|rfl|trivial)) Hh.out,Hf.out⟩
      ·rw [if_neg h] at hS
       have Hr:=Lib.hid hS
       have hdu:decide ((9223372036854775808:Int)<u)=true:=by rw [decide_eq_true_eq];omega
       clear hS h HS
       go_wp2
       go_ret2
       exact⟨by rw [Hr.out];rfl,Hf.out⟩
    | succ k =>
     obtain rfl:z=(k:Int):=by omega
     obtain⟨g,off,rfl,hg,hc⟩:=Hxa.out (by omega)
     have e1:=hc k _ (i64s_get (by have:=Hm.out;omega))
     have hx:X.getD k 0<256:=HXD.out.getD (by omega) k
     have hq:=val_drop 256 X k
     rw [← Hu.out] at hq
     have hub:X.getD k 0+256*u<18446744073709551616:=by
      rw [← hq]
      have h1:=val_lt (HXD.out.drop k)
      have h2:256 ^ (X.drop k).length≤256 ^ 8:=Nat.pow_le_pow_right (by omega) (by rw [List.length_drop];have:=Hm.out;omega)
      omega
     have Hq:=Lib.hid hq
     clear hz hc hq
     generalize X.getD k 0=x at *
     have Ex:IntKind.u64.wrap (x:Int)=x:=IntWalk.u64_in _ (by omega)
     go_wp2
     go_roundw
     case rel=>exact⟨x+256*u,k,(k:Int) - 1,by go_num,by go_num,rfl,by omega,Hq.out.symm,trivial⟩
     case measure=>simp [intOf]
end Go.Proofs.YtdanghnadbkhfaaGreat
end
section
namespace Go.Proofs.YtdanghnadbkhfaaGreat
open Go Go.RowKit Rg Hp Bn
set_option maxHeartbeats 4000000 in
set_option maxRecDepth 100000 in
theorem RNeg_calls {w:World} {na:Bool} {da:List Nat} {va:Value} (ha:Reads w va da.length 1 (u32s da)) (hDa:Dig 4294967296 da) (hla:da.length≤10000) :
  Calls Tryz.prog 104 #[.agg #[.bool na,va]] w (BigPost1 w (w.heap.size≤·) (negS na da)):=by
 have hra:=fun w1 (hf:Fr [] w w1)=>RRight_calls (neg:=na) (ha.fr hf) (by omega)
 have hcl:=fun w1 (hf:Fr [] w w1)=>bytes_calls (neg:=na) (ha.fr hf) hDa (by omega)
 obtain⟨_,a,ac,rfl,_⟩:=ha
 obtain⟨V,hV⟩:∃ V,val 4294967296 da=V:=⟨_,rfl⟩
 obtain⟨X,hX⟩:∃ X,dg 256 V=X:=⟨_,rfl⟩
 have hXV:val 256 X=V:=by rw [← hX];exact val_dg (by omega) V
 have hXD:Dig 256 X:=by rw [← hX];exact dg_dig (by omega) V
 have hXl:X.length≤40000:=by
  have h:=dg_len256 (k:=10000) hla (val_lt hDa)
  rw [hV,hX] at h
  omega
 rw [hV,hX] at hcl
 have Hcl:=Lib.hid hcl
 obtain⟨r,hS⟩:∃ r,r=negS na da:=⟨_,rfl⟩
 rw [← hS]
 unfold negS at hS
 rw [hV] at hS
 clear hDa hcl hV hX
 cases hR1:RightB na da with
 | false =>
  rw [hR1] at hra hS
  rw [if_pos rfl] at hS
  subst hS
  have Hra:=Lib.hid hra
  clear hR1 hra
  go_enter Tryz.func104,Tryz.ntmps104
  go_wp2_with fail
  refine (Hra.out _ (by (repeat first|exact Fr.refl _ _|assumption|apply Fr.n|apply Fr.d|apply Fr.a|refine Fr.s ?_ (.inr (by simp;try omega)) _))).mono ?_
  rintro e w1 ⟨rfl,hf⟩
  have hc_:=(hf.block (w.heap.size+1) (by first|(simp;done)|(simp;omega)) (by simp)).trans (show _=some (.cells #[.bool false,.slice none 0 0] 27 (0,0)) by (repeat first|rw [if_pos (by omega)]|rw [if_neg (by omega)]|rw [hDR]|rw [hDN]|rw [hAz]|rw [hSz]|rw [hAC]|rw [hSC]|rw [oMS]|rw [uPC]|rw [lSZ]|rw [lSS]|rfl))
  have c0:=hEC hc_ 0
  have c0z:=hEF hc_ 0
  have c1:=hEC hc_ 1
  have c1z:=hEF hc_ 1
  have cl:=lBk hc_
  have Hc:=Lib.hid hc_
  clear hc_
  have Hf:=Lib.hid (Fr.trans0 (by (repeat first|exact Fr.refl _ _|assumption|apply Fr.n|apply Fr.d|apply Fr.a|refine Fr.s ?_ (.inr (by simp;try omega)) _):Fr [] w _) hf)
  clear hf
  go_wp2
  (try simp only [Exit.inBlock,Exit.then])
  refine bodyPost_ret (big_result1 rfl (b:=w.heap.size+1) (x:=.bool false) (y:=.slice none 0 0) rfl ?_) rfl ⟨_,_,⟨Nat.le_refl _,fun g hg=>(by cases hg)⟩,rfl,reads_nil _,?_⟩
  ·have h:=Hc.out
   (repeat first|rw [if_pos (by omega)]|rw [if_neg (by omega)]|rw [hDR]|rw [hDN]|rw [hAz]|rw [hSz]|rw [hAC]|rw [hSC]|rw [oMS]|rw [uPC]|rw [lSZ]|rw [lSS]|rfl)
   rw [h]
   (repeat first|rw [if_pos (by omega)]|rw [if_neg (by omega)]|rw [hDR]|rw [hDN]|rw [hAz]|rw [hSz]|rw [hAC]|rw [hSC]|rw [oMS]|rw [uPC]|rw [lSZ]|rw [lSS]|rfl)
  ·exact (Hf.out.setCell (.inr (by simp;try omega)) _).setCell (.inr (by simp;try omega)) _
 | true =>
  rw [hR1] at hra hS
  rw [if_neg (by decide)] at hS
  rw [← hXV] at hS
  have Hmd:=Lib.hid (fun (w1:World) (a:Option Addr) (c:Nat) (hv:Reads w1 (.slice a X.length c) X.length 1 (i64s X)) (hc:X.length≤c)=>hS▸big_calls (neg:=!na) hv hXD (by omega) hc)
  have Hra:=Lib.hid hra
  clear hR1 hra hS hXV hXD
  go_enter Tryz.func104,Tryz.ntmps104
  go_wp2_with fail
  refine (Hra.out _ (by (repeat first|exact Fr.refl _ _|assumption|apply Fr.n|apply Fr.d|apply Fr.a|refine Fr.s ?_ (.inr (by simp;try omega)) _))).mono ?_
  rintro e w1 ⟨rfl,hf⟩
  have ha1:=(hf.block w.heap.size (by simp;omega) (by simp)).trans (show _=some (.cells #[.bool na,.slice a da.length ac] 27 (0,0)) by (repeat first|rw [if_pos (by omega)]|rw [if_neg (by omega)]|rw [hDR]|rw [hDN]|rw [hAz]|rw [hSz]|rw [hAC]|rw [hSC]|rw [oMS]|rw [uPC]|rw [lSZ]|rw [lSS]|rfl))
  have a0:=hEC ha1 0
  have a1:=hEC ha1 1
  have al:=lBk ha1
  have Ha1:=Lib.hid ha1
  have Hc1:=Lib.hid ((hf.block (w.heap.size+1) (by simp) (by simp)).trans (show _=some (.cells #[.bool false,.slice none 0 0] 27 (0,0)) by (repeat first|rw [if_pos (by omega)]|rw [if_neg (by omega)]|rw [hDR]|rw [hDN]|rw [hAz]|rw [hSz]|rw [hAC]|rw [hSC]|rw [oMS]|rw [uPC]|rw [lSZ]|rw [lSS]|rfl)))
  have Hf1:=Lib.hid (Fr.trans0 (by (repeat first|exact Fr.refl _ _|assumption|apply Fr.n|apply Fr.d|apply Fr.a|refine Fr.s ?_ (.inr (by simp;try omega)) _):Fr [] w _) hf)
  clear hf ha1
  go_wp2
  have n10:=World.new_ne w1 _ a0
  have n11:=World.new_ne w1 _ a1
  go_region_held3 (fun w'=>w'.cell? ⟨w.heap.size,0,none⟩=some (.bool na)∧w'.cell? ⟨w.heap.size,1,none⟩=some (.slice a da.length ac)) (first|go_keep|exact⟨k20,k21⟩|exact⟨k30,k31⟩)
   (first|(go_at_call 82;refine (Hcl.out _ ?_).mono ?_;(· refine Hf1.out.trans0 ?_;(repeat first|exact Fr.refl _ _|assumption|apply Fr.n|apply Fr.d|apply Fr.a|refine Fr.s ?_ (.inl (by simp)) _));rintro e w2 ⟨pa,pc,ho,rfl,hr2,hf0⟩;have h12:Fr [] w1 w2:=Fr.trans0 (by (repeat first|exact Fr.refl _ _|assumption|apply Fr.n|apply Fr.d|apply Fr.a|refine Fr.s ?_ (.inl (by simp)) _)) hf0;have k20:=(h12.cell (p:=⟨w.heap.size,0,none⟩) al (by simp)).trans a0;have k21:=(h12.cell (p:=⟨w.heap.size,1,none⟩) al (by simp)).trans a1;have n20:=World.new_ne w2 _ k20;have n21:=World.new_ne w2 _ k21;obtain⟨c2,z2⟩:=frcell hf0;(try (have s2:w1.heap.size<w2.heap.size:=by have h:=hf0.size;simp at h;omega)))|(go_at_call 80;refine (Hmd.out _ _ _ (hr2.fr ?_) ho.1).mono ?_;(· (repeat first|exact Fr.refl _ _|assumption|apply Fr.n|apply Fr.d|apply Fr.a|refine Fr.s ?_ (.inl (by simp)) _));rintro e w3 ⟨ra,rc,hlo,rfl,hr,hf⟩;have h13:Fr [] w1 w3:=Fr.trans0 (Fr.trans0 h12 (by (repeat first|exact Fr.refl _ _|assumption|apply Fr.n|apply Fr.d|apply Fr.a|refine Fr.s ?_ (.inl (by simp)) _):Fr [] w2 _)) hf;have k30:=(h13.cell (p:=⟨w.heap.size,0,none⟩) al (by simp)).trans a0;have k31:=(h13.cell (p:=⟨w.heap.size,1,none⟩) al (by simp)).trans a1;have n30:=World.new_ne w3 _ k30;have n31:=World.new_ne w3 _ k31;obtain⟨c3,z3⟩:=frcell hf;(try (have s3:w2.heap.size<w3.heap.size:=by have h:=hf.size;simp at h;omega));(try (have s4:w1.heap.size<w3.heap.size:=by have h:=hf.size;simp at h;omega))))
  all_goals
   have hgo:=hlo.2
   have Hlo1:=Lib.hid hlo.1
   have hc4:=(h13.block _ (lBk Hc1.out) (by simp)).trans Hc1.out
   have cl0:w.heap.size+1<w1.heap.size:=lBk Hc1.out
   have hs12:=h12.size
   have hs13:=h13.size
   have hs23:=hf.size
   clear n10 n11 n20 n21 n30 n31 k20 k21 k30 k31 a0 a1
   have p0:=hEC Hc1.out 0
   have p1:=hEC Hc1.out 1
   have pz0:=hEF Hc1.out 0
   have pz1:=hEF Hc1.out 1
   have q0:=hEC hc4 0
   have q1:=hEC hc4 1
   have z0:=hEF hc4 0
   have z1:=hEF hc4 1
   have cl:=lBk hc4
   have Hc:=Lib.hid hc4
   have Hgo:=Lib.hid hgo
   have Hr:=Lib.hid hr
   have Hf:=Lib.hid (Hf1.out.trans0 h13)
   clear hlo hr hf h12 h13 hf0 hc4 hgo ho hr2
   obtain⟨r1,r2,r3⟩:=r
   go_wp2
   (try simp only [Exit.inBlock,Exit.then])
   refine bodyPost_ret (big_result1 rfl (b:=w.heap.size+1) (x:=.bool r1) (y:=.slice ra r2.length rc) rfl ?_) rfl ⟨_,_,⟨Hlo1.out,fun g hg=>(by have h:=Hgo.out g hg;(try simp at h);omega)⟩,rfl,?_,?_⟩
   ·have h:=Hc.out
    (repeat first|rw [if_pos (by omega)]|rw [if_neg (by omega)]|rw [hDR]|rw [hDN]|rw [hAz]|rw [hSz]|rw [hAC]|rw [hSC]|rw [oMS]|rw [uPC]|rw [lSZ]|rw [lSS]|rfl)
    first|exact h|(rw [h];(repeat first|rw [if_pos (by omega)]|rw [if_neg (by omega)]|rw [hDR]|rw [hDN]|rw [hAz]|rw [hSz]|rw [hAC]|rw [hSC]|rw [oMS]|rw [uPC]|rw [lSZ]|rw [lSS]|rfl))
   ·refine Hr.out.keep fun x hx hl=>?_
    have h1:=Hgo.out x hx
    (try simp at h1);(try simp at hs23)
    repeat (first|rw [sCE _ _ _ (by simp;omega)]|rw [hAE _ _ _ (by simp;omega)])
   ·repeat (first|exact Hf.out|refine Fr.alloc ?_ _|refine Fr.setCell ?_ (.inr (by first|(simp;done)|(simp;omega))) _)
end Go.Proofs.YtdanghnadbkhfaaGreat
end
section
namespace Go.Proofs.YtdanghnadbkhfaaGreat
open Go Go.RowKit Rg Hp Bn
end Go.Proofs.YtdanghnadbkhfaaGreat
end
section
namespace Go.Proofs.YtdanghnadbkhfaaGreat
open Go Go.RowKit Rg Hp Bn
section
variable {w:World} {A B:Nat→Prop} {va vb:Value} {x y:Int}
theorem RNeg_z (ha:BigZ w A va x) (hx:Zok x):Calls Tryz.prog 104 #[va] w (RBigCall1 w (-x)):=by
 obtain⟨a,c,rfl,h0,_,h3⟩:=ha
 refine (RNeg_calls h3 (zd_dig x) (by have:=zd_len hx;omega)).mono ?_
 rw [negS_z hx]
 rintro e w' ⟨a,c,⟨h1,h2⟩,rfl,h3,hf⟩
 exact⟨_,rfl,⟨a,c,rfl,h1,h2,h3⟩,hf⟩
theorem RInt_z (ha:BigZ w A va x) (hx:Zok x):Calls Tryz.prog 58 #[va] w fun e w'=>e=.returned (.tuple #[.int .i64 (if -9223372036854775808≤x∧x<9223372036854775808 then (x,true) else (0,false)).1,.bool (if -9223372036854775808≤x∧x<9223372036854775808 then (x,true) else ((0:Int),false)).2])∧Fr [] w w':=by
 obtain⟨a,c,rfl,h0,_,h3⟩:=ha
 have:=RInt_calls (neg:=decide (x<0)) h3 (zd_dig x) (by have:=zd_len hx;omega)
 rwa [intS_z hx] at this
end
end Go.Proofs.YtdanghnadbkhfaaGreat
end
section
namespace Go.Proofs.Mp
open Go
section
variable {P:Program} {T E:TypeId} {q:IntKind} {n:Nat}
def ints (q:IntKind) (xs:List Int):Array Value:=(xs.map (Value.int q)).toArray
theorem run_underlying' {t:TypeId} {d:TypeDesc} (h:P.underlying t=some d) (w:World):(Go.underlying t).run P w=.ok d w:=by unfold Go.underlying;simp [h]
theorem run_sizeOf' {t:TypeId} {s:Nat} (h:(P.info? t).map (·.size)=some s) (w:World):(Go.sizeOf t).run P w=.ok s w:=by
 unfold Go.sizeOf Go.typeInfo
 cases hi:P.info? t with
 | none=>rw [hi] at h;cases h
 | some i=>rw [hi] at h;simp at h;simp [hi,h]
theorem run_part_int (hE:P.underlying E=some (.int q)) {cs:Array Value} {off:Nat} {v:Value} (hv:cs[off]?=some v) (w:World):(Go.part E cs off).run P w=.ok v w:=by
 unfold Go.part Go.isAgg
 rw [Sem.run_bind,Sem.run_bind,run_underlying' hE]
 simp [hv]
theorem ints_get {xs:List Int} {i:Nat} (h:i<xs.length):(ints q xs)[i]?=some (.int q (xs[i])):=by simp [ints,h]
theorem run_equal_int (hE:P.underlying E=some (.int q)) (d:Nat) (x y:Int) (w:World):(Op.equalIn (d+1) E (.int q x) (.int q y)).run P w=.ok (x == y) w:=by
 unfold Op.equalIn
 rw [Sem.run_bind,run_underlying' hE]
 simp
theorem eq_loop (hE:P.underlying E=some (.int q)) (hs:(P.info? E).map (·.size)=some 1) (d:Nat) (xs ys:List Int) (hl:xs.length=ys.length):∀ (m i:Nat) (w:World),i+m=xs.length →
  (forIn (List.range' i m) ((none:Option Bool),()) (fun i s=>do
   let a ← Go.part E (ints q xs) (i*1)
   let b ← Go.part E (ints q ys) (i*1)
   let r ← Op.equalIn (d+1) E a b
   if (!r)=true then pure (ForInStep.done (some false,())) else pure (ForInStep.yield (none,())):Nat→Option Bool×Unit→Sem (ForInStep (Option Bool×Unit)))).run P w =
   .ok (if xs.drop i=ys.drop i then none else some false,()) w
 | 0,i,w,h=>by
  rw [List.drop_of_length_le (by omega),List.drop_of_length_le (by omega)]
  rfl
 | m+1,i,w,h=>by
  rw [List.range'_succ,List.forIn_cons,Sem.run_bind,Sem.run_bind,run_part_int hE (by rw [Nat.mul_one];exact ints_get (by omega))]
  simp only [Result.andThen_ok]
  rw [Sem.run_bind,run_part_int hE (by rw [Nat.mul_one];exact ints_get (by omega))]
  simp only [Result.andThen_ok]
  rw [Sem.run_bind,run_equal_int hE]
  simp only [Result.andThen_ok]
  have ex:xs.drop i=xs[i]::xs.drop (i+1):=List.drop_eq_getElem_cons (by omega)
  have ey:ys.drop i=ys[i]::ys.drop (i+1):=List.drop_eq_getElem_cons (by omega)
  rw [ex,ey]
  by_cases hxy:xs[i]=ys[i]
  ·simp only [hxy,beq_self_eq_true,Bool.not_true,Bool.false_eq_true,if_false,Sem.run_pure,Result.andThen_ok,List.cons.injEq,true_and]
   exact eq_loop hE hs d xs ys hl m (i+1) w (by omega)
  ·have hb:(xs[i] == ys[i])=false:=by simpa using hxy
   have hn:¬ (xs[i]::xs.drop (i+1)=ys[i]::ys.drop (i+1)):=fun e=>hxy (List.cons.inj e).1
   rw [if_neg hn]
   simp [hb]
theorem run_equalIn_ints (hT:P.underlying T=some (.array n E)) (hE:P.underlying E=some (.int q)) (hs:(P.info? E).map (·.size)=some 1) (d:Nat) (xs ys:List Int) (hx:xs.length=n) (hy:ys.length=n) (w:World) :
  (Op.equalIn (d+2) T (.agg (ints q xs)) (.agg (ints q ys))).run P w=.ok (decide (xs=ys)) w:=by
 show Sem.run P (Op.equalIn ((d+1)+1) _ _ _) w=_
 unfold Op.equalIn
 rw [Sem.run_bind,run_underlying' hT]
 simp only [Result.andThen_ok]
 rw [Sem.run_bind,run_sizeOf' hs]
 simp only [Result.andThen_ok]
 rw [Sem.run_bind,Std.Legacy.Range.forIn_eq_forIn_range']
 have hl:List.range' [:n].start [:n].size [:n].step=List.range' 0 n:=by simp [Std.Legacy.Range.size]
 rw [hl]
 have:=eq_loop hE hs d xs ys (by omega) n 0 w (by omega)
 rw [this]
 simp only [List.drop_zero,Result.andThen_ok]
 by_cases h:xs=ys<;>simp [h]
theorem check_loop (hE:P.underlying E=some (.int q)) (hs:(P.info? E).map (·.size)=some 1) (d:Nat) (e:Bool) (xs:List Int):∀ (m i:Nat) (w:World),i+m=xs.length →
  (forIn (List.range' i m) () (fun i s=>do
   let n ← Go.sizeOf E
   let a ← Go.part E (ints q xs) (i*n)
   Instr.checkKey e (d+1) E a
   pure (ForInStep.yield ()):Nat→Unit→Sem (ForInStep Unit))).run P w=.ok () w
 | 0,i,w,h=>rfl
 | m+1,i,w,h=>by
  have hc:∀ x:Int,(Instr.checkKey e (d+1) E (.int q x)).run P w=.ok () w:=by
   intro x
   unfold Instr.checkKey
   rw [Sem.run_bind,run_underlying' hE]
   simp
  rw [List.range'_succ,List.forIn_cons,Sem.run_bind,Sem.run_bind,run_sizeOf' hs]
  simp only [Result.andThen_ok]
  rw [Sem.run_bind,run_part_int hE (by rw [Nat.mul_one];exact ints_get (by omega))]
  simp only [Result.andThen_ok]
  rw [Sem.run_bind,hc]
  simp only [Result.andThen_ok,Sem.run_pure]
  exact check_loop hE hs d e xs m (i+1) w (by omega)
theorem run_checkKey_ints (hT:P.underlying T=some (.array n E)) (hE:P.underlying E=some (.int q)) (hs:(P.info? E).map (·.size)=some 1) (d:Nat) (e:Bool) (xs:List Int) (hx:xs.length=n) (w:World) :
  (Instr.checkKey e (d+2) T (.agg (ints q xs))).run P w=.ok () w:=by
 show Sem.run P (Instr.checkKey e ((d+1)+1) _ _) w=_
 unfold Instr.checkKey
 rw [Sem.run_bind,run_underlying' hT]
 simp only [Result.andThen_ok]
 rw [Std.Legacy.Range.forIn_eq_forIn_range']
 have hl:List.range' [:n].start [:n].size [:n].step=List.range' 0 n:=by simp [Std.Legacy.Range.size]
 rw [hl]
 rw [Sem.run_bind,check_loop hE hs d e xs n 0 w (by omega)]
 rfl
theorem sameBits_int (d:Nat) (x:Int):Instr.sameBits d (.int q x) (.int q x)=true:=by cases d<;>simp [Instr.sameBits]
theorem zip_same:∀ (l:List Value),(∀ v∈l,∀ d,Instr.sameBits d v v=true)→∀ d,(l.zip l).all (fun p=>Instr.sameBits d p.1 p.2)=true
 | [],_,_=>rfl
 | v::l,h,d=>by
  simp only [List.zip_cons_cons,List.all_cons,Bool.and_eq_true]
  exact⟨h v (by simp) d,zip_same l (fun u hu=>h u (by simp [hu])) d⟩
theorem sameBits_ints (d:Nat) (xs:List Int):Instr.sameBits (d+1) (.agg (ints q xs)) (.agg (ints q xs))=true:=by
 unfold Instr.sameBits
 simp only [beq_self_eq_true,Bool.true_and,ints]
 exact zip_same _ (fun v hv d=>by obtain⟨x,_,rfl⟩:=List.mem_map.1 hv;exact sameBits_int d x) d
theorem KeysBy.ints {κ:Type} [DecidableEq κ] (f:κ→List Int) (hf:∀ a b,f a=f b→a=b) (hn:∀ a,(f a).length=n) (hT:P.underlying T=some (.array n E)) (hE:P.underlying E=some (.int q)) (hs:(P.info? E).map (·.size)=some 1) :
  KeysBy P T (fun k=>Value.agg (Mp.ints q (f k))):=by
 refine KeysBy.deep hT (fun k v=>rfl) (fun a b w=>?_) (fun e k w=>run_checkKey_ints hT hE hs 9998 e (f k) (hn k) w) fun k=>sameBits_ints 9999 (f k)
 have:=run_equalIn_ints hT hE hs 9998 (f a) (f b) (hn a) (hn b) w
 show (Op.equalIn 10000 T _ _).run P w=_
 rw [this]
 congr 1
 by_cases h:a=b
 ·simp [h]
 ·have:¬ f a=f b:=fun e=>h (hf a b e)
  simp [h,this]
end
end Go.Proofs.Mp
end
section
namespace Go.Proofs.Qs
structure K4 where
 a:Int
 b:Int
 c:Int
 d:Int
 deriving DecidableEq
def lvl (s:Int) (ls:List Int) (id:Int):Int:=if id<0 then -1 else if id<s then 0 else ls.getD (id - s).toNat (-1)
def levs (s:Int) (ns:List K4):List Int:=ns.foldl (fun ls k=>ls++[lvl s ls k.a+1]) []
theorem levs_snoc (s:Int) (ns:List K4) (k:K4):levs s (ns++[k])=levs s ns++[lvl s (levs s ns) k.a+1]:=by simp [levs]
theorem levs_length (s:Int) (ns:List K4):(levs s ns).length=ns.length:=by
 rcases List.eq_nil_or_concat ns with rfl|⟨l,x,rfl⟩
 ·rfl
 ·rw [List.concat_eq_append,levs_snoc]
  simp [levs_length s l]
termination_by ns.length
decreasing_by simp_all
theorem levs_take (s:Int) (ns:List K4):∀ i,(levs s ns).take i=levs s (ns.take i):=by
 intro i
 rcases List.eq_nil_or_concat ns with rfl|⟨l,x,rfl⟩
 ·simp [levs]
 ·rw [List.concat_eq_append,levs_snoc]
  rcases Nat.lt_or_ge l.length i with h|h
  ·rw [List.take_of_length_le (by simp [levs_length];omega),List.take_of_length_le (by simp;omega),levs_snoc]
  ·rw [List.take_append_of_le_length (by simp [levs_length];omega),List.take_append_of_le_length h,levs_take s l i]
termination_by ns.length
decreasing_by simp_all
def Fits (s:Int) (ns:List K4) (k:K4):Prop :=
 0≤lvl s (levs s ns) k.a∧lvl s (levs s ns) k.a<256∧lvl s (levs s ns) k.b=lvl s (levs s ns) k.a∧lvl s (levs s ns) k.c=lvl s (levs s ns) k.a∧lvl s (levs s ns) k.d=lvl s (levs s ns) k.a
instance (s:Int) (ns:List K4) (k:K4):Decidable (Fits s ns k):=by unfold Fits;exact inferInstance
def GoodQ (s:Int) (ns:List K4):Prop:=2≤s∧s≤8∧ns.length≤100000∧ns.Nodup∧∀ i k,ns[i]?=some k→Fits s (ns.take i) k
theorem GoodQ.nil {s:Int} (h:2≤s) (h':s≤8):GoodQ s []:=⟨h,h',by simp,by simp,by simp⟩
theorem GoodQ.snoc {s:Int} {ns:List K4} {k:K4} (h:GoodQ s ns) (hk:Fits s ns k) (hn:k∉ns) (hl:ns.length<100000):GoodQ s (ns++[k]):=by
 obtain⟨h1,h2,h3,h4,h5⟩:=h
 refine⟨h1,h2,by simp;omega,?_,?_⟩
 ·rw [List.nodup_append]
  refine⟨h4,by simp,?_⟩
  intro x hx y hy e
  simp at hy
  subst hy;subst e;exact hn hx
 ·intro i x hx
  rcases Nat.lt_or_ge i ns.length with hi|hi
  ·rw [List.getElem?_append_left hi] at hx
   rw [List.take_append_of_le_length (by omega)]
   exact h5 i x hx
  ·have hi':i=ns.length:=by
    have:=(List.getElem?_eq_some_iff.1 hx).1
    simp at this;omega
   subst hi'
   simp at hx
   subst hx
   simpa using hk
def joinIn (s:Int) (ns:List K4) (k:K4):(Int×Int)×List K4 :=
 match ns.idxOf? k with
  | some i=>((s+i,0),ns)
  | none=>if 100000≤ns.length then ((0,6),ns) else ((s+ns.length,0),ns++[k])
def join (s:Int) (ns:List K4) (k:K4):(Int×Int)×List K4 :=
 if lvl s (levs s ns) k.a<0∨lvl s (levs s ns) k.b<0∨lvl s (levs s ns) k.c<0∨lvl s (levs s ns) k.d<0 then ((0,13),ns)
 else if ¬ Fits s ns k then ((0,18),ns)
 else joinIn s ns k
theorem joinIn_hit {s:Int} {ns:List K4} {k:K4} {i:Nat} (h:ns.idxOf? k=some i):joinIn s ns k=((s+i,0),ns):=by unfold joinIn;rw [h]
theorem joinIn_full {s:Int} {ns:List K4} {k:K4} (h:ns.idxOf? k=none) (hl:100000≤ns.length):joinIn s ns k=((0,6),ns):=by unfold joinIn;rw [h];simp only [if_pos hl]
theorem joinIn_new {s:Int} {ns:List K4} {k:K4} (h:ns.idxOf? k=none) (hl:ns.length<100000):joinIn s ns k=((s+ns.length,0),ns++[k]):=by unfold joinIn;rw [h];simp only [if_neg (by omega:¬ 100000≤ns.length)]
def pairs (s:Int) (ns:List K4):List (K4×Int):=ns.zipIdx.map fun p=>(p.1,s+p.2)
theorem pairs_keys (s:Int) (ns:List K4):(pairs s ns).map (·.1)=ns:=by
 simp [pairs,List.map_map,Function.comp_def]
theorem pairs_snoc (s:Int) (ns:List K4) (k:K4):pairs s (ns++[k])=pairs s ns++[(k,s+ns.length)]:=by
 simp [pairs,List.zipIdx_append]
theorem pairs_get (s:Int) (ns:List K4) (i:Nat):(pairs s ns)[i]?=(ns[i]?).map fun k=>(k,s+i):=by
 simp [pairs,List.getElem?_zipIdx]
 cases ns[i]?<;>simp
end Go.Proofs.Qs
end
section
namespace Go.Proofs.YtdanghnadbkhfaaGreat
open Go Go.RowKit Mp Hp Qs
def kl (k:K4):List Int:=[k.a,k.b,k.c,k.d]
def kv (k:K4):Value:=.agg #[.int .i64 k.a,.int .i64 k.b,.int .i64 k.c,.int .i64 k.d]
theorem size_int:(Tryz.prog.info? 3).map (·.size)=some 1:=by kernel_rfl
theorem keys4:KeysBy Tryz.prog 81 kv :=
 KeysBy.ints (q:=.i64) kl (fun a b h=>by cases a;cases b;simpa [kl] using h) (fun _=>rfl) Tryz.underlying81 Tryz.underlying3 size_int
section
variable (w:World) (a b c d:Value)
theorem index4_0:(Instr.index 81 (.agg #[a,b,c,d]) (.int .i64 0)).run Tryz.prog w=.ok a w:=by kernel_rfl
theorem index4_1:(Instr.index 81 (.agg #[a,b,c,d]) (.int .i64 1)).run Tryz.prog w=.ok b w:=by kernel_rfl
theorem index4_2:(Instr.index 81 (.agg #[a,b,c,d]) (.int .i64 2)).run Tryz.prog w=.ok c w:=by kernel_rfl
theorem index4_3:(Instr.index 81 (.agg #[a,b,c,d]) (.int .i64 3)).run Tryz.prog w=.ok d w:=by kernel_rfl
end
theorem eq4 (w:World) (a b c d x y z u:Int):(Op.equalIn 10000 81 (.agg #[.int .i64 a,.int .i64 b,.int .i64 c,.int .i64 d]) (.agg #[.int .i64 x,.int .i64 y,.int .i64 z,.int .i64 u])).run Tryz.prog w =
  .ok (a == x && (b == y && (c == z && d == u))) w:=by
 refine (run_equalIn_ints (q:=.i64) Tryz.underlying81 Tryz.underlying3 size_int 9998 [a,b,c,d] [x,y,z,u] rfl rfl w).trans ?_
 congr 1
 rw [Bool.eq_iff_iff];simp
theorem eq4s (w:World) (a b c d x y z u:Int):(Op.equalIn 9999 81 (.agg #[.int .i64 a,.int .i64 b,.int .i64 c,.int .i64 d]) (.agg #[.int .i64 x,.int .i64 y,.int .i64 z,.int .i64 u])).run Tryz.prog w =
  .ok (a == x && (b == y && (c == z && d == u))) w:=by
 refine (run_equalIn_ints (q:=.i64) Tryz.underlying81 Tryz.underlying3 size_int 9997 [a,b,c,d] [x,y,z,u] rfl rfl w).trans ?_
 congr 1
 rw [Bool.eq_iff_iff];simp
attribute [go_sem] eq4 eq4s index4_0 index4_1 index4_2 index4_3
end Go.Proofs.YtdanghnadbkhfaaGreat
end
section
namespace Go.Proofs.YtdanghnadbkhfaaGreat
open Go Go.RowKit Rg Mp Hp Qs
def flat (ns:List K4):List Value:=ns.flatMap fun k=>[.int .i64 k.a,.int .i64 k.b,.int .i64 k.c,.int .i64 k.d]
structure StoreIn (w:World) (b:Nat) (s:Int) (ns:List K4) (nv lv:Value) (mb:Nat):Prop where
 blk:w.heap[b]?=some (.cells #[.int .i64 s,nv,lv,.map (some mb)] 137 (0,0))
 nodes:w.ownsRow 0 105 4 nv ns.length (flat ns)
 levels:w.ownsRow 0 3 1 lv ns.length ((levs s ns).map (Value.int .i64))
 known:MapIs w mb kv (Value.int .i64) (pairs s ns)
 ne1:b≠mb
 ne2:nv.ownBlock≠some b
 ne3:nv.ownBlock≠some mb
 ne4:lv.ownBlock≠some b
 ne5:lv.ownBlock≠some mb
 ne6:∀ g,nv.ownBlock=some g→lv.ownBlock≠some g
def foot (b:Nat) (nv lv:Value) (mb:Nat):List Nat:=b::mb::(nv.ownBlock.toList++lv.ownBlock.toList)
def StoreAt (w:World) (b:Nat) (s:Int) (ns:List K4) (F:List Nat):Prop:=GoodQ s ns∧∃ nv lv mb,StoreIn w b s ns nv lv mb∧F=foot b nv lv mb
theorem StoreIn.keep {w w':World} {b mb:Nat} {s:Int} {ns:List K4} {nv lv:Value} (h:StoreIn w b s ns nv lv mb) (hk:∀ x∈foot b nv lv mb,w'.heap[x]?=w.heap[x]?):StoreIn w' b s ns nv lv mb where
 blk:=(hk b (by simp [foot])).trans h.blk
 nodes:=oOB h.nodes fun g hg=>hk g (by simp [foot,hg])
 levels:=oOB h.levels fun g hg=>hk g (by simp [foot,hg])
 known:=h.known.of_block (hk mb (by simp [foot]))
 ne1:=h.ne1
 ne2:=h.ne2
 ne3:=h.ne3
 ne4:=h.ne4
 ne5:=h.ne5
 ne6:=h.ne6
theorem StoreIn.lt {w:World} {b mb:Nat} {s:Int} {ns:List K4} {nv lv:Value} (h:StoreIn w b s ns nv lv mb):∀ x∈foot b nv lv mb,x<w.heap.size:=by
 intro x hx
 simp only [foot,List.mem_cons,List.mem_append,Option.mem_toList] at hx
 rcases hx with rfl|rfl|hx|hx
 ·exact lBk h.blk
 ·exact h.known.lt
 ·exact oLT h.nodes hx
 ·exact oLT h.levels hx
theorem StoreAt.keep {w w':World} {b:Nat} {s:Int} {ns:List K4} {F:List Nat} (h:StoreAt w b s ns F) (hk:∀ x∈F,w'.heap[x]?=w.heap[x]?):StoreAt w' b s ns F:=by
 obtain⟨hg,nv,lv,mb,hS,rfl⟩:=h
 exact⟨hg,nv,lv,mb,hS.keep hk,rfl⟩
theorem StoreAt.lt {w:World} {b:Nat} {s:Int} {ns:List K4} {F:List Nat} (h:StoreAt w b s ns F):∀ x∈F,x<w.heap.size:=by
 obtain⟨hg,nv,lv,mb,hS,rfl⟩:=h
 exact hS.lt
theorem StoreAt.fr {w w':World} {b:Nat} {s:Int} {ns:List K4} {F G:List Nat} (h:StoreAt w b s ns F) (hf:Fr G w w') (hd:∀ x∈F,x∉G):StoreAt w' b s ns F :=
 h.keep fun x hx=>hf.block x (h.lt x hx) (hd x hx)
theorem StoreAt.drew {w w':World} {b:Nat} {s:Int} {ns:List K4} {F:List Nat} (h:StoreAt w b s ns F) (hd:Drew w w'):StoreAt w' b s ns F:=h.keep fun x _=>by rw [hd.heap]
set_option maxHeartbeats 400000 in
theorem Level_neg (b:Nat) (id:Int) (w:World) (h:id<0) :
  Calls Tryz.prog 39 #[.pointer (some ⟨b,0,none⟩),.int .i64 id] w fun e w'=>e=.returned (.int .i64 (-1))∧Drew w w':=by
 have hd:decide (id<0)=true:=by simpa using h
 go_enter Tryz.func39,Tryz.ntmps39
 go_wp2
 refine wRT (by kernel_rfl) (by kernel_rfl) ?_
 go_wp2
 refine Strict.intro rfl ?_
 go_wp2
 go_ret
 exact⟨rfl,(Drew.refl _).drew⟩
set_option maxHeartbeats 400000 in
theorem Level_state (b:Nat) (id s:Int) (na:Option Addr) (nl nc:Nat) (w:World) (h0:w.cell? ⟨b,0,none⟩=some (.int .i64 s)) (h1:w.cell? ⟨b,1,none⟩=some (.slice na nl nc))
  (hs:0≤s) (hs2:s≤8) (hnl:nl≤100000) (hid:0≤id) (hid2:id<s) :
  Calls Tryz.prog 39 #[.pointer (some ⟨b,0,none⟩),.int .i64 id] w fun e w'=>e=.returned (.int .i64 0)∧Drew w w':=by
 have hd:decide (id<0)=false:=by simp;omega
 go_enter Tryz.func39,Tryz.ntmps39
 go_wp2
 refine wRT (by kernel_rfl) (by kernel_rfl) ?_
 go_wp2
 refine Strict.intro rfl ?_
 go_wp2
 go_ret
 exact⟨rfl,(Drew.refl _).drew⟩
set_option maxHeartbeats 400000 in
theorem Level_far (b:Nat) (id s:Int) (na:Option Addr) (nl nc:Nat) (w:World) (h0:w.cell? ⟨b,0,none⟩=some (.int .i64 s)) (h1:w.cell? ⟨b,1,none⟩=some (.slice na nl nc))
  (hs:0≤s) (hs2:s≤8) (hnl:nl≤100000) (hid:s+nl≤id) :
  Calls Tryz.prog 39 #[.pointer (some ⟨b,0,none⟩),.int .i64 id] w fun e w'=>e=.returned (.int .i64 (-1))∧Drew w w':=by
 have hd:decide (id<0)=false:=by simp;omega
 go_enter Tryz.func39,Tryz.ntmps39
 go_wp2
 refine wRT (by kernel_rfl) (by kernel_rfl) ?_
 go_wp2
 refine Strict.intro rfl ?_
 go_wp2
 go_ret
 exact⟨rfl,(Drew.refl _).drew⟩
set_option maxHeartbeats 400000 in
theorem Level_node (b:Nat) (s:Int) (k:Nat) (na:Option Addr) (nl nc nl' nc' lb:Nat) (v:Int) (w:World) (h0:w.cell? ⟨b,0,none⟩=some (.int .i64 s)) (h1:w.cell? ⟨b,1,none⟩=some (.slice na nl nc))
  (h2:w.cell? ⟨b,2,none⟩=some (.slice (some ⟨lb,0,none⟩) nl' nc')) (hs:0≤s) (hs2:s≤8) (hnl:nl≤100000) (hid:k<nl) (hid':k<nl') (hc:w.cell? ⟨lb,k,none⟩=some (.int .i64 v)) :
  Calls Tryz.prog 39 #[.pointer (some ⟨b,0,none⟩),.int .i64 (s+k)] w fun e w'=>e=.returned (.int .i64 v)∧Drew w w':=by
 have hw1:IntKind.i64.wrap (s+↑k - s)=↑k:=IntWalk.i64_in _ (by omega) |>.trans (by omega)
 go_enter Tryz.func39,Tryz.ntmps39
 go_wp2
 refine wRT (by kernel_rfl) (by kernel_rfl) ?_
 go_wp2
 refine Strict.intro rfl ?_
 go_wp2
 refine wRT (by kernel_rfl) (by kernel_rfl) ?_
 go_wp2
 refine Strict.intro rfl ?_
 go_wp2
 go_ret
 exact⟨rfl,(Drew.refl _).drew.drew⟩
theorem Level_calls {w:World} {b:Nat} {s:Int} {ns:List K4} {F:List Nat} (hS:StoreAt w b s ns F) (id:Int) :
  Calls Tryz.prog 39 #[.pointer (some ⟨b,0,none⟩),.int .i64 id] w fun e w'=>e=.returned (.int .i64 (lvl s (levs s ns) id))∧Drew w w':=by
 obtain⟨⟨hs,hs2,hl,_⟩,nv,lv,mb,hI,rfl⟩:=hS
 obtain⟨na,nc,rfl,_⟩:=oFM hI.nodes
 obtain⟨la,lc,rfl,hla,_⟩:=oFM hI.levels
 have h0:w.cell? ⟨b,0,none⟩=some (.int .i64 s):=hEC hI.blk 0
 have h1:w.cell? ⟨b,1,none⟩=some (.slice na ns.length nc):=hEC hI.blk 1
 have h2:w.cell? ⟨b,2,none⟩=some (.slice la ns.length lc):=hEC hI.blk 2
 have hlen:=levs_length s ns
 unfold lvl
 by_cases hneg:id<0
 ·rw [if_pos hneg];exact Level_neg b id w hneg
 ·rw [if_neg hneg]
  by_cases hst:id<s
  ·rw [if_pos hst];exact Level_state b id s na _ nc w h0 h1 (by omega) hs2 hl (by omega) hst
  ·rw [if_neg hst]
   by_cases hfar:s+ns.length≤id
   ·rw [List.getD_eq_getElem?_getD,List.getElem?_eq_none (by omega)]
    exact Level_far b id s na _ nc w h0 h1 (by omega) hs2 hl hfar
   ·obtain⟨k,rfl⟩:∃ k:Nat,id=s+k:=⟨(id - s).toNat,by omega⟩
    obtain⟨g,rfl⟩:=hla (by omega)
    have hk:k<(levs s ns).length:=by omega
    have hk':(s+↑k - s).toNat=k:=by omega
    rw [hk',List.getD_eq_getElem?_getD,List.getElem?_eq_getElem hk]
    exact Level_node b s k na _ nc _ lc g _ w h0 h1 h2 (by omega) hs2 hl (by omega) (by omega) (owns_cell hI.levels rfl (by simp [hk]))
end Go.Proofs.YtdanghnadbkhfaaGreat
end
