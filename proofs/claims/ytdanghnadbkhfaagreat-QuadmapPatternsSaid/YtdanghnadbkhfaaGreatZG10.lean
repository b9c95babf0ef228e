/- Own texts of this claim, part 11: no condition. -/
import Derived.Test.YtdanghnadbkhfaaGreatZG9
import Derived.Test.YtdanghnadbkhfaaGreatZG7
set_option linter.unusedVariables false
set_option linter.unusedSimpArgs false
section
namespace Go.Proofs.YtdanghnadbkhfaaGreat
open Go Go.RowKit Rg Hp Bn
set_option maxHeartbeats 4000000 in
set_option maxRecDepth 100000 in
theorem Bit_calls {w:World} {neg:Bool} {ds:List Nat} {k:Int} {a:Option Addr} {c:Nat} (hv:Reads w (.slice a ds.length c) ds.length 1 (u32s ds)) (hD:Dig 4294967296 ds) (hl:ds.length≤10000) (hc:ds.length≤c) (hk1:-9223372036854775808≤k) (hk2:k<9223372036854775808) :
  Calls Tryz.prog 41 #[.agg #[.bool neg,.slice a ds.length c],.int .i64 k] w fun e w'=>e=.returned (.int .i64 (bitS neg ds k:Nat))∧Fr [] w w':=by
 have hra:=fun w1 (hf:Fr [] w w1)=>Right_calls (neg:=neg) (hv.fr hf) (by omega)
 obtain⟨r,hS⟩:∃ r,r=bitS neg ds k:=⟨_,rfl⟩
 rw [← hS]
 unfold bitS at hS
 have Hv:=Lib.hid hv
 have HDd:=Lib.hid hD
 clear hv hD
 cases hR1:RightB neg ds with
 | false =>
  rw [hR1] at hS hra
  simp only [true_or,if_true] at hS
  subst hS
  have Hra:=Lib.hid hra
  clear hra hR1
  go_enter Tryz.func41,Tryz.ntmps41
  go_wp2_with fail
  refine (Hra.out _ (by (repeat first|exact Fr.refl _ _|assumption|apply Fr.n|apply Fr.d|apply Fr.a|refine Fr.s ?_ (.inr (by simp;try omega)) _))).mono ?_
  rintro e w1 ⟨rfl,hf⟩
  have hb_:=(hf.block (w.heap.size) (by first|(simp;done)|(simp;omega)) (by simp)).trans (show _=some (.cells #[.bool neg,.slice a ds.length c] 27 (0,0)) by (repeat first|rw [if_pos (by omega)]|rw [if_neg (by omega)]|rw [hDR]|rw [hDN]|rw [hAz]|rw [hSz]|rw [hAC]|rw [hSC]|rw [oMS]|rw [uPC]|rw [lSZ]|rw [lSS]|rfl))
  have b0:=hEC hb_ 0
  have b1:=hEC hb_ 1
  have bl:=lBk hb_
  have Hb:=Lib.hid hb_
  clear hb_
  have Hf:=Lib.hid (Fr.trans0 (by (repeat first|exact Fr.refl _ _|assumption|apply Fr.n|apply Fr.d|apply Fr.a|refine Fr.s ?_ (.inr (by simp;try omega)) _):Fr [] w _) hf)
  clear hf
  go_wp2
  go_ret
  exact⟨rfl,Hf.out⟩
 | true =>
  rw [hR1] at hS hra
  simp only [Bool.true_eq_false,false_or] at hS
  have Hra:=Lib.hid hra
  clear hra hR1
  by_cases hk0:k<0
  ·rw [if_pos hk0] at hS
   subst hS
   have hd:decide (k<0)=true:=by simpa using hk0
   go_enter Tryz.func41,Tryz.ntmps41
   go_wp2_with fail
   refine (Hra.out _ (by (repeat first|exact Fr.refl _ _|assumption|apply Fr.n|apply Fr.d|apply Fr.a|refine Fr.s ?_ (.inr (by simp;try omega)) _))).mono ?_
   rintro e w1 ⟨rfl,hf⟩
   have hb_:=(hf.block (w.heap.size) (by first|(simp;done)|(simp;omega)) (by simp)).trans (show _=some (.cells #[.bool neg,.slice a ds.length c] 27 (0,0)) by (repeat first|rw [if_pos (by omega)]|rw [if_neg (by omega)]|rw [hDR]|rw [hDN]|rw [hAz]|rw [hSz]|rw [hAC]|rw [hSC]|rw [oMS]|rw [uPC]|rw [lSZ]|rw [lSS]|rfl))
   have b0:=hEC hb_ 0
   have b1:=hEC hb_ 1
   have bl:=lBk hb_
   have Hb:=Lib.hid hb_
   clear hb_
   have Hf:=Lib.hid (Fr.trans0 (by (repeat first|exact Fr.refl _ _|assumption|apply Fr.n|apply Fr.d|apply Fr.a|refine Fr.s ?_ (.inr (by simp;try omega)) _):Fr [] w _) hf)
   clear hf
   go_wp2
   go_ret
   exact⟨rfl,Hf.out⟩
  ·rw [if_neg hk0] at hS
   have hd:decide (k<0)=false:=by simpa using hk0
   by_cases hk3:2048≤k
   ·rw [if_pos hk3] at hS
    subst hS
    have hd2:decide (2048≤k)=true:=by simpa using hk3
    cases neg
    ·
     go_enter Tryz.func41,Tryz.ntmps41
     go_wp2_with fail
     refine (Hra.out _ (by (repeat first|exact Fr.refl _ _|assumption|apply Fr.n|apply Fr.d|apply Fr.a|refine Fr.s ?_ (.inr (by simp;try omega)) _))).mono ?_
     rintro e w1 ⟨rfl,hf⟩
     have hb_:=(hf.block (w.heap.size) (by first|(simp;done)|(simp;omega)) (by simp)).trans (show _=some (.cells #[.bool false,.slice a ds.length c] 27 (0,0)) by (repeat first|rw [if_pos (by omega)]|rw [if_neg (by omega)]|rw [hDR]|rw [hDN]|rw [hAz]|rw [hSz]|rw [hAC]|rw [hSC]|rw [oMS]|rw [uPC]|rw [lSZ]|rw [lSS]|rfl))
     have b0:=hEC hb_ 0
     have b1:=hEC hb_ 1
     have bl:=lBk hb_
     have Hb:=Lib.hid hb_
     clear hb_
     have Hf:=Lib.hid (Fr.trans0 (by (repeat first|exact Fr.refl _ _|assumption|apply Fr.n|apply Fr.d|apply Fr.a|refine Fr.s ?_ (.inr (by simp;try omega)) _):Fr [] w _) hf)
     clear hf
     go_wp2
     go_ret
     exact⟨rfl,Hf.out⟩
    ·
     go_enter Tryz.func41,Tryz.ntmps41
     go_wp2_with fail
     refine (Hra.out _ (by (repeat first|exact Fr.refl _ _|assumption|apply Fr.n|apply Fr.d|apply Fr.a|refine Fr.s ?_ (.inr (by simp;try omega)) _))).mono ?_
     rintro e w1 ⟨rfl,hf⟩
     have hb_:=(hf.block (w.heap.size) (by first|(simp;done)|(simp;omega)) (by simp)).trans (show _=some (.cells #[.bool true,.slice a ds.length c] 27 (0,0)) by (repeat first|rw [if_pos (by omega)]|rw [if_neg (by omega)]|rw [hDR]|rw [hDN]|rw [hAz]|rw [hSz]|rw [hAC]|rw [hSC]|rw [oMS]|rw [uPC]|rw [lSZ]|rw [lSS]|rfl))
     have b0:=hEC hb_ 0
     have b1:=hEC hb_ 1
     have bl:=lBk hb_
     have Hb:=Lib.hid hb_
     clear hb_
     have Hf:=Lib.hid (Fr.trans0 (by (repeat first|exact Fr.refl _ _|assumption|apply Fr.n|apply Fr.d|apply Fr.a|refine Fr.s ?_ (.inr (by simp;try omega)) _):Fr [] w _) hf)
     clear hf
     go_wp2
     go_ret
     exact⟨rfl,Hf.out⟩
   ·rw [if_neg hk3] at hS
    have hd2:decide (2048≤k)=false:=by simp;omega
    have hsh:=fun w1 (hf:Fr [] w w1)=>Shift_calls (neg:=neg) (k:=-k) (Hv.out.fr hf) HDd.out hl hc (by omega) (by omega)
    obtain⟨sD,sL⟩:=shiftS_dig (neg:=neg) (ds:=ds) (k:=-k)
    generalize shiftS neg ds (-k)=s at *
    have Hsh:=Lib.hid hsh
    have HsD:=Lib.hid sD
    have HsL:=Lib.hid sL
    have HS:=Lib.hid hS
    clear hsh sD sL hS
    go_enter Tryz.func41,Tryz.ntmps41
    go_wp2_with fail
    refine (Hra.out _ (by (repeat first|exact Fr.refl _ _|assumption|apply Fr.n|apply Fr.d|apply Fr.a|refine Fr.s ?_ (.inr (by simp;try omega)) _))).mono ?_
    rintro e w1 ⟨rfl,hf⟩
    have hb_:=(hf.block (w.heap.size) (by first|(simp;done)|(simp;omega)) (by simp)).trans (show _=some (.cells #[.bool neg,.slice a ds.length c] 27 (0,0)) by (repeat first|rw [if_pos (by omega)]|rw [if_neg (by omega)]|rw [hDR]|rw [hDN]|rw [hAz]|rw [hSz]|rw [hAC]|rw [hSC]|rw [oMS]|rw [uPC]|rw [lSZ]|rw [lSS]|rfl))
    have b0:=hEC hb_ 0
    have b1:=hEC hb_ 1
    have bl:=lBk hb_
    have Hb:=Lib.hid hb_
    clear hb_
    have Hf:=Lib.hid (Fr.trans0 (by (repeat first|exact Fr.refl _ _|assumption|apply Fr.n|apply Fr.d|apply Fr.a|refine Fr.s ?_ (.inr (by simp;try omega)) _):Fr [] w _) hf)
    clear hf
    go_wp2_with fail
    refine (Hsh.out _ Hf.out).mono ?_
    rintro e w2 ⟨ra,rc,hlo,rfl,hr,hf⟩
    have Hf:=Lib.hid (Hf.out.trans0 hf)
    have Hr:=Lib.hid hr
    have hdg:=fun w (hf:Fr [] w2 w)=>digit_calls (hr.fr hf) (by have:=HsL.out;omega) 0
    have hx:s.2.1.getD 0 0<4294967296:=HsD.out.getD (by omega) 0
    have Hdg:=Lib.hid hdg
    clear hlo hr hf hdg
    obtain⟨s1,s2,s3⟩:=s
    have Ea:=and_one hx
    have HS2:=HS.out
    simp only at HS2 Ea hx Hdg
    generalize s2.getD 0 0=x at *
    have hx2:x % 2<2:=by omega
    subst HS2
    clear HS HsD HsL
    go_wp2_with fail
    refine (Hdg.out _ (by (repeat first|exact Fr.refl _ _|assumption|apply Fr.n|apply Fr.d|apply Fr.a|refine Fr.s ?_ (.inr (by simp;try omega)) _))).mono ?_
    rintro e w4 ⟨rfl,rfl⟩
    go_wp2
    go_ret
    exact⟨rfl,by have:=Hf.out;(repeat first|exact Fr.refl _ _|assumption|apply Fr.n|apply Fr.d|apply Fr.a|refine Fr.s ?_ (.inr (by simp;try omega)) _)⟩
end Go.Proofs.YtdanghnadbkhfaaGreat
end
section
namespace Go.Proofs.YtdanghnadbkhfaaGreat
open Go Go.RowKit Rg Hp Bn
def BigCall (w:World) (z:Int) (e:Ending) (w':World):Prop:=∃ v,e=.returned (.tuple #[v,.int .i64 0])∧BigZ w' (w.heap.size≤·) v z∧Fr [] w w'
def BigCall1 (w:World) (z:Int) (e:Ending) (w':World):Prop:=∃ v,e=.returned v∧BigZ w' (w.heap.size≤·) v z∧Fr [] w w'
section
variable {w:World} {A B:Nat→Prop} {va vb:Value} {x y:Int}
theorem Add_z (ha:BigZ w A va x) (hb:BigZ w B vb y) (hx:Zok x) (hy:Zok y) (hs:Zok (x+y)):Calls Tryz.prog 88 #[va,vb] w (BigCall w (x+y)):=by
 obtain⟨a,c,rfl,_,_,h3⟩:=ha
 obtain⟨a',c',rfl,_,_,k3⟩:=hb
 refine (Add_calls h3 k3 (zd_dig x) (zd_dig y) (by have:=zd_len hx;omega) (by have:=zd_len hy;omega)).mono ?_
 rw [addS_z hx hy hs]
 rintro e w' ⟨a,c,⟨h1,h2⟩,rfl,h3,hf⟩
 exact⟨_,rfl,⟨a,c,rfl,h1,h2,h3⟩,hf⟩
theorem Compare_z (ha:BigZ w A va x) (hb:BigZ w B vb y) (hx:Zok x) (hy:Zok y):Calls Tryz.prog 53 #[va,vb] w fun e w'=>e=.returned (.int .i64 (cmpI x y))∧Fr [] w w':=by
 obtain⟨a,c,rfl,_,_,h3⟩:=ha
 obtain⟨a',c',rfl,_,_,k3⟩:=hb
 have:=Compare_calls (na:=decide (x<0)) (nb:=decide (y<0)) h3 k3 (zd_dig x) (zd_dig y) (by have:=zd_len hx;omega) (by have:=zd_len hy;omega)
 rwa [cmpS_z hx hy] at this
theorem From_z (h1:-9223372036854775808≤x) (h2:x<9223372036854775808):Calls Tryz.prog 54 #[.int .i64 x] w (BigCall1 w x):=by
 refine (From_calls h1 h2).mono ?_
 rw [fromS_z (zok_int h1 h2)]
 rintro e w' ⟨a,c,⟨h1,h2⟩,rfl,h3,hf⟩
 exact⟨_,rfl,⟨a,c,rfl,h1,h2,h3⟩,hf⟩
theorem Shift_z {n:Nat} (ha:BigZ w A va 1) (hn:n≤2047):Calls Tryz.prog 85 #[va,.int .i64 n] w (BigCall w ((2 ^ n:Nat):Int)):=by
 obtain⟨a,c,rfl,h0,_,h3⟩:=ha
 refine (Shift_calls (neg:=decide ((1:Int)<0)) h3 (zd_dig 1) (by have:=zd_len (z:=1) (zok_int (by omega) (by omega));omega) h0 (by omega) (by omega)).mono ?_
 rw [show decide ((1:Int)<0)=false from rfl,shift_one hn]
 rintro e w' ⟨a,c,⟨h1,h2⟩,rfl,h3,hf⟩
 refine⟨_,rfl,⟨a,c,?_,h1,h2,h3⟩,hf⟩
 rw [decide_eq_false (Int.not_lt.2 (Int.natCast_nonneg _))]
theorem Bit_z {k:Nat} (ha:BigZ w A va x) (hx:Zok x) (h0:0≤x) (hk:k<2048):Calls Tryz.prog 41 #[va,.int .i64 k] w fun e w'=>e=.returned (.int .i64 (x.toNat / 2 ^ k % 2:Nat))∧Fr [] w w':=by
 obtain⟨a,c,rfl,hc,_,h3⟩:=ha
 have:=Bit_calls (neg:=decide (x<0)) (k:=k) h3 (zd_dig x) (by have:=zd_len hx;omega) hc (by omega) (by omega)
 rwa [bitS_z hx h0 hk] at this
end
end Go.Proofs.YtdanghnadbkhfaaGreat
end
