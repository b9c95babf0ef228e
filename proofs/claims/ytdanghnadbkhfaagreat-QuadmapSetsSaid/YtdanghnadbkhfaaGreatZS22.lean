/- Own texts of this claim, part 23: no condition. -/
import Derived.Test.YtdanghnadbkhfaaGreatZS20
section
namespace Go.Proofs.YtdanghnadbkhfaaGreat
set_option linter.unusedVariables false
set_option linter.unusedSimpArgs false
open Go Go.RowKit Rg Hp Bn
set_option maxHeartbeats 4000000 in
theorem bit_calls {w:World} {ds:List Nat} {v:Value} (hv:Reads w v ds.length 1 (i64s ds)) (hD:Dig 256 ds) (hl:ds.length≤100000) (k:Nat) (hk:k≤9223372036854775807) :
  Calls Tryz.prog 109 #[v,.int .i64 k] w fun e w'=>e=.returned (.int .i64 (val 256 ds / 2 ^ k % 2:Nat))∧w=w':=by
 have hdg:=rdigit_calls hv (by omega) (k / 8)
 have hx:ds.getD (k / 8) 0<256:=hD.getD (by omega) _
 have hb:=bit_val hD k
 obtain⟨_,a,c,rfl,_⟩:=hv
 obtain⟨j,hj⟩:∃ j,k / 8=j:=⟨_,rfl⟩
 obtain⟨m,hm⟩:∃ m,k % 8=m:=⟨_,rfl⟩
 have Ej:((k:Int) / 8)=(j:Nat):=by omega
 have Em:((k:Int) % 8)=(m:Nat):=by omega
 have hm8:m<8:=by omega
 rw [← hb]
 rw [hj] at hx hdg
 rw [hj,hm]
 clear hb hj hm
 have Hdg:=Lib.hid hdg
 clear hdg
 generalize ds.getD j 0=x at *
 go_enter Tryz.func109,Tryz.ntmps109
 go_wp2_with fail
 refine Hdg.out.mono ?_
 rintro e w1 ⟨rfl,rfl⟩
 go_wp2_with fail
 go_loop [5,6] (fun x5 x6=>∃ i:Nat,x5=.int .i64 (x / 2 ^ i:Nat)∧x6=.int .i64 i∧i≤m) (fun _ x6=>m - (intOf x6).toNat)
 case atStart=>exact⟨0,by simp,rfl,by omega⟩
 case round =>
  obtain⟨i,rfl,rfl,hi⟩:=hrel
  by_cases him:i<m
  ·have hle:x / 2 ^ i≤x:=Nat.div_le_self _ _
   have e2:((x / 2 ^ (i+1):Nat):Int)=((x / 2 ^ i:Nat):Int) / 2:=by rw [Nat.pow_succ,← Nat.div_div_eq_div_mul];omega
   have E2:=Lib.hid e2
   clear e2
   generalize x / 2 ^ i=y at *
   go_wp2
   go_round
   case rel=>exact⟨i+1,by rw [E2.out],by go_num,by omega⟩
   case measure=>simp [intOf];omega
  ·obtain rfl:i=m:=by omega
   have hle:x / 2 ^ i≤x:=Nat.div_le_self _ _
   obtain⟨y,hy⟩:∃ y,x / 2 ^ i=y:=⟨_,rfl⟩
   have E:=Lib.hid (show ((x:Int) / 2 ^ i % 2)=(y:Int) % 2 by rw [← hy];simp)
   rw [hy] at hle ⊢
   clear hy
   go_wp2
   go_ret
   exact⟨by rw [E.out];rfl,rfl⟩
set_option maxHeartbeats 4000000 in
set_option maxRecDepth 100000 in
theorem ofBits_calls {w:World} {ds:List Nat} {v:Value} (hv:Reads w v ds.length 1 (i64s ds)) (hD:Dig 2 ds) (hl:ds.length≤100000) :
  Calls Tryz.prog 113 #[v] w (ListPost w (w.heap.size≤·) (dg 256 (val 2 ds))):=by
 have hdg:=fun w1 (hf:Fr [] w w1) i=>rdigit_calls (hv.fr hf) (by omega) i
 have Hdg:=Lib.hid hdg
 have HD:=Lib.hid hD
 obtain⟨_,a,c,rfl,_⟩:=hv
 obtain⟨n,hn⟩:∃ n,ds.length=n:=⟨_,rfl⟩
 have Hn:=Lib.hid hn
 rw [hn] at hl Hdg ⊢
 clear hdg hD hn
 go_enter Tryz.func113,Tryz.ntmps113
 go_wp2_with fail
 go_loopw [3,4] (fun x3 x4 wl=>∃ (j:Nat) (L:List Nat),x4=.int .i64 (8*(j:Int))∧8*j<n+8∧Dig 256 L∧L.length=j∧val 256 L=val 2 (ds.take (8*j))∧wl.ownsRow w.heap.size 3 1 x3 L.length (i64s L)∧Fr [] w wl) (fun _ x4 _=>n+8 - (intOf x4).toNat)
 case atStart=>exact⟨0,[],rfl,by omega,Dig.nil,rfl,rfl,World.ownsRow_nil _ _ _ _,Fr.refl _ _⟩
 case round =>
  obtain⟨j,L,rfl,hj,hDL,hL,hv,ho,hf⟩:=hrel
  obtain⟨oa,oc,rfl,hoa,hon⟩:=oFM ho
  have HDL:=Lib.hid hDL
  have HL:=Lib.hid hL
  have Hv:=Lib.hid hv
  have Ho:=Lib.hid ho
  have Hf:=Lib.hid hf
  clear hoa hon hDL hL hv ho hf
  by_cases hjn:8*j<n
  ·have hjd:decide ((8:Int)*j<n)=true:=by rw [decide_eq_true_eq];omega
   go_wp2_with fail
   go_loopw [5,6] (fun x5 x6 wl=>∃ (k b:Nat) (z:Int),x5=.int .i64 b∧x6=.int .i64 z∧z=(k:Int) - 1∧k≤8∧b<2 ^ (8 - k)∧b=val 2 ((ds.drop (8*j+k)).take (8 - k))∧wl=wr) (fun _ x6 _=>(intOf x6+1).toNat)
   case atStart=>exact⟨8,0,7,rfl,rfl,rfl,by omega,by omega,by simp [val],rfl⟩
   case round =>
    obtain⟨k,b,z,rfl,rfl,hz,hk,hb2,hbv,rfl⟩:=hrel
    have Hb2:=Lib.hid hb2
    have Hbv:=Lib.hid hbv
    have hb256:b<256:=Nat.lt_of_lt_of_le hb2 (Nat.pow_le_pow_right (show 0<2 by omega) (show 8 - k≤8 by omega))
    clear hb2 hbv
    cases k with
    | zero =>
     obtain rfl:z=-1:=by omega
     have hbv:=Hbv.out
     rw [Nat.add_zero,Nat.sub_zero] at hbv
     have hv9:val 256 (L++[b])=val 2 (ds.take (8*(j+1))):=by
      rw [val_snoc,Hv.out,HL.out,show 8*(j+1)=8*j+8 by omega,val_takeN 2 8 ds (8*j) (by have:=Hn.out;omega),show 2 ^ (8*j)=256 ^ j by rw [Nat.pow_mul],← hbv]
     have Hv9:=Lib.hid hv9
     clear hz hbv hv9
     go_wp2_with (at_builtin;refine append_i64 (n:=L.length) (base:=w.heap.size) (xs:=(i64s L)) (y:=(b:Int)) rfl rfl rfl ?e1 rfl ?e2 ?e3 ?e4 ?_)
     case e1=>exact oOB Ho.out fun y hy=>hAE _ _ _ (oLT Ho.out hy)
     case e2=>first|(first|(rw [hAC,if_pos rfl];done)|exact (Array.getElem?_eq_some_iff.1 ((hAC _ _ _).trans (if_pos rfl))).2|(simp only [hDR,hDN];rw [hAC,if_pos rfl];done))|(repeat first|rw [if_pos (by omega)]|rw [if_neg (by omega)]|rw [hDR]|rw [hDN]|rw [hAz]|rw [hSz]|rw [hAC]|rw [hSC]|rw [oMS]|rw [uPC]|rw [lSZ]|rw [lSS]|rfl)
     case e3=>(have:=HL.out;omega)
     case e4=>have:=Hf.out.size;(first|omega|(simp only [hDR,hDN,hAz];omega)|(simp;omega))
     intro g2 cap w9 hown1 hW1 hF1 hloc1 hg1
     rw [i64s_snoc] at hown1
     have Hown1:=Lib.hid hown1
     have Hf9:=Lib.hid (fr_append Hf.out Ho.out hF1)
     clear hown1 hW1 hF1 hloc1
     go_wp2
     go_roundw
     case rel=>exact⟨j+1,L++[b],by go_num,by omega,HDL.out.append (fun z hz=>by rw [List.mem_singleton] at hz;omega),by rw [List.length_append,HL.out];rfl,Hv9.out,by rw [List.length_append];exact Hown1.out,Hf9.out⟩
     case measure=>simp [intOf];omega
    | succ k =>
     obtain rfl:z=(k:Int):=by omega
     have hx:ds.getD (8*j+k) 0<2:=HD.out.getD (by omega) _
     have hq:=val_chunk 2 8 ds (8*j) k (by omega)
     rw [← Hbv.out] at hq
     have hp2:ds.getD (8*j+k) 0+2*b<2 ^ (8 - k):=by
      have h:=Hb2.out
      rw [show 8 - k=(8 - (k+1))+1 by omega,Nat.pow_succ]
      omega
     have Hq:=Lib.hid hq
     have Hp2:=Lib.hid hp2
     have Hdg2:=Lib.hid (fun w1 hf=>Hdg.out w1 hf (8*j+k))
     have Ei:((8:Int)*j+k)=((8*j+k:Nat):Int):=by omega
     clear hz hq hp2
     generalize ds.getD (8*j+k) 0=x at *
     obtain⟨i,hi⟩:∃ i,8*j+k=i:=⟨_,rfl⟩
     rw [hi] at Hdg2 Ei
     go_wp2_with fail
     refine (Hdg2.out _ Hf.out).mono ?_
     rintro e w3 ⟨rfl,rfl⟩
     clear hi
     go_wp2
     go_roundw
     case rel=>exact⟨k,x+2*b,(k:Int) - 1,by go_num,by go_num,rfl,by omega,Hp2.out,Hq.out.symm,trivial⟩
     case measure=>simp [intOf]
  ·have hjd:decide ((8:Int)*j<n)=false:=by rw [decide_eq_false_iff_not];omega
   have hv:=Hv.out
   rw [List.take_of_length_le (by have:=Hn.out;omega)] at hv
   have ht:=trim_calls (Reads.of_owns Ho.out) HDL.out (by have:=HL.out;omega) (owns_cap Ho.out) (A:=fun g=>w.heap.size≤g) (fun g hg=>owns_ge Ho.out hg)
   rw [hv] at ht
   have Ht:=Lib.hid ht
   clear ht hv
   go_wp2_with fail
   refine Ht.out.mono ?_
   rintro e w4 ⟨ra,rc,hlo,rfl,hr,hf⟩
   have Hf5:=Lib.hid (Hf.out.trans0 hf)
   have Hr:=Lib.hid hr
   have Hlo:=Lib.hid hlo
   clear hf hr hlo
   go_wp2
   go_ret
   exact⟨ra,rc,Hlo.out,rfl,Hr.out,Hf5.out⟩
end Go.Proofs.YtdanghnadbkhfaaGreat
end
