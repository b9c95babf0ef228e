/- Own texts of this claim, part 24: no condition. -/
import Derived.RegionTactic
import Derived.ChangeAlike
import Derived.Test.YtdanghnadbkhfaaGreatZG21
import Derived.Test.YtdanghnadbkhfaaGreatZG22
import Derived.Test.YtdanghnadbkhfaaGreatZG11
import Derived.Test.YtdanghnadbkhfaaGreatZG10
import Derived.Test.YtdanghnadbkhfaaGreatZG18
import Derived.Test.YtdanghnadbkhfaaGreatZG20
set_option linter.unusedVariables false
set_option linter.unusedSimpArgs false
section
namespace Go.Proofs.YtdanghnadbkhfaaGreat
open Go Go.RowKit Rg Mp Hp Qs Ev Bn
def dumT:Tr:=.node (.leaf 100) (.leaf 100) (.leaf 100) (.leaf 100)
theorem dum_not {s:Int} {ns:List K4} (hg:GoodQ s ns):dumT∉trs s ns:=by
 intro hm
 obtain⟨i,hi,he⟩:=List.mem_iff_getElem.1 hm
 have hi':i<ns.length:=by rw [← trs_length s ns];exact hi
 have he:tr s ns (s+i)=dumT:=by
  unfold tr tget
  rw [if_neg (by omega),show (s+(i:Int) - s).toNat=i by omega,List.getD_eq_getElem?_getD,List.getElem?_eq_getElem hi,he]
  rfl
 have:=(good_full hg ns.length (x:=s+i) (by omega) ⟨by have:=hg.1;omega,by omega⟩).2
 rw [he] at this
 have h8:=hg.2.1
 have:=this.1.2
 omega
def dums:List Tr:=List.replicate 300 dumT
theorem room_dums {s:Int} {ns:List K4} {L:List Tr} (hg:GoodQ s ns) (h:room s ns (dums++L)):ns.length+300≤90000:=by
 unfold room dums at h
 rw [List.filter_append,List.length_append,List.filter_replicate,if_pos (by simpa using dum_not hg),List.length_replicate] at h
 omega
def RBuildAt (s:Int) (L:List Tr) (b n:Nat):Prop:=∀ (w:World) (F:List Nat) (ns:List K4) (a:Option Addr) (c:Nat) (E:List SV),RefAt w b s ns F→room s ns (dums++L)→SpAt w F (.slice a E.length c) E→OkS s n (E.map SV.spot)→E.length≤100000 →
 (∀ i,i<n→emptyT (i+1)∈L)→(∀ u∈newT n (E.map SV.spot),u∈L) →
 Calls Tryz.prog 70 #[.pointer (some ⟨b,0,none⟩),.slice a E.length c,.int .i64 (n:Nat)] w (RTwo w b s (buildQ s n ns (E.map SV.spot)) F)
theorem Rbuild_nil {s:Int} {b n:Nat} {w:World} {F:List Nat} {ns:List K4} {a:Option Addr} {c:Nat} (hS:RefAt w b s ns F) (hl:ns.length+256≤90000) :
  Calls Tryz.prog 70 #[.pointer (some ⟨b,0,none⟩),.slice a 0 c,.int .i64 (n:Nat)] w (RTwo w b s (buildQ s n ns []) F):=by
 rw [buildQ_nil]
 have H:=Lib.hid (REmpty_calls hS hl (n:Nat))
 unfold RTwo at H ⊢
 obtain⟨⟨⟨i,e⟩,ms⟩,hR⟩:∃ R,emptyQ s ns (n:Nat)=R:=⟨_,rfl⟩
 rw [hR] at H ⊢
 obtain⟨N,hN⟩:∃ N:Int,((n:Nat):Int)=N:=⟨_,rfl⟩
 rw [hN] at H ⊢
 clear hS hl hR hN
 go_enter Tryz.func70,Tryz.ntmps70
 go_wp2_with fail
 refine H.out.mono ?_
 rintro e w1 ⟨rfl,h1⟩
 have H1:=Lib.hid h1
 clear h1
 go_wp2
 go_ret2
 exact⟨rfl,H1.out⟩
theorem Rbuild_leaf {s:Int} {b:Nat} {w:World} {F:List Nat} {ns:List K4} {a:Option Addr} {c:Nat} {e:SV} {E:List SV} (hS:RefAt w b s ns F) (hv:Reads w (.slice a (e::E).length c) (e::E).length 5 (svs (e::E))) (hlen:(e::E).length≤100000) :
  Calls Tryz.prog 70 #[.pointer (some ⟨b,0,none⟩),.slice a (e::E).length c,.int .i64 0] w (RTwo w b s (buildQ s 0 ns ((e::E).map SV.spot)) F):=by
 obtain⟨g,off,rfl,hgl,e0,e1,e2,e3,e4⟩:=svs_cell (i:=0) (p:=e) hv rfl
 obtain⟨m,hm⟩:∃ m,(e::E).length=m:=⟨_,rfl⟩
 have hm0:0<m:=by rw [← hm];simp
 have hm1:((m:Int) == 0)=false:=by simp;omega
 have HR:=Lib.hid (show RTwo w b s (buildQ s 0 ns ((e::E).map SV.spot)) F (.returned (.tuple #[.int .i64 e.st,.int .i64 0])) w from RTwo.same hS (Fr.refl [] w) rfl)
 rw [hm]
 rw [Nat.zero_mul,Nat.add_zero] at e0 e1 e2 e3 e4
 clear hS hv hm e0 e1 e2 e3 hlen
 go_enter Tryz.func70,Tryz.ntmps70
 go_wp2
 go_ret2
 exact HR.out
structure RbSt (w wr:World) (b:Nat) (s:Int) (ns:List K4) (L:List Tr) (F:List Nat) (E:List SV) (n kb q:Nat) (ids:List Int) (ms:List K4) (F':List Nat):Prop where
 krr:kr (fun ms k=>buildQ s n ms (partQ (2 ^ n) k (E.map SV.spot))) q ns=(0,ids,ms)
 ref:RefAt wr b s ms F'
 fr:Fr F w wr
 sub:∀ x∈F',x∈F∨w.heap.size≤x
 off:kb∉F'
 blk:wr.heap[kb]?=some (.cells (iv (mixL ⟨0,0,0,0⟩ ids)).toArray 81 (0,0))
 low:w.heap.size≤kb
 room:Qs.room s ms (dums++L)
theorem mix_set {ids:List Int} {q:Nat} {id:Int} (h:ids.length=q) (hq:q<4):(iv (mixL ⟨0,0,0,0⟩ ids)).toArray.setIfInBounds q (.int .i64 id)=(iv (mixL ⟨0,0,0,0⟩ (ids++[id]))).toArray:=by
 subst h
 rw [show ∀ (I:List Int) (m:Nat) (v:Int),(iv I).toArray.setIfInBounds m (.int .i64 v)=(iv (I.set m v)).toArray from fun I m v=>by rw [← iv_set];simp]
 congr 2
 have:ids.length=0∨ids.length=1∨ids.length=2∨ids.length=3:=by omega
 rcases this with h|h|h|h
 ·obtain rfl:=List.length_eq_zero_iff.1 h;rfl
 ·obtain⟨i0,rfl⟩:=List.length_eq_one_iff.1 h;rfl
 ·obtain⟨i0,i1,rfl⟩:=len2 h;rfl
 ·obtain⟨i0,i1,i2,rfl⟩:=len3 h;rfl
theorem RbSt.put {w wr w1 w2:World} {b:Nat} {s:Int} {ns:List K4} {L:List Tr} {F:List Nat} {E:List SV} {n kb q:Nat} {ids:List Int} {ms:List K4} {F':List Nat} (h:RbSt w wr b s ns L F E n kb q ids ms F') (hq:q<4)
  (hf:Fr [] wr w1) {id:Int} {ms2:List K4} {F2:List Nat} (h2:RefAt w2 b s ms2 F2) (hf2:Fr F' w1 w2) (hs2:∀ x∈F2,x∈F'∨w1.heap.size≤x) (hr:Qs.room s ms2 (dums++L)) (hb:buildQ s n ms (partQ (2 ^ n) q (E.map SV.spot))=((id,0),ms2)) :
  RbSt w (w2.setCell ⟨kb,q,none⟩ (.int .i64 id)) b s ns L F E n kb (q+1) (ids++[id]) ms2 F2:=by
 have hkl:=lBk h.blk
 have hk1:kb<w1.heap.size:=by have:=hf.size;omega
 have hoff:kb∉F2:=fun hx=>by rcases hs2 kb hx with h9|h9;exact h.off h9;omega
 have hb1:=(hf.block kb hkl (by simp)).trans h.blk
 have hb2:=(hf2.block kb hk1 h.off).trans hb1
 have hset:∀ z,z≠kb→(w2.setCell ⟨kb,q,none⟩ (.int .i64 id)).heap[z]?=w2.heap[z]?:=fun z hz=>heap_setCell_else _ _ _ _ hz
 have hfr2:Fr F w w2:=(h.fr.trans0 hf).trans hf2 fun x hx=>by
  rcases h.sub x hx with h9|h9
  ·exact .inl h9
  ·exact .inr h9
 have hsub2:∀ x∈F2,x∈F∨w.heap.size≤x:=fun x hx=>by
  rcases hs2 x hx with h9|h9
  ·exact h.sub x h9
  ·have:=h.fr.size;have:=hf.size;exact .inr (by omega)
 refine⟨kr_ok h.krr hb,h2.keep fun x hx=>hset x (fun e=>hoff (e▸hx)),hfr2.setCell (.inr h.low) _,hsub2,hoff,?_,h.low,hr⟩
 rw [heap_setCell_here hb2]
 congr 2
 exact mix_set (kr_len h.krr) hq
set_option maxHeartbeats 16000000 in
set_option maxRecDepth 100000 in
theorem Rbuild_succ {s:Int} {L:List Tr} {b n:Nat} (hn:n+1≤256) (ih:RBuildAt s L b n) {w:World} {F:List Nat} {ns:List K4} {a:Option Addr} {c:Nat} {e0:SV} {E0:List SV} (hS:RefAt w b s ns F) (hr:room s ns (dums++L)) (hsp:SpAt w F (.slice a (e0::E0).length c) (e0::E0)) (hok:OkS s (n+1) ((e0::E0).map SV.spot)) (hlen:(e0::E0).length≤100000)
  (hE:∀ i,i<n+1→emptyT (i+1)∈L) (hN:∀ u∈newT (n+1) ((e0::E0).map SV.spot),u∈L) :
  Calls Tryz.prog 70 #[.pointer (some ⟨b,0,none⟩),.slice a (e0::E0).length c,.int .i64 (n+1:Nat)] w (RTwo w b s (buildQ s (n+1) ns ((e0::E0).map SV.spot)) F):=by
 have hbq:buildQ s (n+1) ns ((e0::E0).map SV.spot)=fin4 s (fun ms k=>buildQ s n ms (partQ (2 ^ n) k ((e0::E0).map SV.spot))) ns:=rfl
 rw [hbq]
 have hN4:∀ k,k<4→∀ u∈newT n (partQ (2 ^ n) k ((e0::E0).map SV.spot)),u∈L:=by
  intro k hk u hu
  apply hN
  rw [List.map_cons] at hu ⊢
  simp only [newT,List.mem_cons,List.mem_append]
  have:k=0∨k=1∨k=2∨k=3:=by omega
  rcases this with rfl|rfl|rfl|rfl<;>simp [hu]
 obtain⟨E,hE0⟩:∃ E,(e0::E0)=E:=⟨_,rfl⟩
 have hl0:0<E.length:=by rw [← hE0];simp
 rw [hE0] at hsp hok hlen hN hN4 ⊢
 have HE:=Lib.hid hlen
 have HOK:=Lib.hid hok
 have HCO:=Lib.hid (show ∀ e∈E,e.X.1<2 ^ (n+1)∧e.Y.1<2 ^ (n+1) from fun e he=>hok.inside e.spot (List.mem_map.2 ⟨e,he,rfl⟩))
 have HEL:=Lib.hid hE
 have HNL:=Lib.hid hN4
 have HEM:=Lib.hid (show ∀ i,i<n→emptyT (i+1)∈dums++L from fun i hi=>List.mem_append.2 (.inr (hE i (by omega))))
 have HNW:=Lib.hid (show ∀ k,k<4→∀ u∈newT n (partQ (2 ^ n) k (E.map SV.spot)),u∈dums++L from fun k hk u hu=>List.mem_append.2 (.inr (hN4 k hk u hu)))
 have SSP:=Lib.hid (show ∀ wr F',Fr F w wr→(∀ x∈F',x∈F∨w.heap.size≤x)→SpAt wr F' (.slice a E.length c) E from fun wr F' h1 h2=>hsp.step h1 h2)
 have IH:=Lib.hid ih
 obtain⟨m,hm⟩:∃ m,E.length=m:=⟨_,rfl⟩
 have HM:=Lib.hid hm
 rw [hm] at hl0 ⊢
 have hm1:((m:Int) == 0)=false:=by simp;omega
 obtain⟨L9,hL9⟩:∃ L9:Int,((n+1:Nat):Int)=L9:=⟨_,rfl⟩
 have HL9:=Lib.hid hL9
 rw [hL9]
 have hL0:(L9 == 0)=false:=by simp;omega
 have hL1:IntKind.i64.wrap (L9 - 1)=(n:Nat):=by rw [show L9 - 1=((n:Nat):Int) by omega];exact IntWalk.i64_in _ (by omega)
 have H0:=Lib.hid (fun (kb:Nat) (hkb:kb=w.heap.size)=>show RbSt w (w.alloc (.cells #[.int .i64 0,.int .i64 0,.int .i64 0,.int .i64 0] 81 (0,0))) b s ns L F E n kb 0 [] ns F from by
  subst hkb
  exact⟨rfl,hS.fr ((Fr.refl [] w).alloc _) (by simp),(Fr.refl F w).alloc _,fun x hx=>.inl hx,fun hx=>Nat.lt_irrefl _ (hS.lt _ hx),by (repeat first|rw [if_pos (by omega)]|rw [if_neg (by omega)]|rw [hDR]|rw [hDN]|rw [hAz]|rw [hSz]|rw [hAC]|rw [hSC]|rw [oMS]|rw [uPC]|rw [lSZ]|rw [lSS]|rfl),Nat.le_refl _,hr⟩)
 clear hS hr hsp hok hlen hE hN hN4 hE0 hbq hm ih hL9
 go_enter Tryz.func70,Tryz.ntmps70
 go_wp2
 obtain⟨kb,hkb⟩:∃ kb,w.heap.size=kb:=⟨_,rfl⟩
 have H0:=Lib.hid (H0.out kb hkb.symm)
 rw [hkb]
 clear hkb
 go_loopw [9] (fun x' wr=>∃ z:Int,x'=.int .i64 z∧At5 (fun q=>∃ ids ms F',RbSt w wr b s ns L F E n kb q ids ms F') z) (fun x _=>4 - (intOf x).toNat)
 case atStart=>exact⟨0,rfl,.inl ⟨rfl,[],ns,F,H0.out⟩⟩
 case round =>
  obtain⟨z,rfl,hz⟩:=hrel
  clear H0
  rcases hz with ⟨rfl,ids,ms,F2,hs⟩|⟨rfl,ids,ms,F2,hs⟩|⟨rfl,ids,ms,F2,hs⟩|⟨rfl,ids,ms,F2,hs⟩|⟨rfl,ids,ms,F2,hs⟩
  ·
   have HS:=Lib.hid hs
   have H1:=Lib.hid (Rpart_q (SSP.out wr F2 HS.out.fr HS.out.sub) HS.out.ref.lt HE.out (by omega) HCO.out (k:=0) (by omega) (K:=0) (N:=L9) rfl HL9.out)
   unfold PartPost at H1
   rw [HM.out] at H1
   clear hs
   go_wp2_with fail
   refine H1.out.mono ?_
   rintro e w4 ⟨a2,c2,E2,rfl,hsp2,hE2,hf4⟩
   obtain⟨id,ms2,hb,hg2,hp2,hr2,_⟩:=buildQ_room HS.out.ref.1 HS.out.room (by omega) (HOK.out.part 0) (HEM.out) (HNW.out 0 (by omega))
   have H2:=IH.out w4 F2 ms a2 c2 E2 (HS.out.ref.fr hf4 (by simp)) HS.out.room hsp2 (by rw [hE2];exact HOK.out.part 0) (by
    have h1:=congrArg List.length hE2
    rw [map_spot_len] at h1
    have h2:=HE.out
    have h3:(partQ (2 ^ n) 0 (E.map SV.spot)).length≤E.length:=by
     unfold partQ
     rw [List.length_map]
     exact Nat.le_trans (List.length_filter_le _ _) (by rw [map_spot_len];exact Nat.le_refl _)
    omega) (fun i hi=>HEL.out i (by omega)) (by rw [hE2];exact HNL.out 0 (by omega))
   rw [hE2,hb] at H2
   unfold RTwo at H2
   have H2:=Lib.hid H2
   have HF4:=Lib.hid hf4
   have HB:=Lib.hid hb
   have HR2:=Lib.hid hr2
   obtain⟨m2,hm2⟩:∃ m2,E2.length=m2:=⟨_,rfl⟩
   rw [hm2] at H2 ⊢
   clear hf4 hb hg2 hp2 hr2 hsp2 hE2 H1 hm2
   go_wp2_with fail
   refine H2.out.mono ?_
   rintro e w6 ⟨rfl,F3,g1,g2,g3⟩
   have HF:=Lib.hid (HS.out.put (by omega) HF4.out g1 g2 g3 HR2.out HB.out)
   have hkl:=lBk HS.out.blk
   have hk1:kb<w4.heap.size:=by have:=HF4.out.size;omega
   have hb1:=(HF4.out.block kb hkl (by simp)).trans HS.out.blk
   have hb2:=(g2.block kb hk1 HS.out.off).trans hb1
   have hl:=kr_len HS.out.krr
   obtain rfl:=List.length_eq_zero_iff.1 hl
   have hc:_=some (Value.int .i64 0):=hEC hb2 0
   have hz:=hEF hb2 0
   have hl:=lBk hb2
   clear H2 g1 g2 g3 hkl hk1 hb1 hb2
   go_wp2
   go_roundw
   case rel=>exact⟨1,rfl,(.inr (.inl ⟨rfl,_,_,_,HF.out⟩))⟩
   case measure=>simp [intOf]
  ·
   have HS:=Lib.hid hs
   have H1:=Lib.hid (Rpart_q (SSP.out wr F2 HS.out.fr HS.out.sub) HS.out.ref.lt HE.out (by omega) HCO.out (k:=1) (by omega) (K:=1) (N:=L9) rfl HL9.out)
   unfold PartPost at H1
   rw [HM.out] at H1
   clear hs
   go_wp2_with fail
   refine H1.out.mono ?_
   rintro e w4 ⟨a2,c2,E2,rfl,hsp2,hE2,hf4⟩
   obtain⟨id,ms2,hb,hg2,hp2,hr2,_⟩:=buildQ_room HS.out.ref.1 HS.out.room (by omega) (HOK.out.part 1) (HEM.out) (HNW.out 1 (by omega))
   have H2:=IH.out w4 F2 ms a2 c2 E2 (HS.out.ref.fr hf4 (by simp)) HS.out.room hsp2 (by rw [hE2];exact HOK.out.part 1) (by
    have h1:=congrArg List.length hE2
    rw [map_spot_len] at h1
    have h2:=HE.out
    have h3:(partQ (2 ^ n) 1 (E.map SV.spot)).length≤E.length:=by
     unfold partQ
     rw [List.length_map]
     exact Nat.le_trans (List.length_filter_le _ _) (by rw [map_spot_len];exact Nat.le_refl _)
    omega) (fun i hi=>HEL.out i (by omega)) (by rw [hE2];exact HNL.out 1 (by omega))
   rw [hE2,hb] at H2
   unfold RTwo at H2
   have H2:=Lib.hid H2
   have HF4:=Lib.hid hf4
   have HB:=Lib.hid hb
   have HR2:=Lib.hid hr2
   obtain⟨m2,hm2⟩:∃ m2,E2.length=m2:=⟨_,rfl⟩
   rw [hm2] at H2 ⊢
   clear hf4 hb hg2 hp2 hr2 hsp2 hE2 H1 hm2
   go_wp2_with fail
   refine H2.out.mono ?_
   rintro e w6 ⟨rfl,F3,g1,g2,g3⟩
   have HF:=Lib.hid (HS.out.put (by omega) HF4.out g1 g2 g3 HR2.out HB.out)
   have hkl:=lBk HS.out.blk
   have hk1:kb<w4.heap.size:=by have:=HF4.out.size;omega
   have hb1:=(HF4.out.block kb hkl (by simp)).trans HS.out.blk
   have hb2:=(g2.block kb hk1 HS.out.off).trans hb1
   have hl:=kr_len HS.out.krr
   obtain⟨i0,rfl⟩:=List.length_eq_one_iff.1 hl
   have hc:_=some (Value.int .i64 0):=hEC hb2 1
   have hz:=hEF hb2 1
   have hl:=lBk hb2
   clear H2 g1 g2 g3 hkl hk1 hb1 hb2
   go_wp2
   go_roundw
   case rel=>exact⟨2,rfl,(.inr (.inr (.inl ⟨rfl,_,_,_,HF.out⟩)))⟩
   case measure=>simp [intOf]
  ·
   have HS:=Lib.hid hs
   have H1:=Lib.hid (Rpart_q (SSP.out wr F2 HS.out.fr HS.out.sub) HS.out.ref.lt HE.out (by omega) HCO.out (k:=2) (by omega) (K:=2) (N:=L9) rfl HL9.out)
   unfold PartPost at H1
   rw [HM.out] at H1
   clear hs
   go_wp2_with fail
   refine H1.out.mono ?_
   rintro e w4 ⟨a2,c2,E2,rfl,hsp2,hE2,hf4⟩
   obtain⟨id,ms2,hb,hg2,hp2,hr2,_⟩:=buildQ_room HS.out.ref.1 HS.out.room (by omega) (HOK.out.part 2) (HEM.out) (HNW.out 2 (by omega))
   have H2:=IH.out w4 F2 ms a2 c2 E2 (HS.out.ref.fr hf4 (by simp)) HS.out.room hsp2 (by rw [hE2];exact HOK.out.part 2) (by
    have h1:=congrArg List.length hE2
    rw [map_spot_len] at h1
    have h2:=HE.out
    have h3:(partQ (2 ^ n) 2 (E.map SV.spot)).length≤E.length:=by
     unfold partQ
     rw [List.length_map]
     exact Nat.le_trans (List.length_filter_le _ _) (by rw [map_spot_len];exact Nat.le_refl _)
    omega) (fun i hi=>HEL.out i (by omega)) (by rw [hE2];exact HNL.out 2 (by omega))
   rw [hE2,hb] at H2
   unfold RTwo at H2
   have H2:=Lib.hid H2
   have HF4:=Lib.hid hf4
   have HB:=Lib.hid hb
   have HR2:=Lib.hid hr2
   obtain⟨m2,hm2⟩:∃ m2,E2.length=m2:=⟨_,rfl⟩
   rw [hm2] at H2 ⊢
   clear hf4 hb hg2 hp2 hr2 hsp2 hE2 H1 hm2
   go_wp2_with fail
   refine H2.out.mono ?_
   rintro e w6 ⟨rfl,F3,g1,g2,g3⟩
   have HF:=Lib.hid (HS.out.put (by omega) HF4.out g1 g2 g3 HR2.out HB.out)
   have hkl:=lBk HS.out.blk
   have hk1:kb<w4.heap.size:=by have:=HF4.out.size;omega
   have hb1:=(HF4.out.block kb hkl (by simp)).trans HS.out.blk
   have hb2:=(g2.block kb hk1 HS.out.off).trans hb1
   have hl:=kr_len HS.out.krr
   obtain⟨i0,i1,rfl⟩:=len2 hl
   have hc:_=some (Value.int .i64 0):=hEC hb2 2
   have hz:=hEF hb2 2
   have hl:=lBk hb2
   clear H2 g1 g2 g3 hkl hk1 hb1 hb2
   go_wp2
   go_roundw
   case rel=>exact⟨3,rfl,(.inr (.inr (.inr (.inl ⟨rfl,_,_,_,HF.out⟩))))⟩
   case measure=>simp [intOf]
  ·
   have HS:=Lib.hid hs
   have H1:=Lib.hid (Rpart_q (SSP.out wr F2 HS.out.fr HS.out.sub) HS.out.ref.lt HE.out (by omega) HCO.out (k:=3) (by omega) (K:=3) (N:=L9) rfl HL9.out)
   unfold PartPost at H1
   rw [HM.out] at H1
   clear hs
   go_wp2_with fail
   refine H1.out.mono ?_
   rintro e w4 ⟨a2,c2,E2,rfl,hsp2,hE2,hf4⟩
   obtain⟨id,ms2,hb,hg2,hp2,hr2,_⟩:=buildQ_room HS.out.ref.1 HS.out.room (by omega) (HOK.out.part 3) (HEM.out) (HNW.out 3 (by omega))
   have H2:=IH.out w4 F2 ms a2 c2 E2 (HS.out.ref.fr hf4 (by simp)) HS.out.room hsp2 (by rw [hE2];exact HOK.out.part 3) (by
    have h1:=congrArg List.length hE2
    rw [map_spot_len] at h1
    have h2:=HE.out
    have h3:(partQ (2 ^ n) 3 (E.map SV.spot)).length≤E.length:=by
     unfold partQ
     rw [List.length_map]
     exact Nat.le_trans (List.length_filter_le _ _) (by rw [map_spot_len];exact Nat.le_refl _)
    omega) (fun i hi=>HEL.out i (by omega)) (by rw [hE2];exact HNL.out 3 (by omega))
   rw [hE2,hb] at H2
   unfold RTwo at H2
   have H2:=Lib.hid H2
   have HF4:=Lib.hid hf4
   have HB:=Lib.hid hb
   have HR2:=Lib.hid hr2
   obtain⟨m2,hm2⟩:∃ m2,E2.length=m2:=⟨_,rfl⟩
   rw [hm2] at H2 ⊢
   clear hf4 hb hg2 hp2 hr2 hsp2 hE2 H1 hm2
   go_wp2_with fail
   refine H2.out.mono ?_
   rintro e w6 ⟨rfl,F3,g1,g2,g3⟩
   have HF:=Lib.hid (HS.out.put (by omega) HF4.out g1 g2 g3 HR2.out HB.out)
   have hkl:=lBk HS.out.blk
   have hk1:kb<w4.heap.size:=by have:=HF4.out.size;omega
   have hb1:=(HF4.out.block kb hkl (by simp)).trans HS.out.blk
   have hb2:=(g2.block kb hk1 HS.out.off).trans hb1
   have hl:=kr_len HS.out.krr
   obtain⟨i0,i1,i2,rfl⟩:=len3 hl
   have hc:_=some (Value.int .i64 0):=hEC hb2 3
   have hz:=hEF hb2 3
   have hl:=lBk hb2
   clear H2 g1 g2 g3 hkl hk1 hb1 hb2
   go_wp2
   go_roundw
   case rel=>exact⟨4,rfl,(.inr (.inr (.inr (.inr ⟨rfl,_,_,_,HF.out⟩))))⟩
   case measure=>simp [intOf]
  ·obtain⟨i0,i1,i2,i3,rfl⟩:=len4 (kr_len hs.krr)
   have hb:=hs.blk
   have o0:_=some (Value.int .i64 i0):=hEC hb 0
   have o1:_=some (Value.int .i64 i1):=hEC hb 1
   have o2:_=some (Value.int .i64 i2):=hEC hb 2
   have o3:_=some (Value.int .i64 i3):=hEC hb 3
   have ol:=lBk hb
   have HFI:=Lib.hid (fin4_ok (s:=s) hs.krr)
   have HJ:=Lib.hid (fun w1 (hf:Fr [] wr w1)=>RJoin_calls (hs.ref.fr hf (by simp)) (by have:=room_dums hs.ref.1 hs.room;omega) (k4l [i0,i1,i2,i3]))
   have HR:=Lib.hid hs
   unfold RTwo at HJ
   clear hs hb
   go_wp2_with fail
   refine (HJ.out _ (by (repeat first|exact Fr.refl _ _|assumption|apply Fr.n|apply Fr.d|apply Fr.a|refine Fr.s ?_ (.inr (by simp;try omega)) _))).mono ?_
   rintro e w5 ⟨rfl,F5,h1,h2,h3⟩
   have H5:=Lib.hid (And.intro h1 (And.intro h2 h3))
   clear h1 h2 h3 o0 o1 o2 o3 ol HJ
   go_wp2
   go_ret2
   rw [HFI.out]
   obtain⟨h1,h2,h3⟩:=H5.out
   have hs:=HR.out
   refine⟨rfl,F5,h1,hs.fr.trans (Fr.trans (F:=F2) (by (repeat first|exact Fr.refl _ _|assumption|apply Fr.n|apply Fr.d|apply Fr.a|refine Fr.s ?_ (.inr (by simp;try omega)) _)) h2 fun x hx=>.inl hx) hs.sub,fun x hx=>?_⟩
   rcases h3 x hx with h9|h9
   ·exact hs.sub x h9
   ·have:=hs.fr.size;exact .inr (Nat.le_trans this h9)
theorem Rbuild_all {s:Int} {L:List Tr} {b:Nat}:∀ n,n≤256→RBuildAt s L b n
 | 0,_=>fun w F ns a c E hS hr hsp hok hlen hE hN=>by
  cases E with
  | nil=>exact Rbuild_nil hS (by have:=room_dums hS.1 hr;omega)
  | cons e E=>exact Rbuild_leaf hS hsp.rd hlen
 | n+1,hn=>fun w F ns a c E hS hr hsp hok hlen hE hN=>by
  cases E with
  | nil=>exact Rbuild_nil hS (by have:=room_dums hS.1 hr;omega)
  | cons e E=>exact Rbuild_succ hn (Rbuild_all n (by omega)) hS hr hsp hok hlen hE hN
end Go.Proofs.YtdanghnadbkhfaaGreat
end
section
namespace Go.Proofs.YtdanghnadbkhfaaGreat
open Go Go.RowKit Rg Mp Hp Qs
set_option maxHeartbeats 2000000 in
theorem RLevel_calls {w:World} {b:Nat} {s:Int} {ns:List K4} {F:List Nat} (hS:RefAt w b s ns F) (id:Int) :
  Calls Tryz.prog 43 #[.pointer (some ⟨b,0,none⟩),.int .i64 id] w fun e w'=>e=.returned (.int .i64 (lvl s (levs s ns) id))∧Fr [] w w':=by
 obtain⟨hgood,nv,hI,rfl⟩:=hS
 obtain⟨na,nc,rfl,_,_⟩:=oFM hI.nodes
 have b0:=hEC hI.blk 0
 have b1:=hEC hI.blk 1
 have HI:=Lib.hid hI
 have Hgood:=Lib.hid hgood
 clear hI hgood
 go_enter Tryz.func43,Tryz.ntmps43
 go_wp2_with fail
 refine (level_ref Hgood.out (Reads.of_owns HI.out.nodes) id).mono ?_
 rintro e w' ⟨rfl,o,rfl⟩
 go_wp2
 go_ret
 exact⟨rfl,by (repeat first|exact Fr.refl _ _|assumption|apply Fr.n|apply Fr.d|apply Fr.a|refine Fr.s ?_ (.inr (by simp;try omega)) _)⟩
set_option maxHeartbeats 2000000 in
theorem RKids_calls {w:World} {b:Nat} {s:Int} {ns:List K4} {F:List Nat} (hS:RefAt w b s ns F) (id:Int) :
  Calls Tryz.prog 44 #[.pointer (some ⟨b,0,none⟩),.int .i64 id] w fun e w'=>e=.returned (.tuple #[kv (kidsOf s ns id).1,.bool (kidsOf s ns id).2])∧Fr [] w w':=by
 obtain⟨hgood,nv,hI,rfl⟩:=hS
 obtain⟨na,nc,rfl,hna,_⟩:=oFM hI.nodes
 have b0:=hEC hI.blk 0
 have b1:=hEC hI.blk 1
 have hb:=lBk hI.blk
 have hs1:2≤s:=hgood.1
 have hs2:s≤8:=hgood.2.1
 have hn:ns.length≤1048576:=by have:=hgood.2.2.1;omega
 have HI:=Lib.hid hI
 have Hna:=Lib.hid hna
 clear hI hgood hna
 unfold kidsOf
 by_cases hst:id<s
 ·rw [if_pos hst]
  unfold kv
  go_enter Tryz.func44,Tryz.ntmps44
  go_wp2
  (refine wRT (by kernel_rfl) (by kernel_rfl) ?_)
  go_wp2
  refine Strict.intro rfl ?_
  go_wp2
  exact bodyPost_ret (v:=.tuple #[.agg #[.int .i64 0,.int .i64 0,.int .i64 0,.int .i64 0],.bool false]) (by simp [results,Tryz.results44,go_sem]) rfl ⟨rfl,by (repeat first|exact Fr.refl _ _|assumption|apply Fr.n|apply Fr.d|apply Fr.a|refine Fr.s ?_ (.inr (by simp;try omega)) _)⟩
 ·rw [if_neg hst]
  by_cases hfar:s+ns.length≤id
  ·rw [List.getElem?_eq_none (by omega)]
   unfold kv
   go_enter Tryz.func44,Tryz.ntmps44
   go_wp2
   (refine wRT (by kernel_rfl) (by kernel_rfl) ?_)
   go_wp2
   refine Strict.intro rfl ?_
   go_wp2
   exact bodyPost_ret (v:=.tuple #[.agg #[.int .i64 0,.int .i64 0,.int .i64 0,.int .i64 0],.bool false]) (by simp [results,Tryz.results44,go_sem]) rfl ⟨rfl,by (repeat first|exact Fr.refl _ _|assumption|apply Fr.n|apply Fr.d|apply Fr.a|refine Fr.s ?_ (.inr (by simp;try omega)) _)⟩
  ·obtain⟨i,rfl⟩:∃ i:Nat,id=s+i:=⟨(id - s).toNat,by omega⟩
   have hi:i<ns.length:=by omega
   rw [show (s+(i:Int) - s).toNat=i by omega,List.getElem?_eq_getElem hi]
   obtain⟨g,rfl⟩:=Hna.out (by omega)
   obtain⟨f0,f1,f2,f3⟩:=flat_get (List.getElem?_eq_getElem hi)
   rw [Nat.mul_comm] at f0 f1 f2 f3
   obtain⟨k,hk⟩:∃ k,k=ns[i]:=⟨_,rfl⟩
   rw [← hk] at f0 f1 f2 f3 ⊢
   have e0:=owns_cell HI.out.nodes rfl f0
   have e1:=owns_cell HI.out.nodes rfl f1
   have e2:=owns_cell HI.out.nodes rfl f2
   have e3:=owns_cell HI.out.nodes rfl f3
   have hg:=oLT HI.out.nodes rfl
   have hw1:IntKind.i64.wrap (s+↑i - s)=↑i:=IntWalk.i64_in _ (by omega) |>.trans (by omega)
   clear f0 f1 f2 f3 hk hst hfar
   unfold kv
   go_enter Tryz.func44,Tryz.ntmps44
   go_wp2
   (refine wRT (by kernel_rfl) (by kernel_rfl) ?_)
   go_wp2
   refine Strict.intro rfl ?_
   go_wp2
   (refine wRT (by kernel_rfl) (by kernel_rfl) ?_)
   go_wp2
   refine Strict.intro rfl ?_
   go_wp2
   exact bodyPost_ret (v:=.tuple #[.agg #[.int .i64 k.a,.int .i64 k.b,.int .i64 k.c,.int .i64 k.d],.bool true]) (by simp [results,Tryz.results44,go_sem]) rfl ⟨rfl,by (repeat first|exact Fr.refl _ _|assumption|apply Fr.n|apply Fr.d|apply Fr.a|refine Fr.s ?_ (.inr (by simp;try omega)) _)⟩
set_option maxHeartbeats 2000000 in
theorem RData_calls {w:World} {b:Nat} {s:Int} {ns:List K4} {F:List Nat} (hS:RefAt w b s ns F) :
  Calls Tryz.prog 24 #[.pointer (some ⟨b,0,none⟩)] w (CopyPost w s ns):=by
 obtain⟨hgood,nv,hI,rfl⟩:=hS
 obtain⟨na,nc,rfl,_,_⟩:=oFM hI.nodes
 have b0:=hEC hI.blk 0
 have b1:=hEC hI.blk 1
 have hb:=lBk hI.blk
 have HI:=Lib.hid hI
 have Hgood:=Lib.hid hgood
 clear hI hgood
 go_enter Tryz.func24,Tryz.ntmps24
 go_wp2_with fail
 refine (copied_ref (s:=s) (by have:=Hgood.out.2.2.1;omega) ((Reads.of_owns HI.out.nodes).fr (by (repeat first|exact Fr.refl _ _|assumption|apply Fr.n|apply Fr.d|apply Fr.a|refine Fr.s ?_ (.inr (by simp;try omega)) _)))).mono ?_
 rintro e w1 ⟨v,rfl,ho,hf⟩
 have hl:w1.heap[w.heap.size]?=some (.cells #[.int .i64 0,.slice none 0 0] 24 (0,0)):=(hf.block _ (by rw [hAz];omega) (by simp)).trans (by (repeat first|rw [if_pos (by omega)]|rw [if_neg (by omega)]|rw [hDR]|rw [hDN]|rw [hAz]|rw [hSz]|rw [hAC]|rw [hSC]|rw [oMS]|rw [uPC]|rw [lSZ]|rw [lSS]|rfl))
 have l0:=hEC hl 0
 have l1:=hEC hl 1
 have g0:=hEF hl 0
 have g1:=hEF hl 1
 obtain⟨va,vc,rfl,hva,hvn⟩:=oFM ho
 have hne:(Value.slice va ns.length vc).ownBlock≠some w.heap.size:=fun e=>by
  have:=owns_ge ho e;rw [hAz] at this;omega
 have Ho:=Lib.hid ho
 have Hne:=Lib.hid hne
 have Hf:=Lib.hid (((Fr.refl [] w).alloc _).trans0 hf)
 clear ho hva hvn hf hl hne
 go_wp2
 exact bodyPost_ret (v:=.agg #[.int .i64 s,.slice va ns.length vc]) (by simp [results,Tryz.results24,go_sem,l0,l1]) rfl
  ⟨_,rfl,oOB (base:=w.heap.size) (owns_base Ho.out (by rw [hAz];omega)) fun x hx=>heap_setCell2 _ _ _ _ _ _ (fun e=>Hne.out (by rw [hx,e])),by repeat (first|exact Hf.out|apply Fr.drewN|apply Fr.drew|apply Fr.alloc|refine Fr.setCell ?_ (Or.inr (by simp)) _)⟩
end Go.Proofs.YtdanghnadbkhfaaGreat
end
section
namespace Go.Proofs.YtdanghnadbkhfaaGreat
open Go Go.RowKit Rg Mp Hp Qs Ev
def refR (b:Nat) (s:Int) (ns:List K4):Res where
 holds w F:=RefAt w b s ns F
 keep:=fun h hk=>h.keep hk
 lt:=fun h=>h.lt
def LoadedPost (w:World) (s:Int) (ns:List K4) (e:Ending) (w':World):Prop :=
 (ns.length≤100∧GoodQ s ns→∃ b r,e=.returned (.tuple #[.pointer (some ⟨b,0,none⟩),.pointer (some ⟨r,0,none⟩),.bool true])∧Has w w' [sTR b s ns,refR r s ns]) ∧
 (¬ (ns.length≤100∧GoodQ s ns)→e=.returned (.tuple #[.pointer none,.pointer none,.bool false])∧Fr [] w w')
set_option maxHeartbeats 4000000 in
theorem loaded_q {w:World} {s:Int} {ns:List K4} {v:Value} (hv:Reads w v ns.length 4 (flat ns)) :
  Calls Tryz.prog 7 #[.agg #[.int .i64 s,v]] w (LoadedPost w s ns):=by
 have hvk:=hv
 obtain⟨_,a,c,rfl,_⟩:=hv
 have Hv:=Lib.hid hvk
 clear hvk
 by_cases hl:100<ns.length
 ·have hd:decide ((100:Int)<↑ns.length)=true:=by simp;omega
  have hd2:decide (100<ns.length)=true:=by simpa using hl
  have Hl:=Lib.hid hl
  clear hl
  go_enter Tryz.func7,Tryz.ntmps7
  go_wp2
  go_ret3
  exact⟨fun h=>by have:=Hl.out;omega,fun _=>⟨rfl,by (repeat first|exact Fr.refl _ _|assumption|apply Fr.n|apply Fr.d|apply Fr.a|refine Fr.s ?_ (.inr (by simp;try omega)) _)⟩⟩
 have hd:decide ((100:Int)<↑ns.length)=false:=by simp;omega
 have hd2:decide (100<ns.length)=false:=by simpa using hl
 have Hl:=Lib.hid hl
 clear hl
 by_cases hg:GoodQ s ns
 ·have Hg:=Lib.hid hg
  clear hg
  go_enter Tryz.func7,Tryz.ntmps7
  go_wp2_with fail
  refine (R25Right_calls (s:=s) (by have:=Hl.out;omega) (Hv.out.fr (by (repeat first|exact Fr.refl _ _|assumption|apply Fr.n|apply Fr.d|apply Fr.a|refine Fr.s ?_ (.inr (by simp;try omega)) _)))).mono ?_
  rintro e w1 ⟨rfl,hf⟩
  rw [decide_eq_true Hg.out]
  have hb:=(hf.block w.heap.size (by simp) (by simp)).trans (show _=some (.cells #[.int .i64 s,.slice a ns.length c] 24 (0,0)) by (repeat first|rw [if_pos (by omega)]|rw [if_neg (by omega)]|rw [hDR]|rw [hDN]|rw [hAz]|rw [hSz]|rw [hAC]|rw [hSC]|rw [oMS]|rw [uPC]|rw [lSZ]|rw [lSS]|rfl))
  have c0:=hEC hb 0
  have c1:=hEC hb 1
  have hbl:=lBk hb
  have Hb:=Lib.hid hb
  have Hf:=Lib.hid (Fr.trans0 (by (repeat first|exact Fr.refl _ _|assumption|apply Fr.n|apply Fr.d|apply Fr.a|refine Fr.s ?_ (.inr (by simp;try omega)) _):Fr [] w _) hf)
  clear hf hb
  go_wp2_with fail
  refine (Load_calls (s:=s) (by have:=Hl.out;omega) (Hv.out.fr Hf.out)).mono ?_
  rintro e w2 ⟨h1,_⟩
  obtain⟨b,F,rfl,hS,hf,hF⟩:=h1 Hg.out
  have h2:Has w w2 [sTR b s ns]:=(Has.nil Hf.out).new hf hS hF
  have hb:=(hf.block _ (lBk Hb.out) (by simp)).trans Hb.out
  clear c0 c1 hbl
  have c0:=hEC hb 0
  have c1:=hEC hb 1
  have hbl:=lBk hb
  have H2:=Lib.hid h2
  clear h1 hS hf hF h2 hb
  go_wp2_with fail
  refine (RLoad_calls (s:=s) (by have:=Hl.out;omega) (Hv.out.fr H2.out.fr)).mono ?_
  rintro e w3 ⟨h1,_⟩
  obtain⟨r,G,rfl,hR,hf,hG⟩:=h1 Hg.out
  have H3:=Lib.hid (show Has w w3 [refR r s ns,sTR b s ns] from H2.out.new hf hR hG)
  clear h1 hR hf hG c0 c1 hbl
  go_wp2
  go_ret3
  exact⟨fun _=>⟨b,r,rfl,H3.out.swap⟩,fun h=>absurd ⟨by have:=Hl.out;omega,Hg.out⟩ h⟩
 ·have Hg:=Lib.hid hg
  clear hg
  go_enter Tryz.func7,Tryz.ntmps7
  go_wp2_with fail
  refine (R25Right_calls (s:=s) (by have:=Hl.out;omega) (Hv.out.fr (by (repeat first|exact Fr.refl _ _|assumption|apply Fr.n|apply Fr.d|apply Fr.a|refine Fr.s ?_ (.inr (by simp;try omega)) _)))).mono ?_
  rintro e w1 ⟨rfl,hf⟩
  rw [decide_eq_false Hg.out]
  have Hf:=Lib.hid (Fr.trans0 (by (repeat first|exact Fr.refl _ _|assumption|apply Fr.n|apply Fr.d|apply Fr.a|refine Fr.s ?_ (.inr (by simp;try omega)) _):Fr [] w _) hf)
  clear hf
  go_wp2
  go_ret3
  exact⟨fun h=>absurd h.2 Hg.out,fun _=>⟨rfl,Hf.out⟩⟩
end Go.Proofs.YtdanghnadbkhfaaGreat
end
section
namespace Go.Proofs.YtdanghnadbkhfaaGreat
open Go Go.RowKit Rg Mp Hp Qs Ev Bn
def lcells (f:FV):Array Value:=#[.bool false,.slice f.2.1.2.1 (zd (f.2.1.1:Int)).length f.2.1.2.2,.bool false,.slice f.2.2.1.2.1 (zd (f.2.2.1.1:Int)).length f.2.2.1.2.2,.bool false,.slice f.2.2.2.1.2.1 (zd (f.2.2.2.1.1:Int)).length f.2.2.2.1.2.2,.bool false,.slice f.2.2.2.2.2.1 (zd (f.2.2.2.2.1:Int)).length f.2.2.2.2.2.2]
theorem lcells_zero (ok:Bool):lcells (zFV ok)=#[.bool false,.slice none 0 0,.bool false,.slice none 0 0,.bool false,.slice none 0 0,.bool false,.slice none 0 0]:=by
 simp [lcells,zFV,zBV,zd,dg_zero]
theorem lcells_store (f:FV) (ok:Bool) (u0 u1 u2 u3:BV):((((((((lcells f).setIfInBounds 0 (.bool false)).setIfInBounds 1 (.slice u0.2.1 (zd (u0.1:Int)).length u0.2.2)).setIfInBounds 2 (.bool false)).setIfInBounds 3 (.slice u1.2.1 (zd (u1.1:Int)).length u1.2.2)).setIfInBounds 4 (.bool false)).setIfInBounds 5 (.slice u2.2.1 (zd (u2.1:Int)).length u2.2.2)).setIfInBounds 6 (.bool false)).setIfInBounds 7 (.slice u3.2.1 (zd (u3.1:Int)).length u3.2.2)=lcells (ok,u0,u1,u2,u3):=by
 simp [lcells]
theorem results_cell3' {fn:Func} {p u v:Tmp} {ty:TypeId} (h:fn.results=#[.cell p ty,.tmp u,.tmp v]) (tmps:Array Value) (P:Program) (w:World) :
  (results fn tmps).run P w=((asAddr (tmps.getD p undef)).run P w).andThen fun a w₁=>((loadVar ty a).run P w₁).andThen fun x w₂=>.ok (.tuple #[x,tmps.getD u undef,tmps.getD v undef]) w₂:=by
 simp only [results,h]
 simp [Sem.run_bind,Result.andThen]
theorem four_result {fn:Func} {p u v:Tmp} (h:fn.results=#[.cell p 42,.tmp u,.tmp v]) {tmps:Array Value} {b:Nat} {w':World} {f:FV} {i j:Value} (h4:tmps.getD p undef=.pointer (some ⟨b,0,none⟩)) (hb:w'.heap[b]?=some (.cells (lcells f) 42 (0,0))) (h5:tmps.getD u undef=i) (h6:tmps.getD v undef=j) :
  (results fn tmps).run Tryz.prog w'=.ok (.tuple #[.agg (lcells f),i,j]) w':=by
 rw [results_cell3' h,h4]
 simp only [asAddr,Sem.run_pure,Result.andThen]
 rw [run_loadVar_row w' b _ _ _ _ _ hb Tryz.underlying42 rfl (by kernel_rfl)]
 simp only [h5,h6]
def frQ (s:Int) (ns:List K4) (id:Int):Option Frm:=if lvl s (levs s ns) id<0 then none else frT (tr s ns id).ht (tr s ns id)
def BoundsPost (W:World) (b:Nat) (s:Int) (ns:List K4) (id:Int) (Ps:List Res) (e:Ending) (w':World):Prop :=
 ∃ f L,e=.returned (.tuple #[.agg (lcells f),.bool f.1,.int .i64 (knownQ s ns id)])∧Has W w' (sTR b s ns::poolR L::Ps)∧FrOk (frQ s ns id) f∧InL L f
theorem has_framer {W w:World} {b:Nat} {s:Int} {ns:List K4} {Ps:List Res} (h:Has W w (sTR b s ns::Ps)):Has W ((w.alloc (.map #[] 0)).alloc (.cells #[.pointer (some ⟨b,0,none⟩),.map (some w.heap.size)] 96 (0,0))) (frL b (w.heap.size+1) w.heap.size s ns [] [] Ps):=by
 have h1:Has W (w.alloc (.map #[] 0)) (mapF w.heap.size []::sTR b s ns::Ps):=h.new (F:=[w.heap.size]) ((Fr.refl [] w).alloc _) ⟨MapIs.made w,rfl⟩ (by simp)
 have h2:=pool_nil (hAL h1 #[.pointer (some ⟨b,0,none⟩),.map (some w.heap.size)] 96).swap
 rw [show (w.alloc (.map #[] 0)).heap.size=w.heap.size+1 by simp] at h2
 exact h2
set_option maxHeartbeats 8000000 in
theorem Bounds_q {W w:World} {b:Nat} {s:Int} {ns:List K4} {Ps:List Res} (h:Has W w (sTR b s ns::Ps)) (id:Int) :
  Calls Tryz.prog 13 #[.pointer (some ⟨b,0,none⟩),.int .i64 id] w (BoundsPost W b s ns id Ps):=by
 have hg:=has_good h
 have HN:=Lib.hid (fun w1 Qs (h1:Has W w1 (sTR b s ns::Qs))=>known_q h1 id)
 have H:=Lib.hid h
 unfold BoundsPost
 unfold knownQ at HN
 unfold knownQ frQ
 by_cases h0:lvl s (levs s ns) id<0
 ·simp only [if_pos h0] at HN ⊢
  clear h hg
  go_enter Tryz.func13,Tryz.ntmps13
  go_wp2_with fail
  have h1:=(hAL H.out #[.bool false,.slice none 0 0,.bool false,.slice none 0 0,.bool false,.slice none 0 0,.bool false,.slice none 0 0] 42).swap
  refine (HN.out _ _ h1).mono ?_
  rintro e w1 ⟨rfl,hs,hf⟩
  obtain⟨rq,hrq⟩:∃ r4,w.heap.size=r4:=⟨_,rfl⟩
  rw [hrq] at hs ⊢
  have hr:=hs.swap.blk
  have r0:=hEC hr 0
  have r1:=hEC hr 1
  have r2:=hEC hr 2
  have r3:=hEC hr 3
  have r4:=hEC hr 4
  have r5:=hEC hr 5
  have r6:=hEC hr 6
  have r7':=hEC hr 7
  have rz0:=hEF hr 0
  have rz1:=hEF hr 1
  have rz2:=hEF hr 2
  have rz3:=hEF hr 3
  have rz4:=hEF hr 4
  have rz5:=hEF hr 5
  have rz6:=hEF hr 6
  have rz7':=hEF hr 7
  have rl:=lBk hr
  have H1:=Lib.hid hs
  clear hs hf hr h1 hrq
  go_wp2
  refine bodyPost_ret (four_result rfl (b:=rq) (f:=zFV false) rfl ?_ rfl rfl) rfl ⟨zFV false,[zBV],rfl,?_,by simp [FrOk,coF,zFV,zBV],by simp [InL,zFV]⟩
  ·have h2:=hST (hST (hST (hST (hST (hST (hST (hST H1.out.swap 0 (.bool false)) 1 (.slice none 0 0)) 2 (.bool false)) 3 (.slice none 0 0)) 4 (.bool false)) 5 (.slice none 0 0)) 6 (.bool false)) 7 (.slice none 0 0)
   rw [lcells_zero]
   exact h2.blk
  ·have h2:=hST (hST (hST (hST (hST (hST (hST (hST H1.out.swap 0 (.bool false)) 1 (.slice none 0 0)) 2 (.bool false)) 3 (.slice none 0 0)) 4 (.bool false)) 5 (.slice none 0 0)) 6 (.bool false)) 7 (.slice none 0 0)
   exact (z_in (pool_nil h2.drop)).swap
 ·simp only [if_neg h0] at HN ⊢
  obtain⟨n,hn,hn256,hi⟩:=level_nat hg (id:=id) (by omega)
  have HT:=Lib.hid (full_ht n hi.2.2.1)
  have HC:=Lib.hid (fun fb rb w1 Qs L mm (h1:Has W w1 (frL b fb rb s ns L mm Qs)) (hI:FInv s ns L mm)=>frame_q (W:=W) n hn256 w1 Qs L mm id _ h1 hI hi)
  clear h hg h0 hn hi
  have hmm:=@run_makeMap Tryz.prog
  go_enter Tryz.func13,Tryz.ntmps13
  go_wp2_with fail
  have h1:=(hAL H.out #[.bool false,.slice none 0 0,.bool false,.slice none 0 0,.bool false,.slice none 0 0,.bool false,.slice none 0 0] 42).swap
  refine (HN.out _ _ h1).mono ?_
  rintro e w1 ⟨rfl,hs,hf⟩
  obtain⟨rq,hrq⟩:∃ r4,w.heap.size=r4:=⟨_,rfl⟩
  rw [hrq] at hs ⊢
  have hr:=hs.swap.blk
  have r0:=hEC hr 0
  have r1:=hEC hr 1
  have r2:=hEC hr 2
  have r3:=hEC hr 3
  have r4:=hEC hr 4
  have r5:=hEC hr 5
  have r6:=hEC hr 6
  have r7':=hEC hr 7
  have rz0:=hEF hr 0
  have rz1:=hEF hr 1
  have rz2:=hEF hr 2
  have rz3:=hEF hr 3
  have rz4:=hEF hr 4
  have rz5:=hEF hr 5
  have rz6:=hEF hr 6
  have rz7':=hEF hr 7
  have rl:=lBk hr
  have H1:=Lib.hid hs
  clear hs hf hr h1 hrq
  go_wp2_with fail
  have h2:=has_framer H1.out
  refine (HC.out _ _ _ _ _ _ h2 (by intro e he;cases he)).mono ?_
  rintro e w2 ⟨⟨ok,f0,f1,f2,f3⟩,L2,mm2,rfl,h5,hI5,hs5,hok5,hin5⟩
  clear r0 r1 r2 r3 r4 r5 r6 r7' rz0 rz1 rz2 rz3 rz4 rz5 rz6 rz7' rl h2
  have h5:=h5.ord 5 [4,0,3]
  simp only [List.filterMap_cons,List.filterMap_nil,List.getElem?_cons_zero,List.getElem?_cons_succ,List.drop_succ_cons,List.drop_zero,List.cons_append,List.nil_append] at h5
  have hr:=h5.blk
  have r0:=hEC hr 0
  have r1:=hEC hr 1
  have r2:=hEC hr 2
  have r3:=hEC hr 3
  have r4:=hEC hr 4
  have r5:=hEC hr 5
  have r6:=hEC hr 6
  have r7':=hEC hr 7
  have rz0:=hEF hr 0
  have rz1:=hEF hr 1
  have rz2:=hEF hr 2
  have rz3:=hEF hr 3
  have rz4:=hEF hr 4
  have rz5:=hEF hr 5
  have rz6:=hEF hr 6
  have rz7':=hEF hr 7
  have rl:=lBk hr
  have H5:=Lib.hid h5
  have HOK5:=Lib.hid (And.intro hok5 hin5)
  clear h5 hr hI5 hs5 hok5 hin5
  simp only [fvV,fCL]
  go_wp2
  go_region
  have h0:=H5.out
  have h1:=hST (hST (hST (hST h0 0 (.bool false)) 1 (.slice f0.2.1 (zd (f0.1:Int)).length f0.2.2)) 2 (.bool false)) 3 (.slice f1.2.1 (zd (f1.1:Int)).length f1.2.2)
  have h2:=hST (hST (hST (hST h1 4 (.bool false)) 5 (.slice f2.2.1 (zd (f2.1:Int)).length f2.2.2)) 6 (.bool false)) 7 (.slice f3.2.1 (zd (f3.1:Int)).length f3.2.2)
  rw [show (#[Value.bool false,.slice none 0 0,.bool false,.slice none 0 0,.bool false,.slice none 0 0,.bool false,.slice none 0 0]:Array Value)=lcells (zFV false) from (lcells_zero false).symm,lcells_store _ ok] at h2
  have h2:=h2.step (((Fr.refl [] _).alloc (.cells (fCL (ok,f0,f1,f2,f3)) 98)).drew)
  simp only [fCL] at h2
  have H6:=Lib.hid h2
  clear h0 h1 h2
  go_wp2
  refine bodyPost_ret (four_result rfl (b:=rq) (f:=(ok,f0,f1,f2,f3)) rfl ?_ rfl rfl) rfl ⟨(ok,f0,f1,f2,f3),L2,rfl,?_,by rw [HT.out];exact HOK5.out.1,HOK5.out.2⟩
  ·exact H6.out.blk
  ·exact H6.out.drop.swap
end Go.Proofs.YtdanghnadbkhfaaGreat
end
section
namespace Go.Proofs.Pt
structure PC where
 x:Int
 y:Int
 st:Int
 deriving DecidableEq
def placeB (x y:Int):Bool:=decide (-1048576≤x∧x≤1048576∧-1048576≤y∧y≤1048576)
def pBef (a b:PC):Bool:=decide (a.y<b.y∨a.y=b.y∧a.x<b.x)
theorem pBef_asymm {a b:PC} (h:pBef a b=true) (h':pBef b a=true):False:=by simp only [pBef,decide_eq_true_eq] at h h';omega
theorem pBef_trans {a b c:PC} (h:pBef a b=true) (h':pBef b c=true):pBef a c=true:=by simp only [pBef,decide_eq_true_eq] at *;omega
theorem pBef_weak {a b c:PC} (h:pBef b a=false) (h':pBef c b=false):pBef c a=false:=by simp only [pBef,decide_eq_false_iff_not] at *;omega
def samePos (a b:PC):Bool:=decide (a.x=b.x∧a.y=b.y)
theorem samePos_iff {a b:PC} (h:pBef b a=false):samePos a b=!pBef a b:=by
 rw [Bool.eq_iff_iff]
 simp only [samePos,pBef,decide_eq_true_eq,decide_eq_false_iff_not,Bool.not_eq_true'] at *
 omega
def strictB:List PC→Bool
 | []=>true
 | [_]=>true
 | a::b::l=>pBef a b && strictB (b::l)
theorem strict_pair:∀ {l:List PC},strictB l=true→l.Pairwise fun a b=>pBef a b=true
 | [],_=>List.Pairwise.nil
 | [a],_=>by simp
 | a::b::l,h=>by
  simp only [strictB,Bool.and_eq_true] at h
  have ih:=strict_pair h.2
  refine List.Pairwise.cons ?_ ih
  intro c hc
  rw [List.mem_cons] at hc
  rcases hc with rfl|hc
  ·exact h.1
  ·exact pBef_trans h.1 ((List.pairwise_cons.1 ih).1 c hc)
theorem strict_of_pair:∀ {l:List PC},(l.Pairwise fun a b=>pBef a b=true)→strictB l=true
 | [],_=>rfl
 | [a],_=>rfl
 | a::b::l,h=>by
  obtain⟨h1,h2⟩:=List.pairwise_cons.1 h
  simp only [strictB,Bool.and_eq_true]
  exact⟨h1 b (by simp),strict_of_pair h2⟩
theorem strict_perm_eq:∀ {l m:List PC},(l.Pairwise fun a b=>pBef a b=true)→(m.Pairwise fun a b=>pBef a b=true)→l.Perm m→l=m
 | [],m,_,_,h=>(List.perm_nil.1 h.symm).symm
 | a::l,[],_,_,h=>by have:=h.length_eq;simp at this
 | a::l,b::m,hl,hm,h=>by
  obtain⟨l1,l2⟩:=List.pairwise_cons.1 hl
  obtain⟨m1,m2⟩:=List.pairwise_cons.1 hm
  have ha:a∈b::m:=h.subset (by simp)
  have hb:b∈a::l:=h.symm.subset (by simp)
  rw [List.mem_cons] at ha hb
  rcases ha with rfl|ha
  ·rw [strict_perm_eq l2 m2 (List.Perm.cons_inv h)]
  ·rcases hb with rfl|hb
   ·rw [strict_perm_eq l2 m2 (List.Perm.cons_inv h)]
   ·exact (pBef_asymm (m1 a ha) (l1 b hb)).elim
def Weak (l:List PC):Prop:=l.Pairwise fun a b=>pBef b a=false
theorem weak_strict:∀ {l:List PC},Weak l→(strictB l=true↔l.Pairwise fun a b=>samePos a b=false)
 | [],_=>by simp [strictB]
 | a::l,h=>by
  obtain⟨h1,h2⟩:=List.pairwise_cons.1 h
  constructor
  ·intro hs
   refine (strict_pair hs).imp_of_mem ?_
   intro x y hx hy hxy
   cases hq:samePos x y with
   | false=>rfl
   | true=>simp only [samePos,pBef,decide_eq_true_eq] at hxy hq;omega
  ·intro hd
   apply strict_of_pair
   refine (List.Pairwise.and h hd).imp ?_
   intro x y ⟨hxy,hq⟩
   rw [samePos_iff hxy] at hq
   simpa using hq
theorem pair_perm {R:PC→PC→Prop} (hR:∀ a b,R a b→R b a) {l m:List PC} (h:l.Perm m):l.Pairwise R→m.Pairwise R:=(h.pairwise_iff (fun hab=>hR _ _ hab)).1
theorem weak_same {l m:List PC} (hl:Weak l) (hm:Weak m) (h:l.Perm m):strictB l=strictB m∧(strictB l=true→l=m):=by
 have hs:∀ a b,samePos a b=false→samePos b a=false:=fun a b=>by simp only [samePos,decide_eq_false_iff_not];omega
 constructor
 ·rw [Bool.eq_iff_iff,weak_strict hl,weak_strict hm]
  exact⟨pair_perm hs h,pair_perm hs h.symm⟩
 ·intro hst
  refine strict_perm_eq (strict_pair hst) (strict_pair ?_) h
  rw [weak_strict hm]
  exact pair_perm hs h ((weak_strict hl).1 hst)
def insP (c:PC):List PC→List PC
 | []=>[c]
 | d::l=>if pBef c d then c::d::l else d::insP c l
def sortP (l:List PC):List PC:=l.foldl (fun q c=>insP c q) []
theorem insP_perm (c:PC):∀ l:List PC,(insP c l).Perm (c::l)
 | []=>List.Perm.refl _
 | d::l=>by
  unfold insP
  split
  ·exact List.Perm.refl _
  ·exact ((insP_perm c l).cons d).trans (List.Perm.swap c d l)
theorem insP_weak (c:PC):∀ {l:List PC},Weak l→Weak (insP c l)
 | [],_=>by simp [insP,Weak]
 | d::l,h=>by
  obtain⟨h1,h2⟩:=List.pairwise_cons.1 h
  unfold insP
  split
  ·rename_i hc
   have hdc:pBef d c=false:=by
    cases hq:pBef d c with
    | false=>rfl
    | true=>exact (pBef_asymm hc hq).elim
   refine List.Pairwise.cons ?_ h
   intro x hx
   rw [List.mem_cons] at hx
   rcases hx with rfl|hx
   ·exact hdc
   ·exact pBef_weak hdc (h1 x hx)
  ·rename_i hc
   refine List.Pairwise.cons ?_ (insP_weak c h2)
   intro x hx
   have:=(insP_perm c l).subset hx
   rw [List.mem_cons] at this
   rcases this with rfl|hx
   ·simpa using hc
   ·exact h1 x hx
theorem sortP_snoc (l:List PC) (c:PC):sortP (l++[c])=insP c (sortP l):=by simp [sortP]
theorem sortP_fold:∀ (l q:List PC),Weak q→Weak (l.foldl (fun q c=>insP c q) q)∧(l.foldl (fun q c=>insP c q) q).Perm (q++l)
 | [],q,h=>⟨h,by simp⟩
 | c::l,q,h=>by
  obtain⟨h1,h2⟩:=sortP_fold l (insP c q) (insP_weak c h)
  refine⟨h1,h2.trans ?_⟩
  refine ((insP_perm c q).append_right l).trans ?_
  exact (List.perm_middle (l₁:=q)).symm
theorem sortP_weak (l:List PC):Weak (sortP l):=(sortP_fold l [] List.Pairwise.nil).1
theorem sortP_perm (l:List PC):(sortP l).Perm l:=(sortP_fold l [] List.Pairwise.nil).2
def badP:List PC→Int
 | []=>0
 | c::l=>if placeB c.x c.y=false then 5 else if c.st<0∨8≤c.st then 10 else badP l
theorem badP_snoc:∀ (l:List PC) (c:PC),badP (l++[c])=if badP l≠0 then badP l else badP [c]
 | [],c=>by simp [badP]
 | d::l,c=>by
  have:=badP_snoc l c
  simp only [List.cons_append,badP]
  split
  ·simp
  ·split
   ·simp
   ·exact this
theorem badP_app {l m:List PC} (h:badP l≠0):badP (l++m)=badP l:=by
 induction l with
 | nil=>exact absurd rfl h
 | cons d l ih =>
  simp only [List.cons_append,badP] at h ⊢
  split
  ·rfl
  ·split
   ·rfl
   ·rename_i h1 h2
    rw [if_neg h1,if_neg h2] at h
    exact ih h
def someP (l:List PC):List PC:=l.filter fun c=>decide (c.st≠0)
def fromP (l:List PC):List PC×Int :=
 if badP l≠0 then ([],badP l) else if strictB (sortP (someP l))=false then ([],8) else if 5000<(sortP (someP l)).length then ([],6) else (sortP (someP l),0)
theorem fromP_of {l q:List PC} (hb:badP l=0) (hw:Weak q) (hp:q.Perm (someP l)):fromP l=if strictB q=false then ([],8) else if 5000<q.length then ([],6) else (q,0):=by
 obtain⟨h1,h2⟩:=weak_same hw (sortP_weak (someP l)) (hp.trans (sortP_perm _).symm)
 unfold fromP
 rw [if_neg (by simp [hb]),← h1]
 cases hs:strictB q with
 | false=>rfl
 | true =>
  have:=h2 hs
  simp only [reduceCtorEq,if_false]
  rw [← this]
def cellB (c:PC):Bool:=placeB c.x c.y && decide (1≤c.st∧c.st<8)
def rightP (l:List PC):Bool:=decide (l.length≤5000) && (l.all cellB && strictB l)
def topP (l:List PC):Int:=l.foldl (fun m c=>max m c.st) 0
theorem topP_snoc (l:List PC) (c:PC):topP (l++[c])=max (topP l) c.st:=by simp [topP]
theorem topP_lt {l:List PC} {s:Int} (hs:0<s):topP l<s↔∀ c∈l,c.st<s:=by
 have:∀ (l:List PC) (m:Int),l.foldl (fun m c=>max m c.st) m<s↔m<s∧∀ c∈l,c.st<s:=by
  intro l
  induction l with
  | nil=>intro m;simp
  | cons c l ih =>
   intro m
   simp only [List.foldl_cons,ih,List.mem_cons,forall_eq_or_imp]
   rw [← and_assoc,show max m c.st<s↔m<s∧c.st<s by omega]
 unfold topP
 rw [this]
 exact⟨fun h=>h.2,fun h=>⟨hs,h⟩⟩
end Go.Proofs.Pt
end
