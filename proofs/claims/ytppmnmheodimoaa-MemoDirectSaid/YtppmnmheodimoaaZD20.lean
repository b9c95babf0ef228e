/- Own texts of this claim, part 21: no condition. -/
import Derived.Test.YtppmnmheodimoaaZD18
import Derived.Test.YtppmnmheodimoaaZD19
import Derived.Test.YtppmnmheodimoaaZD16
import Derived.Test.YtppmnmheodimoaaZD8
import Derived.Test.YtppmnmheodimoaaZD10
import Derived.Test.YtppmnmheodimoaaZD9
import Derived.Test.YtppmnmheodimoaaZD5
set_option linter.unusedVariables false
set_option linter.unusedSimpArgs false
section
namespace Go.Proofs.Ytppmnmheodimoaa
open Go Go.RowKit Rg Mp Hp Qs Ev Bn
def dumT:Tr:=.node (.leaf 100) (.leaf 100) (.leaf 100) (.leaf 100)
theorem dum_not {s:Int} {ns:List K4} (hg:GoodQ s ns):dumT∉trs s ns:=by
 intro hm
 obtain⟨i,hi,he⟩:=List.mem_iff_getElem.1 hm
 have hi':i<ns.length:=by rw [← trs_length s ns];exact hi
 have he:tr s ns (s+i)=dumT:=by
  unfold tr tget
  rw [if_neg (by omega),show (s+(i:Int) - s).toNat=i by omega,List.getD_eq_getElem?_getD,List.getElem?_eq_getElem hi,he]
  rfl
 have:=(good_full hg ns.length (x:=s+i) (by omega) ⟨by have:=hg.1;omega,by omega⟩).2
 rw [he] at this
 have h8:=hg.2.1
 have:=this.1.2
 omega
def dums:List Tr:=List.replicate 300 dumT
theorem room_dums {s:Int} {ns:List K4} {L:List Tr} (hg:GoodQ s ns) (h:room s ns (dums++L)):ns.length+300≤90000:=by
 unfold room dums at h
 rw [List.filter_append,List.length_append,List.filter_replicate,if_pos (by simpa using dum_not hg),List.length_replicate] at h
 omega
def RBuildAt (s:Int) (L:List Tr) (b n:Nat):Prop:=∀ (w:World) (F:List Nat) (ns:List K4) (a:Option Addr) (c:Nat) (E:List SV),RefAt w b s ns F→room s ns (dums++L)→SpAt w F (.slice a E.length c) E→OkS s n (E.map SV.spot)→E.length≤100000 →
 (∀ i,i<n→emptyT (i+1)∈L)→(∀ u∈newT n (E.map SV.spot),u∈L) →
 Calls Try.prog 57 #[.pointer (some ⟨b,0,none⟩),.slice a E.length c,.int .i64 (n:Nat)] w (RTwo w b s (buildQ s n ns (E.map SV.spot)) F)
theorem Rbuild_nil {s:Int} {b n:Nat} {w:World} {F:List Nat} {ns:List K4} {a:Option Addr} {c:Nat} (hS:RefAt w b s ns F) (hl:ns.length+256≤90000) :
  Calls Try.prog 57 #[.pointer (some ⟨b,0,none⟩),.slice a 0 c,.int .i64 (n:Nat)] w (RTwo w b s (buildQ s n ns []) F):=by
 rw [buildQ_nil]
 have H:=Lib.hid (REmpty_calls hS hl (n:Nat))
 unfold RTwo at H ⊢
 obtain⟨⟨⟨i,e⟩,ms⟩,hR⟩:∃ R,emptyQ s ns (n:Nat)=R:=⟨_,rfl⟩
 rw [hR] at H ⊢
 obtain⟨N,hN⟩:∃ N:Int,((n:Nat):Int)=N:=⟨_,rfl⟩
 rw [hN] at H ⊢
 clear hS hl hR hN
 go_enter Try.func57,Try.ntmps57
 go_wp2_with fail
 refine H.out.mono ?_
 rintro e w1 ⟨rfl,h1⟩
 have H1:=Lib.hid h1
 clear h1
 go_wp2
 go_ret2
 exact⟨rfl,H1.out⟩
theorem Rbuild_leaf {s:Int} {b:Nat} {w:World} {F:List Nat} {ns:List K4} {a:Option Addr} {c:Nat} {e:SV} {E:List SV} (hS:RefAt w b s ns F) (hv:Reads w (.slice a (e::E).length c) (e::E).length 5 (svs (e::E))) (hlen:(e::E).length≤100000) :
  Calls Try.prog 57 #[.pointer (some ⟨b,0,none⟩),.slice a (e::E).length c,.int .i64 0] w (RTwo w b s (buildQ s 0 ns ((e::E).map SV.spot)) F):=by
 obtain⟨g,off,rfl,hgl,e0,e1,e2,e3,e4⟩:=svs_cell (i:=0) (p:=e) hv rfl
 obtain⟨m,hm⟩:∃ m,(e::E).length=m:=⟨_,rfl⟩
 have hm0:0<m:=by rw [← hm];simp
 have hm1:((m:Int) == 0)=false:=by simp;omega
 have HR:=Lib.hid (show RTwo w b s (buildQ s 0 ns ((e::E).map SV.spot)) F (.returned (.tuple #[.int .i64 e.st,.int .i64 0])) w from RTwo.same hS (Fr.refl [] w) rfl)
 rw [hm]
 rw [Nat.zero_mul,Nat.add_zero] at e0 e1 e2 e3 e4
 clear hS hv hm e0 e1 e2 e3 hlen
 go_enter Try.func57,Try.ntmps57
 go_wp2
 go_ret2
 exact HR.out
structure RbSt (w wr:World) (b:Nat) (s:Int) (ns:List K4) (L:List Tr) (F:List Nat) (E:List SV) (n kb q:Nat) (ids:List Int) (ms:List K4) (F':List Nat):Prop where
 krr:kr (fun ms k=>buildQ s n ms (partQ (2 ^ n) k (E.map SV.spot))) q ns=(0,ids,ms)
 ref:RefAt wr b s ms F'
 fr:Fr F w wr
 sub:∀ x∈F',x∈F∨w.heap.size≤x
 off:kb∉F'
 blk:wr.heap[kb]?=some (.cells (iv (mixL ⟨0,0,0,0⟩ ids)).toArray 75 (0,0))
 low:w.heap.size≤kb
 room:Qs.room s ms (dums++L)
theorem mix_set {ids:List Int} {q:Nat} {id:Int} (h:ids.length=q) (hq:q<4):(iv (mixL ⟨0,0,0,0⟩ ids)).toArray.setIfInBounds q (.int .i64 id)=(iv (mixL ⟨0,0,0,0⟩ (ids++[id]))).toArray:=by
 subst h
 rw [show ∀ (I:List Int) (m:Nat) (v:Int),(iv I).toArray.setIfInBounds m (.int .i64 v)=(iv (I.set m v)).toArray from fun I m v=>by rw [← iv_set];simp]
 congr 2
 have:ids.length=0∨ids.length=1∨ids.length=2∨ids.length=3:=by omega
 rcases this with h|h|h|h
 ·obtain rfl:=List.length_eq_zero_iff.1 h;rfl
 ·obtain⟨i0,rfl⟩:=List.length_eq_one_iff.1 h;rfl
 ·obtain⟨i0,i1,rfl⟩:=len2 h;rfl
 ·obtain⟨i0,i1,i2,rfl⟩:=len3 h;rfl
theorem RbSt.put {w wr w1 w2:World} {b:Nat} {s:Int} {ns:List K4} {L:List Tr} {F:List Nat} {E:List SV} {n kb q:Nat} {ids:List Int} {ms:List K4} {F':List Nat} (h:RbSt w wr b s ns L F E n kb q ids ms F') (hq:q<4)
  (hf:Fr [] wr w1) {id:Int} {ms2:List K4} {F2:List Nat} (h2:RefAt w2 b s ms2 F2) (hf2:Fr F' w1 w2) (hs2:∀ x∈F2,x∈F'∨w1.heap.size≤x) (hr:Qs.room s ms2 (dums++L)) (hb:buildQ s n ms (partQ (2 ^ n) q (E.map SV.spot))=((id,0),ms2)) :
  RbSt w (w2.setCell ⟨kb,q,none⟩ (.int .i64 id)) b s ns L F E n kb (q+1) (ids++[id]) ms2 F2:=by
 have hkl:=lBk h.blk
 have hk1:kb<w1.heap.size:=by have:=hf.size;omega
 have hoff:kb∉F2:=fun hx=>by rcases hs2 kb hx with h9|h9;exact h.off h9;omega
 have hb1:=(hf.block kb hkl (by simp)).trans h.blk
 have hb2:=(hf2.block kb hk1 h.off).trans hb1
 have hset:∀ z,z≠kb→(w2.setCell ⟨kb,q,none⟩ (.int .i64 id)).heap[z]?=w2.heap[z]?:=fun z hz=>heap_setCell_else _ _ _ _ hz
 have hfr2:Fr F w w2:=(h.fr.trans0 hf).trans hf2 fun x hx=>by
  rcases h.sub x hx with h9|h9
  ·exact .inl h9
  ·exact .inr h9
 have hsub2:∀ x∈F2,x∈F∨w.heap.size≤x:=fun x hx=>by
  rcases hs2 x hx with h9|h9
  ·exact h.sub x h9
  ·have:=h.fr.size;have:=hf.size;exact .inr (by omega)
 refine⟨kr_ok h.krr hb,h2.keep fun x hx=>hset x (fun e=>hoff (e▸hx)),hfr2.setCell (.inr h.low) _,hsub2,hoff,?_,h.low,hr⟩
 rw [heap_setCell_here hb2]
 congr 2
 exact mix_set (kr_len h.krr) hq
set_option maxHeartbeats 16000000 in
set_option maxRecDepth 100000 in
theorem Rbuild_succ {s:Int} {L:List Tr} {b n:Nat} (hn:n+1≤256) (ih:RBuildAt s L b n) {w:World} {F:List Nat} {ns:List K4} {a:Option Addr} {c:Nat} {e0:SV} {E0:List SV} (hS:RefAt w b s ns F) (hr:room s ns (dums++L)) (hsp:SpAt w F (.slice a (e0::E0).length c) (e0::E0)) (hok:OkS s (n+1) ((e0::E0).map SV.spot)) (hlen:(e0::E0).length≤100000)
  (hE:∀ i,i<n+1→emptyT (i+1)∈L) (hN:∀ u∈newT (n+1) ((e0::E0).map SV.spot),u∈L) :
  Calls Try.prog 57 #[.pointer (some ⟨b,0,none⟩),.slice a (e0::E0).length c,.int .i64 (n+1:Nat)] w (RTwo w b s (buildQ s (n+1) ns ((e0::E0).map SV.spot)) F):=by
 have hbq:buildQ s (n+1) ns ((e0::E0).map SV.spot)=fin4 s (fun ms k=>buildQ s n ms (partQ (2 ^ n) k ((e0::E0).map SV.spot))) ns:=rfl
 rw [hbq]
 have hN4:∀ k,k<4→∀ u∈newT n (partQ (2 ^ n) k ((e0::E0).map SV.spot)),u∈L:=by
  intro k hk u hu
  apply hN
  rw [List.map_cons] at hu ⊢
  simp only [newT,List.mem_cons,List.mem_append]
  have:k=0∨k=1∨k=2∨k=3:=by omega
  rcases this with rfl|rfl|rfl|rfl<;>simp [hu]
 obtain⟨E,hE0⟩:∃ E,(e0::E0)=E:=⟨_,rfl⟩
 have hl0:0<E.length:=by rw [← hE0];simp
 rw [hE0] at hsp hok hlen hN hN4 ⊢
 have HE:=Lib.hid hlen
 have HOK:=Lib.hid hok
 have HCO:=Lib.hid (show ∀ e∈E,e.X.1<2 ^ (n+1)∧e.Y.1<2 ^ (n+1) from fun e he=>hok.inside e.spot (List.mem_map.2 ⟨e,he,rfl⟩))
 have HEL:=Lib.hid hE
 have HNL:=Lib.hid hN4
 have HEM:=Lib.hid (show ∀ i,i<n→emptyT (i+1)∈dums++L from fun i hi=>List.mem_append.2 (.inr (hE i (by omega))))
 have HNW:=Lib.hid (show ∀ k,k<4→∀ u∈newT n (partQ (2 ^ n) k (E.map SV.spot)),u∈dums++L from fun k hk u hu=>List.mem_append.2 (.inr (hN4 k hk u hu)))
 have SSP:=Lib.hid (show ∀ wr F',Fr F w wr→(∀ x∈F',x∈F∨w.heap.size≤x)→SpAt wr F' (.slice a E.length c) E from fun wr F' h1 h2=>hsp.step h1 h2)
 have IH:=Lib.hid ih
 obtain⟨m,hm⟩:∃ m,E.length=m:=⟨_,rfl⟩
 have HM:=Lib.hid hm
 rw [hm] at hl0 ⊢
 have hm1:((m:Int) == 0)=false:=by simp;omega
 obtain⟨L9,hL9⟩:∃ L9:Int,((n+1:Nat):Int)=L9:=⟨_,rfl⟩
 have HL9:=Lib.hid hL9
 rw [hL9]
 have hL0:(L9 == 0)=false:=by simp;omega
 have hL1:IntKind.i64.wrap (L9 - 1)=(n:Nat):=by rw [show L9 - 1=((n:Nat):Int) by omega];exact IntWalk.i64_in _ (by omega)
 have H0:=Lib.hid (fun (kb:Nat) (hkb:kb=w.heap.size)=>show RbSt w (w.alloc (.cells #[.int .i64 0,.int .i64 0,.int .i64 0,.int .i64 0] 75 (0,0))) b s ns L F E n kb 0 [] ns F from by
  subst hkb
  exact⟨rfl,hS.fr ((Fr.refl [] w).alloc _) (by simp),(Fr.refl F w).alloc _,fun x hx=>.inl hx,fun hx=>Nat.lt_irrefl _ (hS.lt _ hx),by (repeat first|rw [if_pos (by omega)]|rw [if_neg (by omega)]|rw [hDR]|rw [hDN]|rw [hAz]|rw [hSz]|rw [hAC]|rw [hSC]|rw [oMS]|rw [uPC]|rw [lSZ]|rw [lSS]|rfl),Nat.le_refl _,hr⟩)
 clear hS hr hsp hok hlen hE hN hN4 hE0 hbq hm ih hL9
 go_enter Try.func57,Try.ntmps57
 go_wp2
 obtain⟨kb,hkb⟩:∃ kb,w.heap.size=kb:=⟨_,rfl⟩
 have H0:=Lib.hid (H0.out kb hkb.symm)
 rw [hkb]
 clear hkb
 go_loopw [9] (fun x' wr=>∃ z:Int,x'=.int .i64 z∧At5 (fun q=>∃ ids ms F',RbSt w wr b s ns L F E n kb q ids ms F') z) (fun x _=>4 - (intOf x).toNat)
 case atStart=>exact⟨0,rfl,.inl ⟨rfl,[],ns,F,H0.out⟩⟩
 case round =>
  obtain⟨z,rfl,hz⟩:=hrel
  clear H0
  rcases hz with ⟨rfl,ids,ms,F2,hs⟩|⟨rfl,ids,ms,F2,hs⟩|⟨rfl,ids,ms,F2,hs⟩|⟨rfl,ids,ms,F2,hs⟩|⟨rfl,ids,ms,F2,hs⟩
  ·
   have HS:=Lib.hid hs
   have H1:=Lib.hid (Rpart_q (SSP.out wr F2 HS.out.fr HS.out.sub) HS.out.ref.lt HE.out (by omega) HCO.out (k:=0) (by omega) (K:=0) (N:=L9) rfl HL9.out)
   unfold PartPostY at H1
   rw [HM.out] at H1
   clear hs
   go_wp2_with fail
   refine H1.out.mono ?_
   rintro e w4 ⟨a2,c2,E2,rfl,hsp2,hE2,hf4⟩
   obtain⟨id,ms2,hb,hg2,hp2,hr2,_⟩:=buildQ_room HS.out.ref.1 HS.out.room (by omega) (HOK.out.part 0) (HEM.out) (HNW.out 0 (by omega))
   have H2:=IH.out w4 F2 ms a2 c2 E2 (HS.out.ref.fr hf4 (by simp)) HS.out.room hsp2 (by rw [hE2];exact HOK.out.part 0) (by
    have h1:=congrArg List.length hE2
    rw [map_spot_len] at h1
    have h2:=HE.out
    have h3:(partQ (2 ^ n) 0 (E.map SV.spot)).length≤E.length:=by
     unfold partQ
     rw [List.length_map]
     exact Nat.le_trans (List.length_filter_le _ _) (by rw [map_spot_len];exact Nat.le_refl _)
    omega) (fun i hi=>HEL.out i (by omega)) (by rw [hE2];exact HNL.out 0 (by omega))
   rw [hE2,hb] at H2
   unfold RTwo at H2
   have H2:=Lib.hid H2
   have HF4:=Lib.hid hf4
   have HB:=Lib.hid hb
   have HR2:=Lib.hid hr2
   obtain⟨m2,hm2⟩:∃ m2,E2.length=m2:=⟨_,rfl⟩
   rw [hm2] at H2 ⊢
   clear hf4 hb hg2 hp2 hr2 hsp2 hE2 H1 hm2
   go_wp2_with fail
   refine H2.out.mono ?_
   rintro e w6 ⟨rfl,F3,g1,g2,g3⟩
   have HF:=Lib.hid (HS.out.put (by omega) HF4.out g1 g2 g3 HR2.out HB.out)
   have hkl:=lBk HS.out.blk
   have hk1:kb<w4.heap.size:=by have:=HF4.out.size;omega
   have hb1:=(HF4.out.block kb hkl (by simp)).trans HS.out.blk
   have hb2:=(g2.block kb hk1 HS.out.off).trans hb1
   have hl:=kr_len HS.out.krr
   obtain rfl:=List.length_eq_zero_iff.1 hl
   have hc:_=some (Value.int .i64 0):=hEC hb2 0
   have hz:=hEF hb2 0
   have hl:=lBk hb2
   clear H2 g1 g2 g3 hkl hk1 hb1 hb2
   go_wp2
   go_roundw
   case rel=>exact⟨1,rfl,(.inr (.inl ⟨rfl,_,_,_,HF.out⟩))⟩
   case measure=>simp [intOf]
  ·
   have HS:=Lib.hid hs
   have H1:=Lib.hid (Rpart_q (SSP.out wr F2 HS.out.fr HS.out.sub) HS.out.ref.lt HE.out (by omega) HCO.out (k:=1) (by omega) (K:=1) (N:=L9) rfl HL9.out)
   unfold PartPostY at H1
   rw [HM.out] at H1
   clear hs
   go_wp2_with fail
   refine H1.out.mono ?_
   rintro e w4 ⟨a2,c2,E2,rfl,hsp2,hE2,hf4⟩
   obtain⟨id,ms2,hb,hg2,hp2,hr2,_⟩:=buildQ_room HS.out.ref.1 HS.out.room (by omega) (HOK.out.part 1) (HEM.out) (HNW.out 1 (by omega))
   have H2:=IH.out w4 F2 ms a2 c2 E2 (HS.out.ref.fr hf4 (by simp)) HS.out.room hsp2 (by rw [hE2];exact HOK.out.part 1) (by
    have h1:=congrArg List.length hE2
    rw [map_spot_len] at h1
    have h2:=HE.out
    have h3:(partQ (2 ^ n) 1 (E.map SV.spot)).length≤E.length:=by
     unfold partQ
     rw [List.length_map]
     exact Nat.le_trans (List.length_filter_le _ _) (by rw [map_spot_len];exact Nat.le_refl _)
    omega) (fun i hi=>HEL.out i (by omega)) (by rw [hE2];exact HNL.out 1 (by omega))
   rw [hE2,hb] at H2
   unfold RTwo at H2
   have H2:=Lib.hid H2
   have HF4:=Lib.hid hf4
   have HB:=Lib.hid hb
   have HR2:=Lib.hid hr2
   obtain⟨m2,hm2⟩:∃ m2,E2.length=m2:=⟨_,rfl⟩
   rw [hm2] at H2 ⊢
   clear hf4 hb hg2 hp2 hr2 hsp2 hE2 H1 hm2
   go_wp2_with fail
   refine H2.out.mono ?_
   rintro e w6 ⟨rfl,F3,g1,g2,g3⟩
   have HF:=Lib.hid (HS.out.put (by omega) HF4.out g1 g2 g3 HR2.out HB.out)
   have hkl:=lBk HS.out.blk
   have hk1:kb<w4.heap.size:=by have:=HF4.out.size;omega
   have hb1:=(HF4.out.block kb hkl (by simp)).trans HS.out.blk
   have hb2:=(g2.block kb hk1 HS.out.off).trans hb1
   have hl:=kr_len HS.out.krr
   obtain⟨i0,rfl⟩:=List.length_eq_one_iff.1 hl
   have hc:_=some (Value.int .i64 0):=hEC hb2 1
   have hz:=hEF hb2 1
   have hl:=lBk hb2
   clear H2 g1 g2 g3 hkl hk1 hb1 hb2
   go_wp2
   go_roundw
   case rel=>exact⟨2,rfl,(.inr (.inr (.inl ⟨rfl,_,_,_,HF.out⟩)))⟩
   case measure=>simp [intOf]
  ·
   have HS:=Lib.hid hs
   have H1:=Lib.hid (Rpart_q (SSP.out wr F2 HS.out.fr HS.out.sub) HS.out.ref.lt HE.out (by omega) HCO.out (k:=2) (by omega) (K:=2) (N:=L9) rfl HL9.out)
   unfold PartPostY at H1
   rw [HM.out] at H1
   clear hs
   go_wp2_with fail
   refine H1.out.mono ?_
   rintro e w4 ⟨a2,c2,E2,rfl,hsp2,hE2,hf4⟩
   obtain⟨id,ms2,hb,hg2,hp2,hr2,_⟩:=buildQ_room HS.out.ref.1 HS.out.room (by omega) (HOK.out.part 2) (HEM.out) (HNW.out 2 (by omega))
   have H2:=IH.out w4 F2 ms a2 c2 E2 (HS.out.ref.fr hf4 (by simp)) HS.out.room hsp2 (by rw [hE2];exact HOK.out.part 2) (by
    have h1:=congrArg List.length hE2
    rw [map_spot_len] at h1
    have h2:=HE.out
    have h3:(partQ (2 ^ n) 2 (E.map SV.spot)).length≤E.length:=by
     unfold partQ
     rw [List.length_map]
     exact Nat.le_trans (List.length_filter_le _ _) (by rw [map_spot_len];exact Nat.le_refl _)
    omega) (fun i hi=>HEL.out i (by omega)) (by rw [hE2];exact HNL.out 2 (by omega))
   rw [hE2,hb] at H2
   unfold RTwo at H2
   have H2:=Lib.hid H2
   have HF4:=Lib.hid hf4
   have HB:=Lib.hid hb
   have HR2:=Lib.hid hr2
   obtain⟨m2,hm2⟩:∃ m2,E2.length=m2:=⟨_,rfl⟩
   rw [hm2] at H2 ⊢
   clear hf4 hb hg2 hp2 hr2 hsp2 hE2 H1 hm2
   go_wp2_with fail
   refine H2.out.mono ?_
   rintro e w6 ⟨rfl,F3,g1,g2,g3⟩
   have HF:=Lib.hid (HS.out.put (by omega) HF4.out g1 g2 g3 HR2.out HB.out)
   have hkl:=lBk HS.out.blk
   have hk1:kb<w4.heap.size:=by have:=HF4.out.size;omega
   have hb1:=(HF4.out.block kb hkl (by simp)).trans HS.out.blk
   have hb2:=(g2.block kb hk1 HS.out.off).trans hb1
   have hl:=kr_len HS.out.krr
   obtain⟨i0,i1,rfl⟩:=len2 hl
   have hc:_=some (Value.int .i64 0):=hEC hb2 2
   have hz:=hEF hb2 2
   have hl:=lBk hb2
   clear H2 g1 g2 g3 hkl hk1 hb1 hb2
   go_wp2
   go_roundw
   case rel=>exact⟨3,rfl,(.inr (.inr (.inr (.inl ⟨rfl,_,_,_,HF.out⟩))))⟩
   case measure=>simp [intOf]
  ·
   have HS:=Lib.hid hs
   have H1:=Lib.hid (Rpart_q (SSP.out wr F2 HS.out.fr HS.out.sub) HS.out.ref.lt HE.out (by omega) HCO.out (k:=3) (by omega) (K:=3) (N:=L9) rfl HL9.out)
   unfold PartPostY at H1
   rw [HM.out] at H1
   clear hs
   go_wp2_with fail
   refine H1.out.mono ?_
   rintro e w4 ⟨a2,c2,E2,rfl,hsp2,hE2,hf4⟩
   obtain⟨id,ms2,hb,hg2,hp2,hr2,_⟩:=buildQ_room HS.out.ref.1 HS.out.room (by omega) (HOK.out.part 3) (HEM.out) (HNW.out 3 (by omega))
   have H2:=IH.out w4 F2 ms a2 c2 E2 (HS.out.ref.fr hf4 (by simp)) HS.out.room hsp2 (by rw [hE2];exact HOK.out.part 3) (by
    have h1:=congrArg List.length hE2
    rw [map_spot_len] at h1
    have h2:=HE.out
    have h3:(partQ (2 ^ n) 3 (E.map SV.spot)).length≤E.length:=by
     unfold partQ
     rw [List.length_map]
     exact Nat.le_trans (List.length_filter_le _ _) (by rw [map_spot_len];exact Nat.le_refl _)
    omega) (fun i hi=>HEL.out i (by omega)) (by rw [hE2];exact HNL.out 3 (by omega))
   rw [hE2,hb] at H2
   unfold RTwo at H2
   have H2:=Lib.hid H2
   have HF4:=Lib.hid hf4
   have HB:=Lib.hid hb
   have HR2:=Lib.hid hr2
   obtain⟨m2,hm2⟩:∃ m2,E2.length=m2:=⟨_,rfl⟩
   rw [hm2] at H2 ⊢
   clear hf4 hb hg2 hp2 hr2 hsp2 hE2 H1 hm2
   go_wp2_with fail
   refine H2.out.mono ?_
   rintro e w6 ⟨rfl,F3,g1,g2,g3⟩
   have HF:=Lib.hid (HS.out.put (by omega) HF4.out g1 g2 g3 HR2.out HB.out)
   have hkl:=lBk HS.out.blk
   have hk1:kb<w4.heap.size:=by have:=HF4.out.size;omega
   have hb1:=(HF4.out.block kb hkl (by simp)).trans HS.out.blk
   have hb2:=(g2.block kb hk1 HS.out.off).trans hb1
   have hl:=kr_len HS.out.krr
   obtain⟨i0,i1,i2,rfl⟩:=len3 hl
   have hc:_=some (Value.int .i64 0):=hEC hb2 3
   have hz:=hEF hb2 3
   have hl:=lBk hb2
   clear H2 g1 g2 g3 hkl hk1 hb1 hb2
   go_wp2
   go_roundw
   case rel=>exact⟨4,rfl,(.inr (.inr (.inr (.inr ⟨rfl,_,_,_,HF.out⟩))))⟩
   case measure=>simp [intOf]
  ·obtain⟨i0,i1,i2,i3,rfl⟩:=len4 (kr_len hs.krr)
   have hb:=hs.blk
   have o0:_=some (Value.int .i64 i0):=hEC hb 0
   have o1:_=some (Value.int .i64 i1):=hEC hb 1
   have o2:_=some (Value.int .i64 i2):=hEC hb 2
   have o3:_=some (Value.int .i64 i3):=hEC hb 3
   have ol:=lBk hb
   have HFI:=Lib.hid (fin4_ok (s:=s) hs.krr)
   have HJ:=Lib.hid (fun w1 (hf:Fr [] wr w1)=>RJoin_calls (hs.ref.fr hf (by simp)) (by have:=room_dums hs.ref.1 hs.room;omega) (k4l [i0,i1,i2,i3]))
   have HR:=Lib.hid hs
   unfold RTwo at HJ
   clear hs hb
   go_wp2_with fail
   refine (HJ.out _ (by (repeat first|exact Fr.refl _ _|assumption|apply Fr.n|apply Fr.d|apply Fr.a|refine Fr.s ?_ (.inr (by simp;try omega)) _))).mono ?_
   rintro e w5 ⟨rfl,F5,h1,h2,h3⟩
   have H5:=Lib.hid (And.intro h1 (And.intro h2 h3))
   clear h1 h2 h3 o0 o1 o2 o3 ol HJ
   go_wp2
   go_ret2
   rw [HFI.out]
   obtain⟨h1,h2,h3⟩:=H5.out
   have hs:=HR.out
   refine⟨rfl,F5,h1,hs.fr.trans (Fr.trans (F:=F2) (by (repeat first|exact Fr.refl _ _|assumption|apply Fr.n|apply Fr.d|apply Fr.a|refine Fr.s ?_ (.inr (by simp;try omega)) _)) h2 fun x hx=>.inl hx) hs.sub,fun x hx=>?_⟩
   rcases h3 x hx with h9|h9
   ·exact hs.sub x h9
   ·have:=hs.fr.size;exact .inr (Nat.le_trans this h9)
theorem Rbuild_all {s:Int} {L:List Tr} {b:Nat}:∀ n,n≤256→RBuildAt s L b n
 | 0,_=>fun w F ns a c E hS hr hsp hok hlen hE hN=>by
  cases E with
  | nil=>exact Rbuild_nil hS (by have:=room_dums hS.1 hr;omega)
  | cons e E=>exact Rbuild_leaf hS hsp.rd hlen
 | n+1,hn=>fun w F ns a c E hS hr hsp hok hlen hE hN=>by
  cases E with
  | nil=>exact Rbuild_nil hS (by have:=room_dums hS.1 hr;omega)
  | cons e E=>exact Rbuild_succ hn (Rbuild_all n (by omega)) hS hr hsp hok hlen hE hN
end Go.Proofs.Ytppmnmheodimoaa
end
section
namespace Go.Proofs.Ytppmnmheodimoaa
open Go Go.RowKit Rg Mp Hp Qs Ev
end Go.Proofs.Ytppmnmheodimoaa
end
section
namespace Go.Proofs.Ytppmnmheodimoaa
open Go Go.RowKit Rg Mp Hp Qs Ev
structure BuSt (w wr:World) (b:Nat) (s:Int) (ns:List K4) (L:List Tr) (F:List Nat) (a:Option Addr) (m c n:Nat) (G:Fld) (ox oy:Int) (kb:Nat) (ns':List K4) (F':List Nat) (O:List Int) (q:Nat):Prop where
 ref:RefAt wr b s ns' F'
 fr:Fr F w wr
 sub:∀ x∈F',x∈F∨w.heap.size≤x
 off:kb∉F'
 blk:wr.heap[kb]?=some (.cells (iv O).toArray 75 (0,0))
 low:w.heap.size≤kb
 len:O.length=4
 pre:ns <+: ns'
 room:Qs.room s ns' L
 rows:RowsOff wr (.slice a m c) (gridL m G ox oy) (kb::F')
 done:∀ j,j<q→Is s ns' n (O.getD j 0) (Go.Proofs.Ev.mk n G (ox+(j % 2:Nat)*p2 n) (oy+(j / 2:Nat)*p2 n))
theorem BuSt.put {w wr w1 w2:World} {b:Nat} {s:Int} {ns:List K4} {L:List Tr} {F:List Nat} {a:Option Addr} {m c n:Nat} {G:Fld} {ox oy:Int} {kb:Nat} {ns':List K4} {F':List Nat} {O:List Int} {q:Nat} (h:BuSt w wr b s ns L F a m c n G ox oy kb ns' F' O q) (hq:q<4)
  (hf:Fr [] wr w1) {id:Int} {ns2:List K4} {F2:List Nat} (h2:RefAt w2 b s ns2 F2) (hf2:Fr F' w1 w2) (hs2:∀ x∈F2,x∈F'∨w1.heap.size≤x) (hp:ns' <+: ns2) (hr:Qs.room s ns2 L) {x y:Int} (hi:Is s ns2 n id (Go.Proofs.Ev.mk n G x y)) (hx:x=ox+(q % 2:Nat)*p2 n) (hy:y=oy+(q / 2:Nat)*p2 n) :
  BuSt w (w2.setCell ⟨kb,q,none⟩ (.int .i64 id)) b s ns L F a m c n G ox oy kb ns2 F2 (O.set q id) (q+1):=by
 have hkl:=lBk h.blk
 have hk1:kb<w1.heap.size:=by have:=hf.size;omega
 have hoff:kb∉F2:=fun hx=>by rcases hs2 kb hx with h9|h9;exact h.off h9;omega
 have hb1:=(hf.block kb hkl (by simp)).trans h.blk
 have hb2:=(hf2.block kb hk1 h.off).trans hb1
 have hset:∀ z,z≠kb→(w2.setCell ⟨kb,q,none⟩ (.int .i64 id)).heap[z]?=w2.heap[z]?:=fun z hz=>heap_setCell_else _ _ _ _ hz
 have hfr2:Fr F w w2:=(h.fr.trans0 hf).trans hf2 fun x hx=>by
  rcases h.sub x hx with h9|h9
  ·exact .inl h9
  ·exact .inr h9
 have hsub2:∀ x∈F2,x∈F∨w.heap.size≤x:=fun x hx=>by
  rcases hs2 x hx with h9|h9
  ·exact h.sub x h9
  ·have:=h.fr.size;have:=hf.size;exact .inr (by omega)
 have hrow2:RowsOff (w2.setCell ⟨kb,q,none⟩ (.int .i64 id)) (.slice a m c) (gridL m G ox oy) (kb::F2):=by
  refine h.rows.step (G:=kb::F') ?_ fun x hx=>?_
  ·have h1:Fr (kb::F') wr w2:=(hf.mono (G:=kb::F') (fun x hx=>absurd hx (by simp))).trans hf2 fun x hx=>.inl (by simp [hx])
   exact h1.setCell (.inl (by simp)) _
  ·rcases List.mem_cons.1 hx with rfl|hx
   ·exact .inl (by simp)
   ·rcases hs2 x hx with h9|h9
    ·exact .inl (by simp [h9])
    ·have:=hf.size;exact .inr (by omega)
 refine⟨h2.keep fun x hx=>hset x (fun e=>hoff (e▸hx)),hfr2.setCell (.inr h.low) _,hsub2,hoff,?_,h.low,by rw [List.length_set];exact h.len,h.pre.trans hp,hr,hrow2,fun j hj=>?_⟩
 ·rw [heap_setCell_here hb2]
  congr 2
  exact iv_setIf O q id
 ·by_cases e:j=q
  ·subst e
   rw [getD_set_same (by rw [h.len];exact hq),← hx,← hy]
   exact hi
  ·rw [getD_set_else e]
   exact (h.done j (by omega)).grow hp
end Go.Proofs.Ytppmnmheodimoaa
end
section
namespace Go.Proofs.Ytppmnmheodimoaa
open Go Go.RowKit Rg Hp Ev
set_option maxHeartbeats 16000000 in
set_option maxRecDepth 100000 in
theorem RTRight_calls {w:World} {r:Rule} {ha na:Option Addr} {hc nc:Nat} (hr:RuleAt w (.slice ha r.hood.length hc) (.slice na r.nodes.length nc) r) (hlh:r.hood.length≤1000000) (hln:r.nodes.length≤1000000) :
  Calls Try.prog 45 #[.agg #[.int .i64 r.S,.slice ha r.hood.length hc,.slice na r.nodes.length nc]] w fun e w'=>e=.returned (.bool (rightR r))∧Fr [] w w':=by
 have hh:=fun w1 (hf:Fr [] w w1)=>RHRight_calls (hr.1.fr hf) hlh
 have HH:=Lib.hid hh
 have Hr:=Lib.hid hr.2
 clear hh hr
 by_cases hS:2≤r.S∧r.S≤8
 ·obtain⟨hs1,hs2⟩:=hS
  cases hH:hoodR r.hood with
  | false =>
   have HN:=Lib.hid (rightR_hood hH)
   rw [hH] at HH
   clear hH
   go_enter Try.func45,Try.ntmps45
   go_wp2_with fail
   refine (HH.out _ (by (repeat first|exact Fr.refl _ _|assumption|apply Fr.n|apply Fr.d|apply Fr.a|refine Fr.s ?_ (.inr (by simp;try omega)) _))).mono ?_
   rintro e w1 ⟨rfl,hf⟩
   have hb_:=(hf.block (w.heap.size) (by first|(simp;done)|(simp;omega)) (by simp)).trans (show _=some (.cells #[.int .i64 r.S,.slice ha r.hood.length hc,.slice na r.nodes.length nc] 31 (0,0)) by (repeat first|rw [if_pos (by omega)]|rw [if_neg (by omega)]|rw [hDR]|rw [hDN]|rw [hAz]|rw [hSz]|rw [hAC]|rw [hSC]|rw [oMS]|rw [uPC]|rw [lSZ]|rw [lSS]|rfl))
   have b0:=hEC hb_ 0
   have b1:=hEC hb_ 1
   have b2:=hEC hb_ 2
   have bl:=lBk hb_
   have Hb:=Lib.hid hb_
   clear hb_
   have Hf:=Lib.hid (Fr.trans0 (by (repeat first|exact Fr.refl _ _|assumption|apply Fr.n|apply Fr.d|apply Fr.a|refine Fr.s ?_ (.inr (by simp;try omega)) _):Fr [] w _) hf)
   clear hf
   go_wp2
   all_goals
    go_ret
    exact⟨ret_bool' HN.out.symm,by first|((repeat first|exact Fr.refl _ _|assumption|apply Fr.n|apply Fr.d|apply Fr.a|refine Fr.s ?_ (.inr (by simp;try omega)) _);done)|(have:=Hf.out;(repeat first|exact Fr.refl _ _|assumption|apply Fr.n|apply Fr.d|apply Fr.a|refine Fr.s ?_ (.inr (by simp;try omega)) _);done)⟩
  | true =>
   rw [hH] at HH
   have HHT:=Lib.hid hH
   clear hH
   by_cases hn:1≤r.nodes.length∧r.nodes.length≤4096
   ·obtain⟨hn1,hn2⟩:=hn
    go_enter Try.func45,Try.ntmps45
    go_wp2_with fail
    refine (HH.out _ (by (repeat first|exact Fr.refl _ _|assumption|apply Fr.n|apply Fr.d|apply Fr.a|refine Fr.s ?_ (.inr (by simp;try omega)) _))).mono ?_
    rintro e w1 ⟨rfl,hf⟩
    have hb_:=(hf.block (w.heap.size) (by first|(simp;done)|(simp;omega)) (by simp)).trans (show _=some (.cells #[.int .i64 r.S,.slice ha r.hood.length hc,.slice na r.nodes.length nc] 31 (0,0)) by (repeat first|rw [if_pos (by omega)]|rw [if_neg (by omega)]|rw [hDR]|rw [hDN]|rw [hAz]|rw [hSz]|rw [hAC]|rw [hSC]|rw [oMS]|rw [uPC]|rw [lSZ]|rw [lSS]|rfl))
    have b0:=hEC hb_ 0
    have b1:=hEC hb_ 1
    have b2:=hEC hb_ 2
    have bl:=lBk hb_
    have Hb:=Lib.hid hb_
    clear hb_
    have Hf:=Lib.hid (Fr.trans0 (by (repeat first|exact Fr.refl _ _|assumption|apply Fr.n|apply Fr.d|apply Fr.a|refine Fr.s ?_ (.inr (by simp;try omega)) _):Fr [] w _) hf)
    clear hf
    go_wp2
    go_loopw [4] (fun x wr=>∃ k:Nat,x=.int .i64 k∧k≤r.nodes.length∧(∀ j,j<k→nodeOK r j=true)∧Fr [] w wr∧wr.heap[w.heap.size]?=some (.cells #[.int .i64 r.S,.slice ha r.hood.length hc,.slice na r.nodes.length nc] 31 (0,0))) (fun x _=>r.nodes.length - (intOf x).toNat)
    case atStart=>exact⟨0,rfl,by omega,by omega,by have:=Hf.out;(repeat first|exact Fr.refl _ _|assumption|apply Fr.n|apply Fr.d|apply Fr.a|refine Fr.s ?_ (.inr (by simp;try omega)) _),by have:=Hb.out;(repeat first|rw [if_pos (by omega)]|rw [if_neg (by omega)]|rw [hDR]|rw [hDN]|rw [hAz]|rw [hSz]|rw [hAC]|rw [hSC]|rw [oMS]|rw [uPC]|rw [lSZ]|rw [lSS]|rfl);exact this⟩
    case round =>
     clear Hf Hb b0 b1 b2 bl
     obtain⟨k,rfl,hk,hok,hf,hb⟩:=hrel
     have Hok:=Lib.hid hok
     have Hf:=Lib.hid hf
     have b0:=hEC hb 0
     have b1:=hEC hb 1
     have b2:=hEC hb 2
     have bl:=lBk hb
     simp at b0 b1 b2
     have Hb:=Lib.hid hb
     clear hok hf hb
     by_cases hlt:k<r.nodes.length
     ·obtain⟨⟨lw,ny⟩,hx⟩:∃ x,r.nodes[k]?=some x:=⟨_,List.getElem?_eq_getElem hlt⟩
      obtain⟨g,off,ra,rc,rfl,hg,e0,e1,hi⟩:=(Hr.out.fr Hf.out).node hx
      have hnk:=nodeOK_eq hx
      simp only at e0 e1 hi hnk
      have HX:=Lib.hid hnk
      have HI:=Lib.hid hi
      clear hx hi hnk
      by_cases hA:1≤lw∧lw≤r.hood.length∧((ny.length:Nat):Int)=r.S
      ·obtain⟨a1,a2,a3⟩:=hA
       have a4:(((ny.length:Nat):Int) != r.S)=false:=by simp [a3]
       have HX:=Lib.hid (show nodeOK r k=ny.all (entOK r lw k) by rw [HX.out,decide_eq_true ⟨a1,a2,a3⟩,Bool.true_and])
       have HA3:=Lib.hid a3
       have a5:ny.length≤8:=by omega
       clear a3
       go_wp2
       refine aBW (fun W=>Fr [] wr W∧W.heap[w.heap.size]?=some (.cells #[.int .i64 r.S,.slice ha r.hood.length hc,.slice (some ⟨g,off,none⟩) r.nodes.length nc] 31 (0,0))∧W.heap[wr.heap.size]?=some (.cells #[.int .i64 lw,.slice ra ny.length rc] 91 (0,0))) ⟨by (repeat first|exact Fr.refl _ _|assumption|apply Fr.n|apply Fr.d|apply Fr.a|refine Fr.s ?_ (.inr (by simp;try omega)) _),by have:=Hb.out;(repeat first|rw [if_pos (by omega)]|rw [if_neg (by omega)]|rw [hDR]|rw [hDN]|rw [hAz]|rw [hSz]|rw [hAC]|rw [hSC]|rw [oMS]|rw [uPC]|rw [lSZ]|rw [lSS]|rfl);exact this,by (repeat first|rw [if_pos (by omega)]|rw [if_neg (by omega)]|rw [hDR]|rw [hDN]|rw [hAz]|rw [hSz]|rw [hAC]|rw [hSC]|rw [oMS]|rw [uPC]|rw [lSZ]|rw [lSS]|rfl)⟩ ?_
       rintro W ⟨hfW,hb,hp⟩
       have HfW:=Lib.hid hfW
       have c0:=hEC hb 0
       have c1:=hEC hb 1
       have c2:=hEC hb 2
       have p0:=hEC hp 0
       have p1:=hEC hp 1
       have cl:=lBk hb
       have pl:=lBk hp
       simp at c0 c1 c2 p0 p1
       have HbW:=Lib.hid hb
       have HpW:=Lib.hid hp
       clear hfW hb hp b0 b1 b2 bl e0 e1
       go_loopw [6] (fun x wl=>∃ j:Nat,x=.int .i64 j∧j≤ny.length∧(∀ i y,ny[i]?=some y→i<j→entOK r lw k y=true)∧Drew W wl) (fun x _=>ny.length - (intOf x).toNat)
       case atStart=>exact⟨0,rfl,by omega,fun i y h1 h2=>by omega,Drew.refl _⟩
       case round =>
        obtain⟨j,rfl,hj,hent,m,rfl⟩:=hrel
        have Hent:=Lib.hid hent
        clear hent
        by_cases hlt2:j<ny.length
        ·obtain⟨y,hy⟩:∃ y,ny[j]?=some y:=⟨_,List.getElem?_eq_getElem hlt2⟩
         obtain⟨g2,off2,rfl,hg2,d0⟩:=(HI.out.fr HfW.out).cell hy
         have HY:=Lib.hid hy
         have hdj:decide ((j:Int)<r.S)=true:=by have:=HA3.out;simp;omega
         clear hy
         by_cases hneg:y<0
         ·
          have HN:=Lib.hid (rightR_node hlt (by rw [HX.out,all_false HY.out (entOK_neg hneg)]))
          go_wp2
          go_ret
          exact⟨ret_bool' HN.out.symm,by have:=Hf.out.trans0 HfW.out;(repeat first|exact Fr.refl _ _|assumption|apply Fr.n|apply Fr.d|apply Fr.a|refine Fr.s ?_ (.inr (by simp;try omega)) _)⟩
         ·obtain⟨z,rfl⟩:∃ z:Nat,y=z:=⟨y.toNat,by omega⟩
          clear hneg
          by_cases hone:lw=1
          ·have hone':(lw == 1)=true:=by simpa using hone
           have hone2:lw≤1:=by omega
           have HO:=Lib.hid hone
           clear hone
           by_cases hz:(z:Int)<r.S
           ·
            have HE:=Lib.hid (((entOK_one (by omega) HO.out).trans (decide_eq_true hz): entOK r lw k z=true))
            go_wp2
            (refine wRT (by kernel_rfl) (by kernel_rfl) ?_)
            go_wp2
            refine Strict.intro rfl ?_
            go_wp2
            go_roundw
            case rel =>
             refine⟨j+1,by go_num,by omega,fun i u hu hi=>?_,⟨m+1,rfl⟩⟩
             rcases Nat.lt_or_ge i j with h|h
             ·exact Hent.out i u hu h
             ·obtain rfl:i=j:=by omega
              obtain rfl:=Option.some.inj (HY.out.symm.trans hu)
              exact HE.out
            case measure=>simp [intOf];omega
           ·
            have HN:=Lib.hid (rightR_node hlt (by rw [HX.out,all_false HY.out ((entOK_one (by omega) HO.out).trans (decide_eq_false hz))]))
            go_wp2
            go_ret
            exact⟨ret_bool' HN.out.symm,by have:=Hf.out.trans0 HfW.out;(repeat first|exact Fr.refl _ _|assumption|apply Fr.n|apply Fr.d|apply Fr.a|refine Fr.s ?_ (.inr (by simp;try omega)) _)⟩
          ·have hone':(lw == 1)=false:=by simpa using hone
           by_cases hz:(z:Int)<k
           ·obtain⟨⟨lz,nz⟩,hxz⟩:∃ x,r.nodes[z]?=some x:=⟨_,List.getElem?_eq_getElem (by omega)⟩
            obtain⟨_,_,rz,cz,he,_,f0,_,_⟩:=(Hr.out.fr (Hf.out.trans0 HfW.out)).node hxz
            cases he
            have hlz:=levelAt_of hxz
            simp only at f0 hlz
            have HLZ:=Lib.hid hlz
            clear hxz hlz
            by_cases hle:lz=lw - 1
            ·subst hle
             have HE:=Lib.hid (((entOK_more (by omega) (by omega)).trans (decide_eq_true ⟨hz,HLZ.out⟩): entOK r lw k z=true))
             go_wp2
             (refine wRT (by kernel_rfl) (by kernel_rfl) ?_)
             go_wp2
             refine Strict.intro rfl ?_
             go_wp2
             go_roundw
             case rel =>
              refine⟨j+1,by go_num,by omega,fun i u hu hi=>?_,⟨m+1,rfl⟩⟩
              rcases Nat.lt_or_ge i j with h|h
              ·exact Hent.out i u hu h
              ·obtain rfl:i=j:=by omega
               obtain rfl:=Option.some.inj (HY.out.symm.trans hu)
               exact HE.out
             case measure=>simp [intOf];omega
            ·have hle':(lz != lw - 1)=true:=by simpa using hle
             have HNE:=Lib.hid (show ¬ ((z:Int)<k∧levelAt r z=lw - 1) from fun h=>hle (HLZ.out.symm.trans h.2))
             clear hle
             have HN:=Lib.hid (rightR_node hlt (by rw [HX.out,all_false HY.out ((entOK_more (by omega) (by omega)).trans (decide_eq_false HNE.out))]))
             go_wp2
             (refine wRT (by kernel_rfl) (by kernel_rfl) ?_)
             go_wp2
             refine Strict.intro rfl ?_
             go_wp2
             go_ret
             exact⟨ret_bool' HN.out.symm,by have:=Hf.out.trans0 HfW.out;(repeat first|exact Fr.refl _ _|assumption|apply Fr.n|apply Fr.d|apply Fr.a|refine Fr.s ?_ (.inr (by simp;try omega)) _)⟩
           ·have HNE:=Lib.hid (show ¬ ((z:Int)<k∧levelAt r z=lw - 1) from fun h=>hz h.1)
            have HN:=Lib.hid (rightR_node hlt (by rw [HX.out,all_false HY.out ((entOK_more (by omega) (by omega)).trans (decide_eq_false HNE.out))]))
            go_wp2
            (refine wRT (by kernel_rfl) (by kernel_rfl) ?_)
            go_wp2
            refine Strict.intro rfl ?_
            go_wp2
            go_ret
            exact⟨ret_bool' HN.out.symm,by have:=Hf.out.trans0 HfW.out;(repeat first|exact Fr.refl _ _|assumption|apply Fr.n|apply Fr.d|apply Fr.a|refine Fr.s ?_ (.inr (by simp;try omega)) _)⟩
        ·obtain rfl:j=ny.length:=by omega
         have Hall:=Lib.hid (show nodeOK r k=true from HX.out.trans (all_true fun i y h1 h2=>Hent.out i y h1 h2))
         have hdj:decide ((ny.length:Int)<r.S)=false:=by have:=HA3.out;simp;omega
         go_wp2
         go_roundw
         case rel =>
          refine⟨k+1,by go_num,by omega,fun i hi=>?_,by have:=Hf.out.trans0 HfW.out;(repeat first|exact Fr.refl _ _|assumption|apply Fr.n|apply Fr.d|apply Fr.a|refine Fr.s ?_ (.inr (by simp;try omega)) _),by have:=HbW.out;(repeat first|rw [if_pos (by omega)]|rw [if_neg (by omega)]|rw [hDR]|rw [hDN]|rw [hAz]|rw [hSz]|rw [hAC]|rw [hSC]|rw [oMS]|rw [uPC]|rw [lSZ]|rw [lSS]|rfl);exact this⟩
          rcases Nat.lt_or_ge i k with h|h
          ·exact Hok.out i h
          ·obtain rfl:i=k:=by omega
           exact Hall.out
         case measure=>simp [intOf];omega
      ·have hA':lw<1∨r.hood.length<lw∨1≤lw∧lw≤r.hood.length∧(((ny.length:Nat):Int) != r.S)=true:=by
        simp only [bne_iff_ne];omega
       have HN:=Lib.hid (rightR_node hlt (by rw [HX.out,decide_eq_false hA,Bool.false_and]))
       clear hA
       rcases hA' with h|h|⟨h1,h2,h3⟩
       all_goals
        go_wp2
        all_goals
         go_ret
         exact⟨ret_bool' HN.out.symm,by have:=Hf.out;(repeat first|exact Fr.refl _ _|assumption|apply Fr.n|apply Fr.d|apply Fr.a|refine Fr.s ?_ (.inr (by simp;try omega)) _)⟩
     ·obtain rfl:k=r.nodes.length:=by omega
      obtain⟨⟨lv,nx⟩,hx⟩:∃ x,r.nodes[r.nodes.length - 1]?=some x:=⟨_,List.getElem?_eq_getElem (by omega)⟩
      have hroot:=levelAt_last hn1 hx
      obtain⟨g,off,ra,rc,rfl,hg,e0,_,_⟩:=(Hr.out.fr Hf.out).node hx
      obtain⟨m,hm⟩:∃ m,r.nodes.length - 1=m:=⟨_,rfl⟩
      have hm':(r.nodes.length:Int) - 1=m:=by omega
      rw [hm] at hx e0
      simp only at e0
      have HRES:=Lib.hid (show rightR r=(lv == (r.hood.length:Int)) by
       by_cases hl:lv=r.hood.length
       ·rw [show (lv == (r.hood.length:Int))=true by simpa using hl]
        exact rightR_true ⟨hs1,hs2⟩ HHT.out ⟨hn1,hn2⟩ (hroot.trans hl) Hok.out
       ·rw [show (lv == (r.hood.length:Int))=false by simpa using hl]
        exact rightR_root (r:=r) (by rw [hroot];exact hl))
      clear hx hroot hm
      go_wp2
      (refine wRT (by kernel_rfl) (by kernel_rfl) ?_)
      go_wp2
      refine Strict.intro rfl ?_
      go_wp2
      go_ret
      exact⟨ret_bool' HRES.out.symm,by have:=Hf.out;(repeat first|exact Fr.refl _ _|assumption|apply Fr.n|apply Fr.d|apply Fr.a|refine Fr.s ?_ (.inr (by simp;try omega)) _)⟩
   ·have HN:=Lib.hid (rightR_len hn)
    have hn':r.nodes.length<1∨4096<r.nodes.length:=by omega
    clear hn
    rcases hn' with h|h
    ·
     go_enter Try.func45,Try.ntmps45
     go_wp2_with fail
     refine (HH.out _ (by (repeat first|exact Fr.refl _ _|assumption|apply Fr.n|apply Fr.d|apply Fr.a|refine Fr.s ?_ (.inr (by simp;try omega)) _))).mono ?_
     rintro e w1 ⟨rfl,hf⟩
     have hb_:=(hf.block (w.heap.size) (by first|(simp;done)|(simp;omega)) (by simp)).trans (show _=some (.cells #[.int .i64 r.S,.slice ha r.hood.length hc,.slice na r.nodes.length nc] 31 (0,0)) by (repeat first|rw [if_pos (by omega)]|rw [if_neg (by omega)]|rw [hDR]|rw [hDN]|rw [hAz]|rw [hSz]|rw [hAC]|rw [hSC]|rw [oMS]|rw [uPC]|rw [lSZ]|rw [lSS]|rfl))
     have b0:=hEC hb_ 0
     have b1:=hEC hb_ 1
     have b2:=hEC hb_ 2
     have bl:=lBk hb_
     have Hb:=Lib.hid hb_
     clear hb_
     have Hf:=Lib.hid (Fr.trans0 (by (repeat first|exact Fr.refl _ _|assumption|apply Fr.n|apply Fr.d|apply Fr.a|refine Fr.s ?_ (.inr (by simp;try omega)) _):Fr [] w _) hf)
     clear hf
     go_wp2
     all_goals
      go_ret
      exact⟨ret_bool' HN.out.symm,by first|((repeat first|exact Fr.refl _ _|assumption|apply Fr.n|apply Fr.d|apply Fr.a|refine Fr.s ?_ (.inr (by simp;try omega)) _);done)|(have:=Hf.out;(repeat first|exact Fr.refl _ _|assumption|apply Fr.n|apply Fr.d|apply Fr.a|refine Fr.s ?_ (.inr (by simp;try omega)) _);done)⟩
    ·
     go_enter Try.func45,Try.ntmps45
     go_wp2_with fail
     refine (HH.out _ (by (repeat first|exact Fr.refl _ _|assumption|apply Fr.n|apply Fr.d|apply Fr.a|refine Fr.s ?_ (.inr (by simp;try omega)) _))).mono ?_
     rintro e w1 ⟨rfl,hf⟩
     have hb_:=(hf.block (w.heap.size) (by first|(simp;done)|(simp;omega)) (by simp)).trans (show _=some (.cells #[.int .i64 r.S,.slice ha r.hood.length hc,.slice na r.nodes.length nc] 31 (0,0)) by (repeat first|rw [if_pos (by omega)]|rw [if_neg (by omega)]|rw [hDR]|rw [hDN]|rw [hAz]|rw [hSz]|rw [hAC]|rw [hSC]|rw [oMS]|rw [uPC]|rw [lSZ]|rw [lSS]|rfl))
     have b0:=hEC hb_ 0
     have b1:=hEC hb_ 1
     have b2:=hEC hb_ 2
     have bl:=lBk hb_
     have Hb:=Lib.hid hb_
     clear hb_
     have Hf:=Lib.hid (Fr.trans0 (by (repeat first|exact Fr.refl _ _|assumption|apply Fr.n|apply Fr.d|apply Fr.a|refine Fr.s ?_ (.inr (by simp;try omega)) _):Fr [] w _) hf)
     clear hf
     go_wp2
     all_goals
      go_ret
      exact⟨ret_bool' HN.out.symm,by first|((repeat first|exact Fr.refl _ _|assumption|apply Fr.n|apply Fr.d|apply Fr.a|refine Fr.s ?_ (.inr (by simp;try omega)) _);done)|(have:=Hf.out;(repeat first|exact Fr.refl _ _|assumption|apply Fr.n|apply Fr.d|apply Fr.a|refine Fr.s ?_ (.inr (by simp;try omega)) _);done)⟩
 ·have HN:=Lib.hid (rightR_S hS)
  have hS':r.S<2∨8<r.S:=by omega
  clear hS
  rcases hS' with h|h
  ·go_enter Try.func45,Try.ntmps45
   go_wp2
   all_goals
    go_ret
    exact⟨ret_bool' HN.out.symm,by first|((repeat first|exact Fr.refl _ _|assumption|apply Fr.n|apply Fr.d|apply Fr.a|refine Fr.s ?_ (.inr (by simp;try omega)) _);done)|(have:=Hf.out;(repeat first|exact Fr.refl _ _|assumption|apply Fr.n|apply Fr.d|apply Fr.a|refine Fr.s ?_ (.inr (by simp;try omega)) _);done)⟩
  ·go_enter Try.func45,Try.ntmps45
   go_wp2
   all_goals
    go_ret
    exact⟨ret_bool' HN.out.symm,by first|((repeat first|exact Fr.refl _ _|assumption|apply Fr.n|apply Fr.d|apply Fr.a|refine Fr.s ?_ (.inr (by simp;try omega)) _);done)|(have:=Hf.out;(repeat first|exact Fr.refl _ _|assumption|apply Fr.n|apply Fr.d|apply Fr.a|refine Fr.s ?_ (.inr (by simp;try omega)) _);done)⟩
end Go.Proofs.Ytppmnmheodimoaa
end
section
namespace Go.Proofs.Ytppmnmheodimoaa
open Go Go.RowKit Rg Mp Hp Qs
set_option maxHeartbeats 1000000 in
theorem Clone_nil (n c:Nat) (w:World) :
  Calls Try.prog 59 #[.slice none n c] w fun e w'=>e=.returned (.slice none 0 0)∧w=w':=by
 have h1:=fun w:World=>Lib.run_eql_slice_nil (P:=Try.prog) w 37 77 none n c 0 0 Try.underlying37
 go_enter Try.func59,Try.ntmps59
 go_wp2
 go_ret
 exact⟨rfl,rfl⟩
def ClonePost (w:World) (n:Nat) (xs:List Value) (e:Ending) (w':World):Prop:=∃ v,e=.returned v∧w'.ownsRow w.heap.size 77 4 v n xs∧Fr [] w w'
set_option maxHeartbeats 1000000 in
theorem Clone_some (g off n c:Nat) (xs:List Value) (w:World) (hx:xs.length=n*4) (hc:∀ j u,xs[j]?=some u→w.cell? ⟨g,off+j,none⟩=some u) (h1:∀ u∈xs,u.oneCell'=true) (hn:n≤4398046511096) (hg:g<w.heap.size) :
  Calls Try.prog 59 #[.slice (some ⟨g,off,none⟩) n c] w (ClonePost w n xs):=by
 have hnil:=fun w:World=>Lib.run_eql_slice_nil (P:=Try.prog) w 37 77 (some ⟨g,off,none⟩) n c 0 0 Try.underlying37
 obtain⟨i0,hi0,hi1,hi2,hi3⟩:=info_parts info_quad
 have Hx:=Lib.hid hx
 have Hc:=Lib.hid hc
 have H1:=Lib.hid h1
 clear hx hc h1
 go_enter Try.func59,Try.ntmps59
 go_wp2_with (at_builtin;refine wpList_append_own_at _ rfl _ _ 37 rfl w.heap.size 77 i0 _ 4 32 Try.underlying37 hi0 hi1 hi2 hi3 rfl (by decide) _ 0 [] rfl ?e1 ⟨g,off,none⟩ n c xs rfl Hx.out ?e2 H1.out ?e3 ?e4 ?e5 ?_)
 case e1=>exact⟨rfl,.inr ⟨w.heap.size,0,#[],rfl,Nat.le_refl _,by rw [hAC,if_pos rfl],Nat.le_refl _,Nat.zero_le _,rfl,rfl⟩⟩
 case e2 =>
  intro j u hj
  have:=Hc.out j u hj
  have ha:(⟨g,off,none⟩:Addr).add j=⟨g,off+j,none⟩:=by
   unfold Addr.add
   split
   ·rename_i h0;rw [h0];rfl
   ·rfl
  rw [ha,World.cell?_alloc_past _ _ _ hg]
  exact this
 case e3=>unfold maxLen;omega
 case e4=>omega
 case e5=>rw [hAz];omega
 intro v' w1 hown hgrow _ hloc
 try simp only [Nat.zero_add,List.nil_append] at hown
 go_wp2
 go_ret
 exact⟨v',rfl,hown,((Fr.refl _ _).alloc _).grown hgrow (by intro x hx;simp [Value.ownBlock] at hx;omega)⟩
set_option maxHeartbeats 1000000 in
theorem Data_calls {w:World} {b:Nat} {s:Int} {ns:List K4} {F:List Nat} (hS:StoreAt w b s ns F) :
  Calls Try.prog 35 #[.pointer (some ⟨b,0,none⟩)] w fun e w'=>∃ v,e=.returned (.agg #[.int .i64 s,v])∧w'.ownsRow w.heap.size 77 4 v ns.length (flat ns)∧Fr [] w w':=by
 obtain⟨hgood,nv,lv,mb,hI,rfl⟩:=hS
 have hC:∀ w1,Fr [] w w1→Calls Try.prog 59 #[nv] w1 (ClonePost w1 ns.length (flat ns)):=fun w1 hf=>by
  obtain⟨na,nc,rfl,_,hnone⟩:=oFM hI.nodes
  have hI1:=hI.keep fun x hx=>hf.block x (hI.lt x hx) (by simp)
  rcases hI.nodes.2 with ⟨h,h0⟩|⟨g,cap,cur,h,_⟩
  ·simp only [Value.slice.injEq] at h
   obtain⟨rfl,_,rfl⟩:=h
   refine (Clone_nil _ _ w1).mono ?_
   rintro e w' ⟨rfl,rfl⟩
   have:ns=[]:=List.eq_nil_of_length_eq_zero h0
   subst this
   exact⟨_,rfl,World.ownsRow_nil _ _ _ _,Fr.refl _ _⟩
  ·simp only [Value.slice.injEq] at h
   obtain⟨rfl,_,rfl⟩:=h
   exact Clone_some g 0 ns.length _ _ w1 (flat_length ns) (fun j u hj=>by rw [Nat.zero_add];exact owns_cell hI1.nodes rfl hj) (flat_one ns) (by have:=hgood.2.2.1;omega) (oLT hI1.nodes rfl)
 have h0:=hEC hI.blk 0
 have h1:=hEC hI.blk 1
 have hb:=lBk hI.blk
 have HI:=Lib.hid hI
 clear hI
 obtain⟨na,nc,rfl,_,_⟩:=oFM HI.out.nodes
 go_enter Try.func35,Try.ntmps35
 go_wp2
 refine wRS [([0,1,2,3,4,5,6,7,8],[3]),([9,10],[])] (by kernel_rfl) (by kernel_rfl) ?_
 simp only [wpSegs,pick,Array.getD_eq_getD_getElem?,List.getElem?_toArray,List.getElem?_cons_succ,List.getElem?_cons_zero,Option.getD_some]
 go_wp2_with fail
 refine (hC _ ?_).mono ?_
 ·repeat (first|exact Fr.refl _ _|apply Fr.drewN|apply Fr.drew|apply Fr.alloc)
 rintro e w1 ⟨v,rfl,hown,hf⟩
 have hfw:Fr [] w w1:=(((Fr.refl _ _).alloc _).drew).trans0 hf
 have c0:w1.cell? ⟨b,0,none⟩=some (.int .i64 s):=(hfw.cell (p:=⟨b,0,none⟩) hb (by simp)).trans h0
 have hl:w1.heap[w.heap.size]?=some (.cells #[.int .i64 0,.slice none 0 0] 39 (0,0)):=(hf.block _ (by rw [hDR,hAz];omega) (by simp)).trans (by rw [hDR,hAC,if_pos rfl])
 have l0:=hEC hl 0
 have l1:=hEC hl 1
 have g0:=hEF hl 0
 have g1:=hEF hl 1
 obtain⟨va,vc,rfl,hva,hvn⟩:=oFM hown
 have hne:(Value.slice va ns.length vc).ownBlock≠some w.heap.size:=fun e=>by
  have:=owns_ge hown e;rw [hDR,hAz] at this;omega
 have Hown:=Lib.hid hown
 have Hne:=Lib.hid hne
 have Hf:=Lib.hid hfw
 have Hl:=Lib.hid hl
 clear hown hva hvn hf hfw hl hne
 go_wp2
 refine Mid.intro ⟨⟨again_cell (T:=3) rfl rfl rfl Try.underlying3 rfl c0 rfl,trivial⟩,?_⟩
 go_wp2
 refine Mid.intro ⟨trivial,Strict.intro rfl ?_⟩
 go_wp2
 exact bodyPost_ret (v:=.agg #[.int .i64 s,.slice va ns.length vc]) (by simp [results,Try.results35,go_sem,l0,l1]) rfl
  ⟨_,rfl,oOB (base:=w.heap.size) (owns_base Hown.out (by rw [hDR,hAz];omega)) fun x hx=>heap_setCell2 _ _ _ _ _ _ (fun e=>Hne.out (by rw [hx,e])),by repeat (first|exact Hf.out|apply Fr.drewN|apply Fr.drew|apply Fr.alloc|refine Fr.setCell ?_ (Or.inr (by simp)) _)⟩
end Go.Proofs.Ytppmnmheodimoaa
end
section
namespace Go.Proofs.Ytppmnmheodimoaa
open Go Go.RowKit Rg Mp Hp Qs Ev
section
variable {W w:World} {b:Nat} {s:Int} {ns:List K4} {Ps:List Res}
theorem Data_has (h:Has W w (sTR b s ns::Ps)) :
  Calls Try.prog 35 #[.pointer (some ⟨b,0,none⟩)] w fun e w'=>∃ a c,e=.returned (.agg #[.int .i64 s,.slice a ns.length c])∧w'.ownsRow w.heap.size 77 4 (.slice a ns.length c) ns.length (flat ns)∧Has W w' (sTR b s ns::Ps)∧Fr [] w w':=by
 obtain⟨F,hS⟩:=h.head
 refine (Data_calls hS).mono ?_
 rintro e w' ⟨v,rfl,ho,hf⟩
 obtain⟨a,c,rfl,_⟩:=oFM ho
 exact⟨a,c,rfl,ho,h.step hf,hf⟩
end
end Go.Proofs.Ytppmnmheodimoaa
end
