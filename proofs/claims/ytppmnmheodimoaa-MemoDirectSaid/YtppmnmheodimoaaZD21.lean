/- Own texts of this claim, part 22: no condition. -/
import Derived.Deep.DeepCutAuto
import Derived.Test.YtppmnmheodimoaaZD8
section
namespace Go.Proofs.Ytppmnmheodimoaa
open Go Go.RowKit Rg Mp Hp Qs Ev
set_option linter.unusedVariables false
set_option linter.unusedSimpArgs false
set_option maxHeartbeats 16000000 in
set_option maxRecDepth 100000 in
theorem parts_calls {W w:World} {r:Rule} {hv nv:Value} {mb sb rb:Nat} {L:List Tr} {ns:List K4} {mm:List ((Int×Int)×Int)} {Ps:List Res} {n k:Nat} {id:Int} {t:Tr} {two:Bool} (h:Has W w (memoL r hv nv mb sb rb ns mm Ps)) (hroom:room r.S ns L) (hkept:Kept r ns mm) (hi:Is r.S ns (n+3) id t) (hn:n+3≤200) (hR:rightR r=true)
  (hlost:lostOf (radius r.hood)<n+3) (hkm:k≤n+3 - lostOf (radius r.hood)) (htwo:two=decide (k=n+3 - lostOf (radius r.hood))) (hL:∀ u∈need (gen r) (lostOf (radius r.hood)) (n+3) k t,u∈L) (hst:StepAt W r hv nv mb sb rb L (n+2)) (hsrc:RuleSrc W hv nv r Ps) :
  Calls Try.prog 61 #[.pointer (some ⟨mb,0,none⟩),.int .i64 id,.int .i64 (n+3:Nat),.int .i64 k,.bool two] w (PartPost W r hv nv mb sb rb L ns mm (n+3) (stp (gen r) (n+3) k t) Ps):=by
 obtain⟨_,_,hk⟩:=hi.node (has_good h)
 have HK:=Lib.hid (fun w1 Qs (h1:Has W w1 (memoL r hv nv mb sb rb ns mm Qs))=>Kids_has h1 hi)
 have HK1:=Lib.hid (fun w1 Qs q (hq:q<4) (h1:Has W w1 (memoL r hv nv mb sb rb ns mm Qs))=>Kids_has h1 (hk q hq))
 obtain⟨_,_,_,m3,_,_,ml⟩:=memo_cells h
 have H:=Lib.hid h
 have Hroom:=Lib.hid hroom
 have Hkept:=Lib.hid hkept
 have HG:=Lib.hid (fun y x (hy:y<4) (hx:x<4)=>hi.gid (has_good h) hy hx)
 have HP:=Lib.hid (fun y x (hy:y<3) (hx:x<3)=>hL _ (need_part (g:=gen r) (lost:=lostOf (radius r.hood)) (n:=n+2) (k:=k) (t:=t) (by omega) hy hx))
 have HST:=Lib.hid hst
 have HSRC:=Lib.hid hsrc
 have HI:=Lib.hid hi
 have HL:=Lib.hid hL
 have Htwo:=Lib.hid htwo
 clear h hk hi hroom hkept hst hL htwo hsrc
 go_enter Try.func61,Try.ntmps61
 go_wp2_with fail
 have h:=(hAL H.out #[.int .i64 0,.int .i64 0,.int .i64 0,.int .i64 0,.int .i64 0,.int .i64 0,.int .i64 0,.int .i64 0,.int .i64 0,.int .i64 0,.int .i64 0,.int .i64 0,.int .i64 0,.int .i64 0,.int .i64 0,.int .i64 0] 145).back4
 refine (HK.out _ _ h).mono ?_
 rintro e w3 ⟨rfl,h,hf⟩
 obtain⟨cb,hcb⟩:∃ cb,w.heap.size=cb:=⟨_,rfl⟩
 rw [hcb] at h ⊢
 have H3:=Lib.hid h
 clear h hf hcb H m3 ml
 go_wp2
 go_loopw [43] (fun x wr=>∃ z:Int,x=.int .i64 z∧At5 (fun q=>Has W wr (memoL r hv nv mb sb rb ns mm (Hp.blk cb (.cells (iv (tab16 (gtab r.S ns id) (q*4))).toArray 145 (0,0))::Ps))) z) (fun x _=>4 - (intOf x).toNat)
 case atStart=>exact⟨0,rfl,.inl ⟨rfl,H3.out.step ((Fr.refl [] w3).alloc _)⟩⟩
 case round =>
  obtain⟨z,rfl,hz⟩:=hrel
  clear H3
  rcases hz with ⟨rfl,h⟩|⟨rfl,h⟩|⟨rfl,h⟩|⟨rfl,h⟩|⟨rfl,h⟩
  ·
   have H:=Lib.hid h
   obtain⟨_,_,_,m3,_,_,ml⟩:=memo_cells h
   clear h
   go_wp2_with fail
   refine (HK1.out _ _ 0 (by omega) H.out).mono ?_
   rintro e w5 ⟨rfl,h,hf⟩
   have H5:=Lib.hid h
   clear h hf m3 ml H
   go_wp2
   go_loopw [57] (fun x wr=>∃ z:Int,x=.int .i64 z∧At5 (fun k=>Has W wr (memoL r hv nv mb sb rb ns mm (Hp.blk cb (.cells (iv (tab16 (gtab r.S ns id) (0*4+k))).toArray 145 (0,0))::Ps))) z) (fun x _=>4 - (intOf x).toNat)
   case atStart=>exact⟨0,rfl,.inl ⟨rfl,H5.out.step ((Fr.refl [] w5).alloc _)⟩⟩
   case round =>
    clear H5
    obtain⟨z,rfl,hz⟩:=hrel
    rcases hz with ⟨rfl,h⟩|⟨rfl,h⟩|⟨rfl,h⟩|⟨rfl,h⟩|⟨rfl,h⟩
    ·
     have H:=Lib.hid h
     have hc:=tab_cell h.fourth (j:=0) (by omega)
     have hz:=(hCE h.fourth).2.1 0
     have hl:=(hCE h.fourth).2.2
     clear h
     go_wp2
     go_roundw
     case rel=>exact⟨1,rfl,(.inr (.inl ⟨rfl,(tab_set_has (m:=0*4+0) H.out.fourth (by omega) rfl rfl).back4⟩))⟩
     case measure=>simp [intOf]
    ·
     have H:=Lib.hid h
     have hc:=tab_cell h.fourth (j:=1) (by omega)
     have hz:=(hCE h.fourth).2.1 1
     have hl:=(hCE h.fourth).2.2
     clear h
     go_wp2
     go_roundw
     case rel=>exact⟨2,rfl,(.inr (.inr (.inl ⟨rfl,(tab_set_has (m:=0*4+1) H.out.fourth (by omega) rfl rfl).back4⟩)))⟩
     case measure=>simp [intOf]
    ·
     have H:=Lib.hid h
     have hc:=tab_cell h.fourth (j:=4) (by omega)
     have hz:=(hCE h.fourth).2.1 4
     have hl:=(hCE h.fourth).2.2
     clear h
     go_wp2
     go_roundw
     case rel=>exact⟨3,rfl,(.inr (.inr (.inr (.inl ⟨rfl,(tab_set_has (m:=0*4+2) H.out.fourth (by omega) rfl rfl).back4⟩))))⟩
     case measure=>simp [intOf]
    ·
     have H:=Lib.hid h
     have hc:=tab_cell h.fourth (j:=5) (by omega)
     have hz:=(hCE h.fourth).2.1 5
     have hl:=(hCE h.fourth).2.2
     clear h
     go_wp2
     go_roundw
     case rel=>exact⟨4,rfl,(.inr (.inr (.inr (.inr ⟨rfl,(tab_set_has (m:=0*4+3) H.out.fourth (by omega) rfl rfl).back4⟩))))⟩
     case measure=>simp [intOf]
    ·have H:=Lib.hid h
     clear h
     go_wp2
     go_roundw
     case rel=>exact⟨1,rfl,(.inr (.inl ⟨rfl,H.out⟩))⟩
     case measure=>simp [intOf]
  ·
   have H:=Lib.hid h
   obtain⟨_,_,_,m3,_,_,ml⟩:=memo_cells h
   clear h
   go_wp2_with fail
   refine (HK1.out _ _ 1 (by omega) H.out).mono ?_
   rintro e w5 ⟨rfl,h,hf⟩
   have H5:=Lib.hid h
   clear h hf m3 ml H
   go_wp2
   go_loopw [57] (fun x wr=>∃ z:Int,x=.int .i64 z∧At5 (fun k=>Has W wr (memoL r hv nv mb sb rb ns mm (Hp.blk cb (.cells (iv (tab16 (gtab r.S ns id) (1*4+k))).toArray 145 (0,0))::Ps))) z) (fun x _=>4 - (intOf x).toNat)
   case atStart=>exact⟨0,rfl,.inl ⟨rfl,H5.out.step ((Fr.refl [] w5).alloc _)⟩⟩
   case round =>
    clear H5
    obtain⟨z,rfl,hz⟩:=hrel
    rcases hz with ⟨rfl,h⟩|⟨rfl,h⟩|⟨rfl,h⟩|⟨rfl,h⟩|⟨rfl,h⟩
    ·
     have H:=Lib.hid h
     have hc:=tab_cell h.fourth (j:=2) (by omega)
     have hz:=(hCE h.fourth).2.1 2
     have hl:=(hCE h.fourth).2.2
     clear h
     go_wp2
     go_roundw
     case rel=>exact⟨1,rfl,(.inr (.inl ⟨rfl,(tab_set_has (m:=1*4+0) H.out.fourth (by omega) rfl rfl).back4⟩))⟩
     case measure=>simp [intOf]
    ·
     have H:=Lib.hid h
     have hc:=tab_cell h.fourth (j:=3) (by omega)
     have hz:=(hCE h.fourth).2.1 3
     have hl:=(hCE h.fourth).2.2
     clear h
     go_wp2
     go_roundw
     case rel=>exact⟨2,rfl,(.inr (.inr (.inl ⟨rfl,(tab_set_has (m:=1*4+1) H.out.fourth (by omega) rfl rfl).back4⟩)))⟩
     case measure=>simp [intOf]
    ·
     have H:=Lib.hid h
     have hc:=tab_cell h.fourth (j:=6) (by omega)
     have hz:=(hCE h.fourth).2.1 6
     have hl:=(hCE h.fourth).2.2
     clear h
     go_wp2
     go_roundw
     case rel=>exact⟨3,rfl,(.inr (.inr (.inr (.inl ⟨rfl,(tab_set_has (m:=1*4+2) H.out.fourth (by omega) rfl rfl).back4⟩))))⟩
     case measure=>simp [intOf]
    ·
     have H:=Lib.hid h
     have hc:=tab_cell h.fourth (j:=7) (by omega)
     have hz:=(hCE h.fourth).2.1 7
     have hl:=(hCE h.fourth).2.2
     clear h
     go_wp2
     go_roundw
     case rel=>exact⟨4,rfl,(.inr (.inr (.inr (.inr ⟨rfl,(tab_set_has (m:=1*4+3) H.out.fourth (by omega) rfl rfl).back4⟩))))⟩
     case measure=>simp [intOf]
    ·have H:=Lib.hid h
     clear h
     go_wp2
     go_roundw
     case rel=>exact⟨2,rfl,(.inr (.inr (.inl ⟨rfl,H.out⟩)))⟩
     case measure=>simp [intOf]
  ·
   have H:=Lib.hid h
   obtain⟨_,_,_,m3,_,_,ml⟩:=memo_cells h
   clear h
   go_wp2_with fail
   refine (HK1.out _ _ 2 (by omega) H.out).mono ?_
   rintro e w5 ⟨rfl,h,hf⟩
   have H5:=Lib.hid h
   clear h hf m3 ml H
   go_wp2
   go_loopw [57] (fun x wr=>∃ z:Int,x=.int .i64 z∧At5 (fun k=>Has W wr (memoL r hv nv mb sb rb ns mm (Hp.blk cb (.cells (iv (tab16 (gtab r.S ns id) (2*4+k))).toArray 145 (0,0))::Ps))) z) (fun x _=>4 - (intOf x).toNat)
   case atStart=>exact⟨0,rfl,.inl ⟨rfl,H5.out.step ((Fr.refl [] w5).alloc _)⟩⟩
   case round =>
    clear H5
    obtain⟨z,rfl,hz⟩:=hrel
    rcases hz with ⟨rfl,h⟩|⟨rfl,h⟩|⟨rfl,h⟩|⟨rfl,h⟩|⟨rfl,h⟩
    ·
     have H:=Lib.hid h
     have hc:=tab_cell h.fourth (j:=8) (by omega)
     have hz:=(hCE h.fourth).2.1 8
     have hl:=(hCE h.fourth).2.2
     clear h
     go_wp2
     go_roundw
     case rel=>exact⟨1,rfl,(.inr (.inl ⟨rfl,(tab_set_has (m:=2*4+0) H.out.fourth (by omega) rfl rfl).back4⟩))⟩
     case measure=>simp [intOf]
    ·
     have H:=Lib.hid h
     have hc:=tab_cell h.fourth (j:=9) (by omega)
     have hz:=(hCE h.fourth).2.1 9
     have hl:=(hCE h.fourth).2.2
     clear h
     go_wp2
     go_roundw
     case rel=>exact⟨2,rfl,(.inr (.inr (.inl ⟨rfl,(tab_set_has (m:=2*4+1) H.out.fourth (by omega) rfl rfl).back4⟩)))⟩
     case measure=>simp [intOf]
    ·
     have H:=Lib.hid h
     have hc:=tab_cell h.fourth (j:=12) (by omega)
     have hz:=(hCE h.fourth).2.1 12
     have hl:=(hCE h.fourth).2.2
     clear h
     go_wp2
     go_roundw
     case rel=>exact⟨3,rfl,(.inr (.inr (.inr (.inl ⟨rfl,(tab_set_has (m:=2*4+2) H.out.fourth (by omega) rfl rfl).back4⟩))))⟩
     case measure=>simp [intOf]
    ·
     have H:=Lib.hid h
     have hc:=tab_cell h.fourth (j:=13) (by omega)
     have hz:=(hCE h.fourth).2.1 13
     have hl:=(hCE h.fourth).2.2
     clear h
     go_wp2
     go_roundw
     case rel=>exact⟨4,rfl,(.inr (.inr (.inr (.inr ⟨rfl,(tab_set_has (m:=2*4+3) H.out.fourth (by omega) rfl rfl).back4⟩))))⟩
     case measure=>simp [intOf]
    ·have H:=Lib.hid h
     clear h
     go_wp2
     go_roundw
     case rel=>exact⟨3,rfl,(.inr (.inr (.inr (.inl ⟨rfl,H.out⟩))))⟩
     case measure=>simp [intOf]
  ·
   have H:=Lib.hid h
   obtain⟨_,_,_,m3,_,_,ml⟩:=memo_cells h
   clear h
   go_wp2_with fail
   refine (HK1.out _ _ 3 (by omega) H.out).mono ?_
   rintro e w5 ⟨rfl,h,hf⟩
   have H5:=Lib.hid h
   clear h hf m3 ml H
   go_wp2
   go_loopw [57] (fun x wr=>∃ z:Int,x=.int .i64 z∧At5 (fun k=>Has W wr (memoL r hv nv mb sb rb ns mm (Hp.blk cb (.cells (iv (tab16 (gtab r.S ns id) (3*4+k))).toArray 145 (0,0))::Ps))) z) (fun x _=>4 - (intOf x).toNat)
   case atStart=>exact⟨0,rfl,.inl ⟨rfl,H5.out.step ((Fr.refl [] w5).alloc _)⟩⟩
   case round =>
    clear H5
    obtain⟨z,rfl,hz⟩:=hrel
    rcases hz with ⟨rfl,h⟩|⟨rfl,h⟩|⟨rfl,h⟩|⟨rfl,h⟩|⟨rfl,h⟩
    ·
     have H:=Lib.hid h
     have hc:=tab_cell h.fourth (j:=10) (by omega)
     have hz:=(hCE h.fourth).2.1 10
     have hl:=(hCE h.fourth).2.2
     clear h
     go_wp2
     go_roundw
     case rel=>exact⟨1,rfl,(.inr (.inl ⟨rfl,(tab_set_has (m:=3*4+0) H.out.fourth (by omega) rfl rfl).back4⟩))⟩
     case measure=>simp [intOf]
    ·
     have H:=Lib.hid h
     have hc:=tab_cell h.fourth (j:=11) (by omega)
     have hz:=(hCE h.fourth).2.1 11
     have hl:=(hCE h.fourth).2.2
     clear h
     go_wp2
     go_roundw
     case rel=>exact⟨2,rfl,(.inr (.inr (.inl ⟨rfl,(tab_set_has (m:=3*4+1) H.out.fourth (by omega) rfl rfl).back4⟩)))⟩
     case measure=>simp [intOf]
    ·
     have H:=Lib.hid h
     have hc:=tab_cell h.fourth (j:=14) (by omega)
     have hz:=(hCE h.fourth).2.1 14
     have hl:=(hCE h.fourth).2.2
     clear h
     go_wp2
     go_roundw
     case rel=>exact⟨3,rfl,(.inr (.inr (.inr (.inl ⟨rfl,(tab_set_has (m:=3*4+2) H.out.fourth (by omega) rfl rfl).back4⟩))))⟩
     case measure=>simp [intOf]
    ·
     have H:=Lib.hid h
     have hc:=tab_cell h.fourth (j:=15) (by omega)
     have hz:=(hCE h.fourth).2.1 15
     have hl:=(hCE h.fourth).2.2
     clear h
     go_wp2
     go_roundw
     case rel=>exact⟨4,rfl,(.inr (.inr (.inr (.inr ⟨rfl,(tab_set_has (m:=3*4+3) H.out.fourth (by omega) rfl rfl).back4⟩))))⟩
     case measure=>simp [intOf]
    ·have H:=Lib.hid h
     clear h
     go_wp2
     go_roundw
     case rel=>exact⟨4,rfl,(.inr (.inr (.inr (.inr ⟨rfl,H.out⟩))))⟩
     case measure=>simp [intOf]
  ·have h16:Has W wr (memoL r hv nv mb sb rb ns mm (Hp.blk cb (.cells (iv (tab16 (gtab r.S ns id) 16)).toArray 145 (0,0))::Ps)):=h
   have H16:=Lib.hid h16
   clear h h16
   cases two with
   | true =>
    have hkt:k=n+3 - lostOf (radius r.hood):=by simpa using Htwo.out
    have hl2:=lost_le (radius_le r.hood).1 (radius_le r.hood).2
    have H2:=Lib.hid (fun y x u (hy:y<3) (hx:x<3) (hu:u∈need (gen r) (lostOf (radius r.hood)) (n+2) (k - 1) (part9 t y x))=>HL.out _ (need_two (n:=n+2) (by omega) hkt hy hx hu))
    have HO:=Lib.hid (fun y x (hy:y<2) (hx:x<2)=>show out4 (gen r) (n+3) k true t y x∈L from HL.out _ (by have:=need_out (g:=gen r) (n:=n+2) (k:=k) (t:=t) (lost:=lostOf (radius r.hood)) (by omega) hy hx;rwa [decide_eq_true hkt] at this))
    have HR:=Lib.hid (fun y x u (hy:y<2) (hx:x<2) (hu:u∈need (gen r) (lostOf (radius r.hood)) (n+2) (k - 1) (out4 (gen r) (n+3) k true t y x))=>HL.out _ (need_res (n:=n+2) (by omega) hy hx (by rw [if_pos hkt,decide_eq_true hkt];exact hu)))
    have HLAST:=Lib.hid (HL.out _ (need_last (g:=gen r) (n:=n+2) (k:=k) (t:=t) (lost:=lostOf (radius r.hood)) (by omega)))
    have hmar:=fun k' (h:k'≤n+2 - lostOf (radius r.hood))=>margin (radius_le r.hood).1 (radius_le r.hood).2 (n:=n+2) (k:=k') (by omega) h
    have HHASH:=Lib.hid (hash (gen_local hR) (n:=n+3) (k:=k) (two:=true) (t:=t) (by omega) HI.out.2.2.1 (fun _=>⟨by omega,hmar (k - 1) (by omega)⟩) (by simp))
    clear hmar
    have hk1:1≤k:=by omega
    have hk2:k - 1≤n+2 - lostOf (radius r.hood):=by omega
    have HKT:=Lib.hid hkt
    clear hkt
    go_wp2
    obtain⟨ib,hib⟩:∃ ib,wr.heap.size=ib:=⟨_,rfl⟩
    have h0:=(hAL H16.out #[.int .i64 0,.int .i64 0,.int .i64 0,.int .i64 0,.int .i64 0,.int .i64 0,.int .i64 0,.int .i64 0,.int .i64 0] 147).back4
    rw [hib] at h0 ⊢
    have H0:=Lib.hid h0
    clear h0 hib H16
    go_loopw [82] (fun x wl=>∃ y:Nat,x=.int .i64 y∧y≤3∧∃ ns' mm' I,InnerSt W wl r hv nv mb sb rb L ns mm Ps n (inner9 (gen r) (n+3) k true t) ib cb id ns' mm' I (y*3)) (fun x _=>3 - (intOf x).toNat)
    case atStart=>exact⟨0,rfl,by omega,ns,mm,[0,0,0,0,0,0,0,0,0],⟨H0.out,rfl,List.prefix_refl _,Hroom.out,Hkept.out,Keeps.refl _,fun j hj=>by omega⟩⟩
    case round =>
     clear H0
     obtain⟨y,rfl,hy,ns1,mm1,I,hs⟩:=hrel
     have HS:=Lib.hid hs
     clear hs
     by_cases hy3:y<3
     ·have hdy:decide ((y:Int)<3)=true:=by simp;omega
      go_wp2
      go_loopw [85] (fun x wi=>∃ x':Nat,x=.int .i64 x'∧x'≤3∧∃ ns' mm' I,InnerSt W wi r hv nv mb sb rb L ns mm Ps n (inner9 (gen r) (n+3) k true t) ib cb id ns' mm' I (y*3+x')) (fun x _=>3 - (intOf x).toNat)
      case atStart=>exact⟨0,rfl,by omega,ns1,mm1,I,HS.out⟩
      case round =>
       clear HS
       obtain⟨x,rfl,hx,ns2,mm2,J,hs⟩:=hrel
       by_cases hx3:x<3
       ·have e00:=hs.cb_cell (y:=y) (x:=x) (by omega) (by omega)
        have e01:=hs.cb_cell (y:=y) (x:=x+1) (by omega) (by omega)
        have e10:=hs.cb_cell (y:=y+1) (x:=x) (by omega) (by omega)
        have e11:=hs.cb_cell (y:=y+1) (x:=x+1) (by omega) (by omega)
        obtain⟨_,_,_,m3,_,_,ml⟩:=memo_cells hs.has
        have cl:=(hCE hs.has.fourth.drop.fourth).2.2
        have HS:=Lib.hid hs
        have HJ:=Lib.hid (fun w1 (hf:Fr [] wr w1)=>JoinRoom_has (hs.has.step hf) hs.room (by omega) ((HG.out y x (by omega) (by omega)).grow hs.pre) ((HG.out y (x+1) (by omega) (by omega)).grow hs.pre) ((HG.out (y+1) x (by omega) (by omega)).grow hs.pre) ((HG.out (y+1) (x+1) (by omega) (by omega)).grow hs.pre) (HP.out y x hy3 hx3))
        clear hs
        go_wp2
        (refine wRT (by kernel_rfl) (by kernel_rfl) ?_)
        go_wp2_with fail
        refine (HJ.out _ (by (repeat first|exact Fr.refl _ _|assumption|apply Fr.n|apply Fr.d|apply Fr.a|refine Fr.s ?_ (.inr (by simp;try omega)) _))).mono ?_
        rintro e w5 ⟨id1,ns3,rfl,h1,h2,h3,h4⟩
        obtain⟨_,_,_,m3,_,_,ml⟩:=memo_cells h1
        have H5:=Lib.hid (And.intro h1 (And.intro h2 (And.intro h3 h4)))
        clear e00 e01 e10 e11 cl h1 h2 h3 h4
        go_wp2
        refine Strict.intro rfl ?_
        have HSt:=Lib.hid (fun (z1 z2:Int) (e1:z1=((n+2:Nat):Int)) (e2:z2=((k - 1:Nat):Int))=>HST.out.run e1 e2 H5.out.1 H5.out.2.2.1 (HS.out.kept.grow H5.out.2.1) H5.out.2.2.2 (by omega) (by omega) (fun u hu=>H2.out y x u hy3 hx3 hu) (HSRC.out.more fun P hP=>by simp [hP]))
        go_wp2_with fail
        refine (HSt.out _ _ (by omega) (by omega)).mono ?_
        rintro e w6 ⟨res,ns4,mm4,rfl,g1,g2,g3,g4,g6,g5,_,_⟩
        clear HSt
        have g2:=H5.out.2.1.trans g2
        have hc:=blk_cell g1.fourth (j:=y*3+x) (by have:=HS.out.len;omega)
        have hz:=(hCE g1.fourth).2.1 (y*3+x)
        have hl:=(hCE g1.fourth).2.2
        have HF:=Lib.hid (HS.out.put (by omega) g1 g2 g3 g4 g5 (by rw [show (y*3+x) / 3=y by omega,show (y*3+x) % 3=x by omega];exact g6))
        clear g1 g2 g3 g4 g5 g6 m3 ml H5
        go_wp2
        go_roundw
        case rel=>exact⟨x+1,by go_num,by omega,_,_,_,HF.out⟩
        case measure=>simp [intOf];omega
       ·obtain rfl:x=3:=by omega
        have HS:=Lib.hid hs
        clear hs
        go_wp2
        go_roundw
        case rel=>exact⟨y+1,by go_num,by omega,_,_,_,by rw [show (y+1)*3=y*3+3 by omega];exact HS.out⟩
        case measure=>simp [intOf];omega
     ·have hdy:decide ((y:Int)<3)=false:=by simp;omega
      obtain⟨hx1,hx2,hx3,hx4,hx5,hx6,hx7⟩:=HS.out
      have HX1:=Lib.hid hx1
      have HXL:=Lib.hid hx2
      have HX3:=Lib.hid hx3
      have HX4:=Lib.hid hx4
      have HX5:=Lib.hid hx5
      have HX6:=Lib.hid hx6
      have HXD:=Lib.hid (fun a b (ha:a<3) (hb:b<3)=>show Is r.S ns1 (n+1) (I.getD (a*3+b) 0) (inner9 (gen r) (n+3) k true t a b) by
       have:=hx7 (a*3+b) (by omega)
       rwa [show (a*3+b) / 3=a by omega,show (a*3+b) % 3=b by omega] at this)
      clear hx1 hx2 hx3 hx4 hx5 hx6 hx7 HS
      go_wp2
      obtain⟨ob,hob⟩:∃ ob,wr.heap.size=ob:=⟨_,rfl⟩
      have h0:=(hAL HX1.out #[.int .i64 0,.int .i64 0,.int .i64 0,.int .i64 0] 75).back4
      rw [hob] at h0 ⊢
      have H0:=Lib.hid h0
      clear h0 hob HX1
      go_loopw [155] (fun x wl=>∃ z:Int,x=.int .i64 z∧At5 (fun m=>∃ ns' mm' O,OutSt W wl r hv nv mb sb rb L ns mm Ps n (res4 (gen r) (n+3) k true t) ob ib cb id ns1 I ns' mm' O m) z) (fun x _=>4 - (intOf x).toNat)
      case atStart=>exact⟨0,rfl,.inl ⟨rfl,ns1,mm1,[0,0,0,0],⟨H0.out,rfl,HX3.out,HX4.out,HX5.out,HX6.out,List.prefix_refl _,fun j hj=>by omega⟩⟩⟩
      case round =>
       clear H0
       obtain⟨z,rfl,hz⟩:=hrel
       rcases hz with ⟨rfl,ns2,mm2,O,hs⟩|⟨rfl,ns2,mm2,O,hs⟩|⟨rfl,ns2,mm2,O,hs⟩|⟨rfl,ns2,mm2,O,hs⟩|⟨rfl,ns2,mm2,O,hs⟩
       ·
        obtain⟨_,_,_,m3,_,_,ml⟩:=memo_cells hs.has
        have i0:=blk_cell hs.ib_has (j:=0) (by rw [HXL.out];omega)
        have i1:=blk_cell hs.ib_has (j:=1) (by rw [HXL.out];omega)
        have i2:=blk_cell hs.ib_has (j:=3) (by rw [HXL.out];omega)
        have i3:=blk_cell hs.ib_has (j:=4) (by rw [HXL.out];omega)
        have il:=(hCE hs.ib_has).2.2
        have HJ:=Lib.hid (fun w1 (hf:Fr [] wr w1)=>JoinRoom_has (hs.has.step hf) hs.room (by omega) ((HXD.out 0 0 (by omega) (by omega)).grow hs.pre1) ((HXD.out 0 (0+1) (by omega) (by omega)).grow hs.pre1) ((HXD.out (0+1) 0 (by omega) (by omega)).grow hs.pre1) ((HXD.out (0+1) (0+1) (by omega) (by omega)).grow hs.pre1) (HO.out 0 0 (by omega) (by omega)))
        have HS:=Lib.hid hs
        clear hs
        go_wp2
        (refine wRT (by kernel_rfl) (by kernel_rfl) ?_)
        go_wp2_with fail
        refine (HJ.out _ (by (repeat first|exact Fr.refl _ _|assumption|apply Fr.n|apply Fr.d|apply Fr.a|refine Fr.s ?_ (.inr (by simp;try omega)) _))).mono ?_
        rintro e w5 ⟨id1,ns3,rfl,h1,h2,h3,h4⟩
        have H5:=Lib.hid (And.intro h1 (And.intro h2 (And.intro h3 h4)))
        clear i0 i1 i2 i3 il h1 h2 h3 h4 m3 ml
        go_wp2
        refine Strict.intro rfl ?_
        have HSt:=Lib.hid (fun (z1 z2:Int) (e1:z1=((n+2:Nat):Int)) (e2:z2=(((k-1):Nat):Int))=>HST.out.run e1 e2 H5.out.1 H5.out.2.2.1 (HS.out.kept.grow H5.out.2.1) H5.out.2.2.2 (by omega) (by omega) (fun u hu=>HR.out 0 0 u (by omega) (by omega) hu) (HSRC.out.more fun P hP=>by simp [hP]))
        go_wp2_with fail
        refine (HSt.out _ _ (by omega) (by omega)).mono ?_
        rintro e w6 ⟨res,ns4,mm4,rfl,g1,g2,g3,g4,g6,g5,_,_⟩
        have g2:=H5.out.2.1.trans g2
        have hc:=blk_cell g1.fourth (j:=0) (by have:=HS.out.len;omega)
        have hz:=(hCE g1.fourth).2.1 0
        have hl:=(hCE g1.fourth).2.2
        have HF:=Lib.hid (HS.out.put (by omega) g1 g2 g3 g4 g5 g6)
        clear HSt g1 g2 g3 g4 g5 g6 H5
        go_wp2
        go_roundw
        case rel=>exact⟨1,rfl,(.inr (.inl ⟨rfl,_,_,_,HF.out⟩))⟩
        case measure=>simp [intOf]
       ·
        obtain⟨_,_,_,m3,_,_,ml⟩:=memo_cells hs.has
        have i0:=blk_cell hs.ib_has (j:=1) (by rw [HXL.out];omega)
        have i1:=blk_cell hs.ib_has (j:=2) (by rw [HXL.out];omega)
        have i2:=blk_cell hs.ib_has (j:=4) (by rw [HXL.out];omega)
        have i3:=blk_cell hs.ib_has (j:=5) (by rw [HXL.out];omega)
        have il:=(hCE hs.ib_has).2.2
        have HJ:=Lib.hid (fun w1 (hf:Fr [] wr w1)=>JoinRoom_has (hs.has.step hf) hs.room (by omega) ((HXD.out 0 1 (by omega) (by omega)).grow hs.pre1) ((HXD.out 0 (1+1) (by omega) (by omega)).grow hs.pre1) ((HXD.out (0+1) 1 (by omega) (by omega)).grow hs.pre1) ((HXD.out (0+1) (1+1) (by omega) (by omega)).grow hs.pre1) (HO.out 0 1 (by omega) (by omega)))
        have HS:=Lib.hid hs
        clear hs
        go_wp2
        (refine wRT (by kernel_rfl) (by kernel_rfl) ?_)
        go_wp2_with fail
        refine (HJ.out _ (by (repeat first|exact Fr.refl _ _|assumption|apply Fr.n|apply Fr.d|apply Fr.a|refine Fr.s ?_ (.inr (by simp;try omega)) _))).mono ?_
        rintro e w5 ⟨id1,ns3,rfl,h1,h2,h3,h4⟩
        have H5:=Lib.hid (And.intro h1 (And.intro h2 (And.intro h3 h4)))
        clear i0 i1 i2 i3 il h1 h2 h3 h4 m3 ml
        go_wp2
        refine Strict.intro rfl ?_
        have HSt:=Lib.hid (fun (z1 z2:Int) (e1:z1=((n+2:Nat):Int)) (e2:z2=(((k-1):Nat):Int))=>HST.out.run e1 e2 H5.out.1 H5.out.2.2.1 (HS.out.kept.grow H5.out.2.1) H5.out.2.2.2 (by omega) (by omega) (fun u hu=>HR.out 0 1 u (by omega) (by omega) hu) (HSRC.out.more fun P hP=>by simp [hP]))
        go_wp2_with fail
        refine (HSt.out _ _ (by omega) (by omega)).mono ?_
        rintro e w6 ⟨res,ns4,mm4,rfl,g1,g2,g3,g4,g6,g5,_,_⟩
        have g2:=H5.out.2.1.trans g2
        have hc:=blk_cell g1.fourth (j:=1) (by have:=HS.out.len;omega)
        have hz:=(hCE g1.fourth).2.1 1
        have hl:=(hCE g1.fourth).2.2
        have HF:=Lib.hid (HS.out.put (by omega) g1 g2 g3 g4 g5 g6)
        clear HSt g1 g2 g3 g4 g5 g6 H5
        go_wp2
        go_roundw
        case rel=>exact⟨2,rfl,(.inr (.inr (.inl ⟨rfl,_,_,_,HF.out⟩)))⟩
        case measure=>simp [intOf]
       ·
        obtain⟨_,_,_,m3,_,_,ml⟩:=memo_cells hs.has
        have i0:=blk_cell hs.ib_has (j:=3) (by rw [HXL.out];omega)
        have i1:=blk_cell hs.ib_has (j:=4) (by rw [HXL.out];omega)
        have i2:=blk_cell hs.ib_has (j:=6) (by rw [HXL.out];omega)
        have i3:=blk_cell hs.ib_has (j:=7) (by rw [HXL.out];omega)
        have il:=(hCE hs.ib_has).2.2
        have HJ:=Lib.hid (fun w1 (hf:Fr [] wr w1)=>JoinRoom_has (hs.has.step hf) hs.room (by omega) ((HXD.out 1 0 (by omega) (by omega)).grow hs.pre1) ((HXD.out 1 (0+1) (by omega) (by omega)).grow hs.pre1) ((HXD.out (1+1) 0 (by omega) (by omega)).grow hs.pre1) ((HXD.out (1+1) (0+1) (by omega) (by omega)).grow hs.pre1) (HO.out 1 0 (by omega) (by omega)))
        have HS:=Lib.hid hs
        clear hs
        go_wp2
        (refine wRT (by kernel_rfl) (by kernel_rfl) ?_)
        go_wp2_with fail
        refine (HJ.out _ (by (repeat first|exact Fr.refl _ _|assumption|apply Fr.n|apply Fr.d|apply Fr.a|refine Fr.s ?_ (.inr (by simp;try omega)) _))).mono ?_
        rintro e w5 ⟨id1,ns3,rfl,h1,h2,h3,h4⟩
        have H5:=Lib.hid (And.intro h1 (And.intro h2 (And.intro h3 h4)))
        clear i0 i1 i2 i3 il h1 h2 h3 h4 m3 ml
        go_wp2
        refine Strict.intro rfl ?_
        have HSt:=Lib.hid (fun (z1 z2:Int) (e1:z1=((n+2:Nat):Int)) (e2:z2=(((k-1):Nat):Int))=>HST.out.run e1 e2 H5.out.1 H5.out.2.2.1 (HS.out.kept.grow H5.out.2.1) H5.out.2.2.2 (by omega) (by omega) (fun u hu=>HR.out 1 0 u (by omega) (by omega) hu) (HSRC.out.more fun P hP=>by simp [hP]))
        go_wp2_with fail
        refine (HSt.out _ _ (by omega) (by omega)).mono ?_
        rintro e w6 ⟨res,ns4,mm4,rfl,g1,g2,g3,g4,g6,g5,_,_⟩
        have g2:=H5.out.2.1.trans g2
        have hc:=blk_cell g1.fourth (j:=2) (by have:=HS.out.len;omega)
        have hz:=(hCE g1.fourth).2.1 2
        have hl:=(hCE g1.fourth).2.2
        have HF:=Lib.hid (HS.out.put (by omega) g1 g2 g3 g4 g5 g6)
        clear HSt g1 g2 g3 g4 g5 g6 H5
        go_wp2
        go_roundw
        case rel=>exact⟨3,rfl,(.inr (.inr (.inr (.inl ⟨rfl,_,_,_,HF.out⟩))))⟩
        case measure=>simp [intOf]
       ·
        obtain⟨_,_,_,m3,_,_,ml⟩:=memo_cells hs.has
        have i0:=blk_cell hs.ib_has (j:=4) (by rw [HXL.out];omega)
        have i1:=blk_cell hs.ib_has (j:=5) (by rw [HXL.out];omega)
        have i2:=blk_cell hs.ib_has (j:=7) (by rw [HXL.out];omega)
        have i3:=blk_cell hs.ib_has (j:=8) (by rw [HXL.out];omega)
        have il:=(hCE hs.ib_has).2.2
        have HJ:=Lib.hid (fun w1 (hf:Fr [] wr w1)=>JoinRoom_has (hs.has.step hf) hs.room (by omega) ((HXD.out 1 1 (by omega) (by omega)).grow hs.pre1) ((HXD.out 1 (1+1) (by omega) (by omega)).grow hs.pre1) ((HXD.out (1+1) 1 (by omega) (by omega)).grow hs.pre1) ((HXD.out (1+1) (1+1) (by omega) (by omega)).grow hs.pre1) (HO.out 1 1 (by omega) (by omega)))
        have HS:=Lib.hid hs
        clear hs
        go_wp2
        (refine wRT (by kernel_rfl) (by kernel_rfl) ?_)
        go_wp2_with fail
        refine (HJ.out _ (by (repeat first|exact Fr.refl _ _|assumption|apply Fr.n|apply Fr.d|apply Fr.a|refine Fr.s ?_ (.inr (by simp;try omega)) _))).mono ?_
        rintro e w5 ⟨id1,ns3,rfl,h1,h2,h3,h4⟩
        have H5:=Lib.hid (And.intro h1 (And.intro h2 (And.intro h3 h4)))
        clear i0 i1 i2 i3 il h1 h2 h3 h4 m3 ml
        go_wp2
        refine Strict.intro rfl ?_
        have HSt:=Lib.hid (fun (z1 z2:Int) (e1:z1=((n+2:Nat):Int)) (e2:z2=(((k-1):Nat):Int))=>HST.out.run e1 e2 H5.out.1 H5.out.2.2.1 (HS.out.kept.grow H5.out.2.1) H5.out.2.2.2 (by omega) (by omega) (fun u hu=>HR.out 1 1 u (by omega) (by omega) hu) (HSRC.out.more fun P hP=>by simp [hP]))
        go_wp2_with fail
        refine (HSt.out _ _ (by omega) (by omega)).mono ?_
        rintro e w6 ⟨res,ns4,mm4,rfl,g1,g2,g3,g4,g6,g5,_,_⟩
        have g2:=H5.out.2.1.trans g2
        have hc:=blk_cell g1.fourth (j:=3) (by have:=HS.out.len;omega)
        have hz:=(hCE g1.fourth).2.1 3
        have hl:=(hCE g1.fourth).2.2
        have HF:=Lib.hid (HS.out.put (by omega) g1 g2 g3 g4 g5 g6)
        clear HSt g1 g2 g3 g4 g5 g6 H5
        go_wp2
        go_roundw
        case rel=>exact⟨4,rfl,(.inr (.inr (.inr (.inr ⟨rfl,_,_,_,HF.out⟩))))⟩
        case measure=>simp [intOf]
       ·obtain⟨_,_,_,m3,_,_,ml⟩:=memo_cells hs.has
        have o0:=blk_cell hs.has.fourth (j:=0) (by have:=hs.len;omega)
        have o1:=blk_cell hs.has.fourth (j:=1) (by have:=hs.len;omega)
        have o2:=blk_cell hs.has.fourth (j:=2) (by have:=hs.len;omega)
        have o3:=blk_cell hs.has.fourth (j:=3) (by have:=hs.len;omega)
        have ol:=(hCE hs.has.fourth).2.2
        have HJ:=Lib.hid (fun w1 (hf:Fr [] wr w1)=>JoinRoom_has (hs.has.step hf) hs.room (by omega) (hs.done 0 (by omega)) (hs.done 1 (by omega)) (hs.done 2 (by omega)) (hs.done 3 (by omega)) (show four4 (res4 (gen r) (n+3) k true t) 0 0∈L by rw [HHASH.out];exact HLAST.out))
        have HS:=Lib.hid hs
        clear hs
        go_wp2
        (refine wRT (by kernel_rfl) (by kernel_rfl) ?_)
        go_wp2_with fail
        refine (HJ.out _ (by (repeat first|exact Fr.refl _ _|assumption|apply Fr.n|apply Fr.d|apply Fr.a|refine Fr.s ?_ (.inr (by simp;try omega)) _))).mono ?_
        rintro e w5 ⟨id1,ns3,rfl,h1,h2,h3,h4⟩
        have H5:=Lib.hid (And.intro h1 (And.intro h2 (And.intro h3 h4)))
        clear o0 o1 o2 o3 ol h1 h2 h3 h4 m3 ml
        go_wp2
        refine Strict.intro rfl ?_
        go_wp2
        go_ret2
        exact⟨id1,ns3,mm2,rfl,H5.out.1.fourth.drop.fourth.drop.fourth.drop,HS.out.pre.trans H5.out.2.1,H5.out.2.2.1,HS.out.kept.grow H5.out.2.1,by rw [← HHASH.out];exact H5.out.2.2.2,HS.out.keeps⟩
   | false =>
    have hkt:¬ k=n+3 - lostOf (radius r.hood):=by simpa using Htwo.out
    have hl2:=lost_le (radius_le r.hood).1 (radius_le r.hood).2
    have H2:=Lib.hid (fun y x (hy:y<3) (hx:x<3)=>HL.out _ (need_ctr (g:=gen r) (n:=n+2) (t:=t) (by omega) hkt hy hx))
    have HO:=Lib.hid (fun y x (hy:y<2) (hx:x<2)=>show out4 (gen r) (n+3) k false t y x∈L from HL.out _ (by have:=need_out (g:=gen r) (n:=n+2) (k:=k) (t:=t) (lost:=lostOf (radius r.hood)) (by omega) hy hx;rwa [decide_eq_false hkt] at this))
    have HR:=Lib.hid (fun y x u (hy:y<2) (hx:x<2) (hu:u∈need (gen r) (lostOf (radius r.hood)) (n+2) k (out4 (gen r) (n+3) k false t y x))=>HL.out _ (need_res (n:=n+2) (by omega) hy hx (by rw [if_neg hkt,decide_eq_false hkt];exact hu)))
    have HLAST:=Lib.hid (HL.out _ (need_last (g:=gen r) (n:=n+2) (k:=k) (t:=t) (lost:=lostOf (radius r.hood)) (by omega)))
    have hmar:=fun k' (h:k'≤n+2 - lostOf (radius r.hood))=>margin (radius_le r.hood).1 (radius_le r.hood).2 (n:=n+2) (k:=k') (by omega) h
    have HHASH:=Lib.hid (hash (gen_local hR) (n:=n+3) (k:=k) (two:=false) (t:=t) (by omega) HI.out.2.2.1 (by simp) (fun _=>hmar k (by omega)))
    clear hmar
    have hk2:k≤n+2 - lostOf (radius r.hood):=by omega
    have HKT:=Lib.hid hkt
    clear hkt
    go_wp2
    obtain⟨ib,hib⟩:∃ ib,wr.heap.size=ib:=⟨_,rfl⟩
    have h0:=(hAL H16.out #[.int .i64 0,.int .i64 0,.int .i64 0,.int .i64 0,.int .i64 0,.int .i64 0,.int .i64 0,.int .i64 0,.int .i64 0] 147).back4
    rw [hib] at h0 ⊢
    have H0:=Lib.hid h0
    clear h0 hib H16
    go_loopw [82] (fun x wl=>∃ y:Nat,x=.int .i64 y∧y≤3∧∃ ns' mm' I,InnerSt W wl r hv nv mb sb rb L ns mm Ps n (inner9 (gen r) (n+3) k false t) ib cb id ns' mm' I (y*3)) (fun x _=>3 - (intOf x).toNat)
    case atStart=>exact⟨0,rfl,by omega,ns,mm,[0,0,0,0,0,0,0,0,0],⟨H0.out,rfl,List.prefix_refl _,Hroom.out,Hkept.out,Keeps.refl _,fun j hj=>by omega⟩⟩
    case round =>
     clear H0
     obtain⟨y,rfl,hy,ns1,mm1,I,hs⟩:=hrel
     have HS:=Lib.hid hs
     clear hs
     by_cases hy3:y<3
     ·have hdy:decide ((y:Int)<3)=true:=by simp;omega
      go_wp2
      go_loopw [85] (fun x wi=>∃ x':Nat,x=.int .i64 x'∧x'≤3∧∃ ns' mm' I,InnerSt W wi r hv nv mb sb rb L ns mm Ps n (inner9 (gen r) (n+3) k false t) ib cb id ns' mm' I (y*3+x')) (fun x _=>3 - (intOf x).toNat)
      case atStart=>exact⟨0,rfl,by omega,ns1,mm1,I,HS.out⟩
      case round =>
       clear HS
       obtain⟨x,rfl,hx,ns2,mm2,J,hs⟩:=hrel
       by_cases hx3:x<3
       ·have e00:=hs.cb_cell (y:=y) (x:=x) (by omega) (by omega)
        have e01:=hs.cb_cell (y:=y) (x:=x+1) (by omega) (by omega)
        have e10:=hs.cb_cell (y:=y+1) (x:=x) (by omega) (by omega)
        have e11:=hs.cb_cell (y:=y+1) (x:=x+1) (by omega) (by omega)
        obtain⟨_,_,_,m3,_,_,ml⟩:=memo_cells hs.has
        have cl:=(hCE hs.has.fourth.drop.fourth).2.2
        have HS:=Lib.hid hs
        have HJ:=Lib.hid (fun w1 (hf:Fr [] wr w1)=>JoinRoom_has (hs.has.step hf) hs.room (by omega) ((HG.out y x (by omega) (by omega)).grow hs.pre) ((HG.out y (x+1) (by omega) (by omega)).grow hs.pre) ((HG.out (y+1) x (by omega) (by omega)).grow hs.pre) ((HG.out (y+1) (x+1) (by omega) (by omega)).grow hs.pre) (HP.out y x hy3 hx3))
        clear hs
        go_wp2
        (refine wRT (by kernel_rfl) (by kernel_rfl) ?_)
        go_wp2_with fail
        refine (HJ.out _ (by (repeat first|exact Fr.refl _ _|assumption|apply Fr.n|apply Fr.d|apply Fr.a|refine Fr.s ?_ (.inr (by simp;try omega)) _))).mono ?_
        rintro e w5 ⟨id1,ns3,rfl,h1,h2,h3,h4⟩
        obtain⟨_,_,_,m3,_,_,ml⟩:=memo_cells h1
        have H5:=Lib.hid (And.intro h1 (And.intro h2 (And.intro h3 h4)))
        clear e00 e01 e10 e11 cl h1 h2 h3 h4
        go_wp2
        refine Strict.intro rfl ?_
        have HCe:=Lib.hid (Centre_has H5.out.1 H5.out.2.2.1 (by omega) H5.out.2.2.2 (H2.out y x hy3 hx3))
        go_wp2_with fail
        refine HCe.out.mono ?_
        rintro e w6 ⟨res,ns4,rfl,g1,g2,g3,g6⟩
        have g2:=H5.out.2.1.trans g2
        have g4:=HS.out.kept.grow g2
        have g5:=Keeps.refl mm2
        clear HCe
        have hc:=blk_cell g1.fourth (j:=y*3+x) (by have:=HS.out.len;omega)
        have hz:=(hCE g1.fourth).2.1 (y*3+x)
        have hl:=(hCE g1.fourth).2.2
        have HF:=Lib.hid (HS.out.put (by omega) g1 g2 g3 g4 g5 (by rw [show (y*3+x) / 3=y by omega,show (y*3+x) % 3=x by omega];exact g6))
        clear g1 g2 g3 g4 g5 g6 m3 ml H5
        go_wp2
        go_roundw
        case rel=>exact⟨x+1,by go_num,by omega,_,_,_,HF.out⟩
        case measure=>simp [intOf];omega
       ·obtain rfl:x=3:=by omega
        have HS:=Lib.hid hs
        clear hs
        go_wp2
        go_roundw
        case rel=>exact⟨y+1,by go_num,by omega,_,_,_,by rw [show (y+1)*3=y*3+3 by omega];exact HS.out⟩
        case measure=>simp [intOf];omega
     ·have hdy:decide ((y:Int)<3)=false:=by simp;omega
      obtain⟨hx1,hx2,hx3,hx4,hx5,hx6,hx7⟩:=HS.out
      have HX1:=Lib.hid hx1
      have HXL:=Lib.hid hx2
      have HX3:=Lib.hid hx3
      have HX4:=Lib.hid hx4
      have HX5:=Lib.hid hx5
      have HX6:=Lib.hid hx6
      have HXD:=Lib.hid (fun a b (ha:a<3) (hb:b<3)=>show Is r.S ns1 (n+1) (I.getD (a*3+b) 0) (inner9 (gen r) (n+3) k false t a b) by
       have:=hx7 (a*3+b) (by omega)
       rwa [show (a*3+b) / 3=a by omega,show (a*3+b) % 3=b by omega] at this)
      clear hx1 hx2 hx3 hx4 hx5 hx6 hx7 HS
      go_wp2
      obtain⟨ob,hob⟩:∃ ob,wr.heap.size=ob:=⟨_,rfl⟩
      have h0:=(hAL HX1.out #[.int .i64 0,.int .i64 0,.int .i64 0,.int .i64 0] 75).back4
      rw [hob] at h0 ⊢
      have H0:=Lib.hid h0
      clear h0 hob HX1
      go_loopw [155] (fun x wl=>∃ z:Int,x=.int .i64 z∧At5 (fun m=>∃ ns' mm' O,OutSt W wl r hv nv mb sb rb L ns mm Ps n (res4 (gen r) (n+3) k false t) ob ib cb id ns1 I ns' mm' O m) z) (fun x _=>4 - (intOf x).toNat)
      case atStart=>exact⟨0,rfl,.inl ⟨rfl,ns1,mm1,[0,0,0,0],⟨H0.out,rfl,HX3.out,HX4.out,HX5.out,HX6.out,List.prefix_refl _,fun j hj=>by omega⟩⟩⟩
      case round =>
       clear H0
       obtain⟨z,rfl,hz⟩:=hrel
       rcases hz with ⟨rfl,ns2,mm2,O,hs⟩|⟨rfl,ns2,mm2,O,hs⟩|⟨rfl,ns2,mm2,O,hs⟩|⟨rfl,ns2,mm2,O,hs⟩|⟨rfl,ns2,mm2,O,hs⟩
       ·
        obtain⟨_,_,_,m3,_,_,ml⟩:=memo_cells hs.has
        have i0:=blk_cell hs.ib_has (j:=0) (by rw [HXL.out];omega)
        have i1:=blk_cell hs.ib_has (j:=1) (by rw [HXL.out];omega)
        have i2:=blk_cell hs.ib_has (j:=3) (by rw [HXL.out];omega)
        have i3:=blk_cell hs.ib_has (j:=4) (by rw [HXL.out];omega)
        have il:=(hCE hs.ib_has).2.2
        have HJ:=Lib.hid (fun w1 (hf:Fr [] wr w1)=>JoinRoom_has (hs.has.step hf) hs.room (by omega) ((HXD.out 0 0 (by omega) (by omega)).grow hs.pre1) ((HXD.out 0 (0+1) (by omega) (by omega)).grow hs.pre1) ((HXD.out (0+1) 0 (by omega) (by omega)).grow hs.pre1) ((HXD.out (0+1) (0+1) (by omega) (by omega)).grow hs.pre1) (HO.out 0 0 (by omega) (by omega)))
        have HS:=Lib.hid hs
        clear hs
        go_wp2
        (refine wRT (by kernel_rfl) (by kernel_rfl) ?_)
        go_wp2_with fail
        refine (HJ.out _ (by (repeat first|exact Fr.refl _ _|assumption|apply Fr.n|apply Fr.d|apply Fr.a|refine Fr.s ?_ (.inr (by simp;try omega)) _))).mono ?_
        rintro e w5 ⟨id1,ns3,rfl,h1,h2,h3,h4⟩
        have H5:=Lib.hid (And.intro h1 (And.intro h2 (And.intro h3 h4)))
        clear i0 i1 i2 i3 il h1 h2 h3 h4 m3 ml
        go_wp2
        refine Strict.intro rfl ?_
        have HSt:=Lib.hid (fun (z1 z2:Int) (e1:z1=((n+2:Nat):Int)) (e2:z2=((k:Nat):Int))=>HST.out.run e1 e2 H5.out.1 H5.out.2.2.1 (HS.out.kept.grow H5.out.2.1) H5.out.2.2.2 (by omega) (by omega) (fun u hu=>HR.out 0 0 u (by omega) (by omega) hu) (HSRC.out.more fun P hP=>by simp [hP]))
        go_wp2_with fail
        refine (HSt.out _ _ (by omega) (by omega)).mono ?_
        rintro e w6 ⟨res,ns4,mm4,rfl,g1,g2,g3,g4,g6,g5,_,_⟩
        have g2:=H5.out.2.1.trans g2
        have hc:=blk_cell g1.fourth (j:=0) (by have:=HS.out.len;omega)
        have hz:=(hCE g1.fourth).2.1 0
        have hl:=(hCE g1.fourth).2.2
        have HF:=Lib.hid (HS.out.put (by omega) g1 g2 g3 g4 g5 g6)
        clear HSt g1 g2 g3 g4 g5 g6 H5
        go_wp2
        go_roundw
        case rel=>exact⟨1,rfl,(.inr (.inl ⟨rfl,_,_,_,HF.out⟩))⟩
        case measure=>simp [intOf]
       ·
        obtain⟨_,_,_,m3,_,_,ml⟩:=memo_cells hs.has
        have i0:=blk_cell hs.ib_has (j:=1) (by rw [HXL.out];omega)
        have i1:=blk_cell hs.ib_has (j:=2) (by rw [HXL.out];omega)
        have i2:=blk_cell hs.ib_has (j:=4) (by rw [HXL.out];omega)
        have i3:=blk_cell hs.ib_has (j:=5) (by rw [HXL.out];omega)
        have il:=(hCE hs.ib_has).2.2
        have HJ:=Lib.hid (fun w1 (hf:Fr [] wr w1)=>JoinRoom_has (hs.has.step hf) hs.room (by omega) ((HXD.out 0 1 (by omega) (by omega)).grow hs.pre1) ((HXD.out 0 (1+1) (by omega) (by omega)).grow hs.pre1) ((HXD.out (0+1) 1 (by omega) (by omega)).grow hs.pre1) ((HXD.out (0+1) (1+1) (by omega) (by omega)).grow hs.pre1) (HO.out 0 1 (by omega) (by omega)))
        have HS:=Lib.hid hs
        clear hs
        go_wp2
        (refine wRT (by kernel_rfl) (by kernel_rfl) ?_)
        go_wp2_with fail
        refine (HJ.out _ (by (repeat first|exact Fr.refl _ _|assumption|apply Fr.n|apply Fr.d|apply Fr.a|refine Fr.s ?_ (.inr (by simp;try omega)) _))).mono ?_
        rintro e w5 ⟨id1,ns3,rfl,h1,h2,h3,h4⟩
        have H5:=Lib.hid (And.intro h1 (And.intro h2 (And.intro h3 h4)))
        clear i0 i1 i2 i3 il h1 h2 h3 h4 m3 ml
        go_wp2
        refine Strict.intro rfl ?_
        have HSt:=Lib.hid (fun (z1 z2:Int) (e1:z1=((n+2:Nat):Int)) (e2:z2=((k:Nat):Int))=>HST.out.run e1 e2 H5.out.1 H5.out.2.2.1 (HS.out.kept.grow H5.out.2.1) H5.out.2.2.2 (by omega) (by omega) (fun u hu=>HR.out 0 1 u (by omega) (by omega) hu) (HSRC.out.more fun P hP=>by simp [hP]))
        go_wp2_with fail
        refine (HSt.out _ _ (by omega) (by omega)).mono ?_
        rintro e w6 ⟨res,ns4,mm4,rfl,g1,g2,g3,g4,g6,g5,_,_⟩
        have g2:=H5.out.2.1.trans g2
        have hc:=blk_cell g1.fourth (j:=1) (by have:=HS.out.len;omega)
        have hz:=(hCE g1.fourth).2.1 1
        have hl:=(hCE g1.fourth).2.2
        have HF:=Lib.hid (HS.out.put (by omega) g1 g2 g3 g4 g5 g6)
        clear HSt g1 g2 g3 g4 g5 g6 H5
        go_wp2
        go_roundw
        case rel=>exact⟨2,rfl,(.inr (.inr (.inl ⟨rfl,_,_,_,HF.out⟩)))⟩
        case measure=>simp [intOf]
       ·
        obtain⟨_,_,_,m3,_,_,ml⟩:=memo_cells hs.has
        have i0:=blk_cell hs.ib_has (j:=3) (by rw [HXL.out];omega)
        have i1:=blk_cell hs.ib_has (j:=4) (by rw [HXL.out];omega)
        have i2:=blk_cell hs.ib_has (j:=6) (by rw [HXL.out];omega)
        have i3:=blk_cell hs.ib_has (j:=7) (by rw [HXL.out];omega)
        have il:=(hCE hs.ib_has).2.2
        have HJ:=Lib.hid (fun w1 (hf:Fr [] wr w1)=>JoinRoom_has (hs.has.step hf) hs.room (by omega) ((HXD.out 1 0 (by omega) (by omega)).grow hs.pre1) ((HXD.out 1 (0+1) (by omega) (by omega)).grow hs.pre1) ((HXD.out (1+1) 0 (by omega) (by omega)).grow hs.pre1) ((HXD.out (1+1) (0+1) (by omega) (by omega)).grow hs.pre1) (HO.out 1 0 (by omega) (by omega)))
        have HS:=Lib.hid hs
        clear hs
        go_wp2
        (refine wRT (by kernel_rfl) (by kernel_rfl) ?_)
        go_wp2_with fail
        refine (HJ.out _ (by (repeat first|exact Fr.refl _ _|assumption|apply Fr.n|apply Fr.d|apply Fr.a|refine Fr.s ?_ (.inr (by simp;try omega)) _))).mono ?_
        rintro e w5 ⟨id1,ns3,rfl,h1,h2,h3,h4⟩
        have H5:=Lib.hid (And.intro h1 (And.intro h2 (And.intro h3 h4)))
        clear i0 i1 i2 i3 il h1 h2 h3 h4 m3 ml
        go_wp2
        refine Strict.intro rfl ?_
        have HSt:=Lib.hid (fun (z1 z2:Int) (e1:z1=((n+2:Nat):Int)) (e2:z2=((k:Nat):Int))=>HST.out.run e1 e2 H5.out.1 H5.out.2.2.1 (HS.out.kept.grow H5.out.2.1) H5.out.2.2.2 (by omega) (by omega) (fun u hu=>HR.out 1 0 u (by omega) (by omega) hu) (HSRC.out.more fun P hP=>by simp [hP]))
        go_wp2_with fail
        refine (HSt.out _ _ (by omega) (by omega)).mono ?_
        rintro e w6 ⟨res,ns4,mm4,rfl,g1,g2,g3,g4,g6,g5,_,_⟩
        have g2:=H5.out.2.1.trans g2
        have hc:=blk_cell g1.fourth (j:=2) (by have:=HS.out.len;omega)
        have hz:=(hCE g1.fourth).2.1 2
        have hl:=(hCE g1.fourth).2.2
        have HF:=Lib.hid (HS.out.put (by omega) g1 g2 g3 g4 g5 g6)
        clear HSt g1 g2 g3 g4 g5 g6 H5
        go_wp2
        go_roundw
        case rel=>exact⟨3,rfl,(.inr (.inr (.inr (.inl ⟨rfl,_,_,_,HF.out⟩))))⟩
        case measure=>simp [intOf]
       ·
        obtain⟨_,_,_,m3,_,_,ml⟩:=memo_cells hs.has
        have i0:=blk_cell hs.ib_has (j:=4) (by rw [HXL.out];omega)
        have i1:=blk_cell hs.ib_has (j:=5) (by rw [HXL.out];omega)
        have i2:=blk_cell hs.ib_has (j:=7) (by rw [HXL.out];omega)
        have i3:=blk_cell hs.ib_has (j:=8) (by rw [HXL.out];omega)
        have il:=(hCE hs.ib_has).2.2
        have HJ:=Lib.hid (fun w1 (hf:Fr [] wr w1)=>JoinRoom_has (hs.has.step hf) hs.room (by omega) ((HXD.out 1 1 (by omega) (by omega)).grow hs.pre1) ((HXD.out 1 (1+1) (by omega) (by omega)).grow hs.pre1) ((HXD.out (1+1) 1 (by omega) (by omega)).grow hs.pre1) ((HXD.out (1+1) (1+1) (by omega) (by omega)).grow hs.pre1) (HO.out 1 1 (by omega) (by omega)))
        have HS:=Lib.hid hs
        clear hs
        go_wp2
        (refine wRT (by kernel_rfl) (by kernel_rfl) ?_)
        go_wp2_with fail
        refine (HJ.out _ (by (repeat first|exact Fr.refl _ _|assumption|apply Fr.n|apply Fr.d|apply Fr.a|refine Fr.s ?_ (.inr (by simp;try omega)) _))).mono ?_
        rintro e w5 ⟨id1,ns3,rfl,h1,h2,h3,h4⟩
        have H5:=Lib.hid (And.intro h1 (And.intro h2 (And.intro h3 h4)))
        clear i0 i1 i2 i3 il h1 h2 h3 h4 m3 ml
        go_wp2
        refine Strict.intro rfl ?_
        have HSt:=Lib.hid (fun (z1 z2:Int) (e1:z1=((n+2:Nat):Int)) (e2:z2=((k:Nat):Int))=>HST.out.run e1 e2 H5.out.1 H5.out.2.2.1 (HS.out.kept.grow H5.out.2.1) H5.out.2.2.2 (by omega) (by omega) (fun u hu=>HR.out 1 1 u (by omega) (by omega) hu) (HSRC.out.more fun P hP=>by simp [hP]))
        go_wp2_with fail
        refine (HSt.out _ _ (by omega) (by omega)).mono ?_
        rintro e w6 ⟨res,ns4,mm4,rfl,g1,g2,g3,g4,g6,g5,_,_⟩
        have g2:=H5.out.2.1.trans g2
        have hc:=blk_cell g1.fourth (j:=3) (by have:=HS.out.len;omega)
        have hz:=(hCE g1.fourth).2.1 3
        have hl:=(hCE g1.fourth).2.2
        have HF:=Lib.hid (HS.out.put (by omega) g1 g2 g3 g4 g5 g6)
        clear HSt g1 g2 g3 g4 g5 g6 H5
        go_wp2
        go_roundw
        case rel=>exact⟨4,rfl,(.inr (.inr (.inr (.inr ⟨rfl,_,_,_,HF.out⟩))))⟩
        case measure=>simp [intOf]
       ·obtain⟨_,_,_,m3,_,_,ml⟩:=memo_cells hs.has
        have o0:=blk_cell hs.has.fourth (j:=0) (by have:=hs.len;omega)
        have o1:=blk_cell hs.has.fourth (j:=1) (by have:=hs.len;omega)
        have o2:=blk_cell hs.has.fourth (j:=2) (by have:=hs.len;omega)
        have o3:=blk_cell hs.has.fourth (j:=3) (by have:=hs.len;omega)
        have ol:=(hCE hs.has.fourth).2.2
        have HJ:=Lib.hid (fun w1 (hf:Fr [] wr w1)=>JoinRoom_has (hs.has.step hf) hs.room (by omega) (hs.done 0 (by omega)) (hs.done 1 (by omega)) (hs.done 2 (by omega)) (hs.done 3 (by omega)) (show four4 (res4 (gen r) (n+3) k false t) 0 0∈L by rw [HHASH.out];exact HLAST.out))
        have HS:=Lib.hid hs
        clear hs
        go_wp2
        (refine wRT (by kernel_rfl) (by kernel_rfl) ?_)
        go_wp2_with fail
        refine (HJ.out _ (by (repeat first|exact Fr.refl _ _|assumption|apply Fr.n|apply Fr.d|apply Fr.a|refine Fr.s ?_ (.inr (by simp;try omega)) _))).mono ?_
        rintro e w5 ⟨id1,ns3,rfl,h1,h2,h3,h4⟩
        have H5:=Lib.hid (And.intro h1 (And.intro h2 (And.intro h3 h4)))
        clear o0 o1 o2 o3 ol h1 h2 h3 h4 m3 ml
        go_wp2
        refine Strict.intro rfl ?_
        go_wp2
        go_ret2
        exact⟨id1,ns3,mm2,rfl,H5.out.1.fourth.drop.fourth.drop.fourth.drop,HS.out.pre.trans H5.out.2.1,H5.out.2.2.1,HS.out.kept.grow H5.out.2.1,by rw [← HHASH.out];exact H5.out.2.2.2,HS.out.keeps⟩
end Go.Proofs.Ytppmnmheodimoaa
end
