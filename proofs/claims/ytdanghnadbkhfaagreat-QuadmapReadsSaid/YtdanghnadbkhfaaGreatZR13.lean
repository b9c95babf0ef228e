/- Own texts of this claim, part 14: no condition. -/
import Derived.Test.YtdanghnadbkhfaaGreatZR12
import Derived.Test.YtdanghnadbkhfaaGreatZR4
set_option linter.unusedVariables false
set_option linter.unusedSimpArgs false
section
namespace Go.Proofs.YtdanghnadbkhfaaGreat
open Go Go.RowKit Rg Mp Hp Qs Ev Bn
theorem _root_.Go.Proofs.Hp.Has.f7 {W w:World} {A B C D E F G P:Res} {Ys:List Res} (h:Has W w (A::B::C::D::E::F::G::P::Ys)):Has W w (P::A::B::C::D::E::F::G::Ys):=h.front (Xs:=[A,B,C,D,E,F,G])
abbrev FV:=Bool×BV×BV×BV×BV
def fCL (f:FV):Array Value:=#[.bool false,.slice f.2.1.2.1 (zd (f.2.1.1:Int)).length f.2.1.2.2,.bool false,.slice f.2.2.1.2.1 (zd (f.2.2.1.1:Int)).length f.2.2.1.2.2,.bool false,.slice f.2.2.2.1.2.1 (zd (f.2.2.2.1.1:Int)).length f.2.2.2.1.2.2,.bool false,.slice f.2.2.2.2.2.1 (zd (f.2.2.2.2.1:Int)).length f.2.2.2.2.2.2,.bool f.1]
def fvV (f:FV):Value:=.agg (fCL f)
def coF (o:Option Frm):Frm:=o.getD (0,0,0,0)
def FrOk (o:Option Frm) (f:FV):Prop:=f.1=o.isSome∧(f.2.1.1:Int)=(coF o).1∧(f.2.2.1.1:Int)=(coF o).2.1∧(f.2.2.2.1.1:Int)=(coF o).2.2.1∧(f.2.2.2.2.1:Int)=(coF o).2.2.2
def InL (L:List BV) (f:FV):Prop:=f.2.1∈L∧f.2.2.1∈L∧f.2.2.2.1∈L∧f.2.2.2.2∈L
theorem InL.mono {L M:List BV} {f:FV} (h:InL L f) (hs:∀ x∈L,x∈M):InL M f:=⟨hs _ h.1,hs _ h.2.1,hs _ h.2.2.1,hs _ h.2.2.2⟩
def zBV:BV:=(0,none,0)
def zFV (ok:Bool):FV:=(ok,zBV,zBV,zBV,zBV)
def mapF (rb:Nat) (mm:List (Int×FV)):Res where
 holds w F:=MapIs w rb (Value.int .i64) fvV mm∧F=[rb]
 keep:=fun ⟨h1,h2⟩ hk=>⟨h1.of_block (hk _ (by simp [h2])),h2⟩
 lt:=fun ⟨h1,h2⟩ x hx=>by rw [h2] at hx;simp at hx;subst hx;exact h1.lt
def FInv (s:Int) (ns:List K4) (L:List BV) (mm:List (Int×FV)):Prop:=∀ e∈mm,FrOk (frT (tr s ns e.1).ht (tr s ns e.1)) e.2∧InL L e.2
theorem FInv.mono {s:Int} {ns:List K4} {L M:List BV} {mm:List (Int×FV)} (h:FInv s ns L mm) (hs:∀ x∈L,x∈M):FInv s ns M mm:=fun e he=>⟨(h e he).1,(h e he).2.mono hs⟩
def frL (b fb rb:Nat) (s:Int) (ns:List K4) (L:List BV) (mm:List (Int×FV)) (Ps:List Res):List Res :=
 poolR L::mapF rb mm::Hp.blk fb (.cells #[.pointer (some ⟨b,0,none⟩),.map (some rb)] 96 (0,0))::sTR b s ns::Ps
def FramePost (W:World) (b fb rb:Nat) (s:Int) (ns:List K4) (L:List BV) (n:Nat) (t:Tr) (Ps:List Res) (e:Ending) (w':World):Prop :=
 ∃ f L' mm',e=.returned (fvV f)∧Has W w' (frL b fb rb s ns L' mm' Ps)∧FInv s ns L' mm'∧(∀ x∈L,x∈L')∧FrOk (frT n t) f∧InL L' f
def FrameAt (W:World) (b fb rb:Nat) (s:Int) (ns:List K4) (n:Nat):Prop :=
 ∀ (w:World) (Ps:List Res) (L:List BV) (mm:List (Int×FV)) (id:Int) (t:Tr),Has W w (frL b fb rb s ns L mm Ps)→FInv s ns L mm→Is s ns n id t →
  Calls Tryz.prog 50 #[.pointer (some ⟨fb,0,none⟩),.int .i64 id] w (FramePost W b fb rb s ns L n t Ps)
theorem frame_result {fn:Func} {p:Tmp} (h:fn.results=#[.cell p 98]) {tmps:Array Value} {b:Nat} {w':World} {f:FV} (h4:tmps.getD p undef=.pointer (some ⟨b,0,none⟩)) (hb:w'.heap[b]?=some (.cells (fCL f) 98 (0,0))) :
  (results fn tmps).run Tryz.prog w'=.ok (fvV f) w':=by
 rw [results_cell1 h,h4]
 simp only [asAddr,Sem.run_pure,Result.andThen]
 rw [run_loadVar_row w' b _ _ _ _ _ hb Tryz.underlying98 rfl (by kernel_rfl)]
 rfl
theorem fcells_zero (ok:Bool):fCL (zFV ok)=#[.bool false,.slice none 0 0,.bool false,.slice none 0 0,.bool false,.slice none 0 0,.bool false,.slice none 0 0,.bool ok]:=by
 simp [fCL,zFV,zBV,zd,dg_zero]
theorem z_in {W w:World} {L:List BV} {Ps:List Res} (h:Has W w (poolR L::Ps)):Has W w (poolR (zBV::L)::Ps):=pool_add (has_zero h)
theorem fr_cells {W w:World} {b fb rb:Nat} {s:Int} {ns:List K4} {L:List BV} {mm:List (Int×FV)} {Ps:List Res} (h:Has W w (frL b fb rb s ns L mm Ps)) :
  w.cell? ⟨fb,0,none⟩=some (.pointer (some ⟨b,0,none⟩))∧w.cell? ⟨fb,1,none⟩=some (.map (some rb))∧fb<w.heap.size :=
 ⟨hEC h.f2.blk 0,hEC h.f2.blk 1,lBk h.f2.blk⟩
theorem fr_map {W w:World} {b fb rb:Nat} {s:Int} {ns:List K4} {L:List BV} {mm:List (Int×FV)} {Ps:List Res} (h:Has W w (frL b fb rb s ns L mm Ps)):MapIs w rb (Value.int .i64) fvV mm∧rb<w.heap.size:=by
 obtain⟨F,h1,h2⟩:=h.swap.head
 exact⟨h1,h1.lt⟩
theorem fput {W w:World} {rb:Nat} {mm mm':List (Int×FV)} {Ps:List Res} {q:Obj} (h:Has W w (mapF rb mm::Ps)) (hq:MapIs { w with heap:=w.heap.setIfInBounds rb q } rb (Value.int .i64) fvV mm'):Has W { w with heap:=w.heap.setIfInBounds rb q } (mapF rb mm'::Ps) :=
 h.turn fun F ⟨h1,h2⟩=>⟨F,⟨hq,h2⟩,(Fr.refl F w).setBlock (.inl (by simp [h2])) q,fun x hx=>.inl hx⟩
theorem upd_fr {ops:Array Oper} {rest:List Oper} {o:Oper} {act:Act} {Q:Exit→Act→World→Prop} {W w:World} {rb:Nat} {mm:List (Int×FV)} {id:Int} {f:FV} {P:Res} {Ps:List Res} {m x u:Operand}
  (hg:o.guard=none) (ho:o.op=.mapUpdate 94 m x u) (hm:act.eval m=.map (some rb)) (hx:act.eval x=.int .i64 id) (hu:act.eval u=fvV f) (h:Has W w (P::mapF rb mm::Ps))
  (hnext:∀ w',Has W w' (P::mapF rb (put mm id f)::Ps)→wpList Tryz.prog ops Q rest (act.put o.dst undef) w'):wpList Tryz.prog ops Q (o::rest) act w:=by
 obtain⟨F8,hM,_⟩:=h.swap.head
 exact wpList_update_is (f:=Value.int .i64) (g:=fvV) (k:=id) (v:=f) hg ho hm hx hu hM Tryz.underlying94 keysI fun q hq=>hnext _ (fput h.swap hq).swap
set_option maxHeartbeats 16000000 in
theorem frame_hit {W:World} {b fb rb:Nat} {s:Int} {ns:List K4} {n:Nat} {w:World} {Ps:List Res} {L:List BV} {mm:List (Int×FV)} {id:Int} {t:Tr} (h:Has W w (frL b fb rb s ns L mm Ps)) (hI:FInv s ns L mm) (hi:Is s ns n id t) {f:FV} (hg:get? mm id=some f) :
  Calls Tryz.prog 50 #[.pointer (some ⟨fb,0,none⟩),.int .i64 id] w (FramePost W b fb rb s ns L n t Ps):=by
 obtain⟨hm,hml⟩:=fr_map h
 obtain⟨c0,c1,cl⟩:=fr_cells h
 have hv:=hI _ (get_mem' hg)
 simp only at hv
 rw [hi.2.1,full_ht n hi.2.2.1] at hv
 have HV:=Lib.hid hv
 have HI:=Lib.hid hI
 have HM:=Lib.hid hm
 have HG:=Lib.hid hg
 have H:=Lib.hid h
 clear h hi hg hm hv hI
 go_enter Tryz.func50,Tryz.ntmps50
 go_wp2_with (at_lookup;refine wpList_lookup_hit (f:=Value.int .i64) (g:=fvV) (k:=id) (z:=fvV (zFV false)) rfl rfl rfl rfl (HM.out.of_block (hAE _ _ _ hml)) Tryz.underlying94 keysI (by kernel_rfl) HG.out ?_;simp only [fvV,fCL])
 refine bodyPost_ret (frame_result rfl (b:=w.heap.size) (f:=f) rfl ?_) rfl ⟨f,L,mm,rfl,H.out.step (by (repeat first|exact Fr.refl _ _|assumption|apply Fr.n|apply Fr.d|apply Fr.a|refine Fr.s ?_ (.inr (by simp;try omega)) _)),HI.out,fun _ hx=>hx,HV.out.1,HV.out.2⟩
 (repeat first|rw [if_pos (by omega)]|rw [if_neg (by omega)]|rw [hDR]|rw [hDN]|rw [hAz]|rw [hSz]|rw [hAC]|rw [hSC]|rw [oMS]|rw [uPC]|rw [lSZ]|rw [lSS]|rfl)
set_option maxHeartbeats 16000000 in
theorem frame_leaf {W:World} {b fb rb:Nat} {s:Int} {ns:List K4} {w:World} {Ps:List Res} {L:List BV} {mm:List (Int×FV)} {id:Int} {t:Tr} (h:Has W w (frL b fb rb s ns L mm Ps)) (hI:FInv s ns L mm) (hi:Is s ns 0 id t) (hg:get? mm id=none) :
  Calls Tryz.prog 50 #[.pointer (some ⟨fb,0,none⟩),.int .i64 id] w (FramePost W b fb rb s ns L 0 t Ps):=by
 obtain⟨h0,h1,ht⟩:=hi.zero (has_good h.f3)
 have HK:=Lib.hid (fun w1 Qs (h1:Has W w1 (sTR b s ns::Qs))=>KidsLeaf_has h1 hi)
 have hok:FrOk (frT 0 t) (zFV (decide (id > 0))):=by
  rw [ht]
  unfold frT
  by_cases hz:id=0
  ·subst hz;simp [FrOk,zFV,zBV,coF]
  ·rw [if_neg hz]
   simp [FrOk,zFV,zBV,coF];omega
 have HT:=Lib.hid hi.2.1
 have HFu:=Lib.hid (full_ht 0 hi.2.2.1)
 have HOK:=Lib.hid hok
 have HI:=Lib.hid hI
 obtain⟨ok,hk⟩:∃ ok,decide (id > 0)=ok:=⟨_,rfl⟩
 rw [hk] at HOK
 clear ht hi hok hI
 obtain⟨hm,hml⟩:=fr_map h
 obtain⟨c0,c1,cl⟩:=fr_cells h
 have HM:=Lib.hid hm
 have HG:=Lib.hid hg
 have H:=Lib.hid h
 have c03:∀ o1 o2 o3,(((w.alloc o1).alloc o2).alloc o3).cell? ⟨fb,0,none⟩=some (.pointer (some ⟨b,0,none⟩)):=fun o1 o2 o3=>(Fr.cell (((((Fr.refl [] w).alloc o1).alloc o2).alloc o3)) (p:=⟨fb,0,none⟩) cl (by simp)).trans c0
 clear hm h hg c0
 go_enter Tryz.func50,Tryz.ntmps50
 go_wp2_with (at_lookup;refine wpList_lookup_miss (f:=Value.int .i64) (g:=fvV) (k:=id) (z:=fvV (zFV false)) rfl rfl rfl rfl (HM.out.of_block (hAE _ _ _ hml)) Tryz.underlying94 keysI (by kernel_rfl) HG.out ?_;simp only [fvV,fcells_zero])
 have h1:=hAL ((hAL H.out (fCL (zFV false)) 98).step ((Fr.refl [] _).alloc (.cells (fCL (zFV false)) 98))) (fCL (zFV ok)) 98
 simp only [hAz,fcells_zero] at h1
 refine (HK.out _ _ h1.f5).mono ?_
 rintro e w2 ⟨rfl,h,hf⟩
 obtain⟨rq,hr4⟩:∃ rq,w.heap.size=rq:=⟨_,rfl⟩
 obtain⟨s7,hs7⟩:∃ s7,rq+1+1=s7:=⟨_,rfl⟩
 simp only [hr4,hs7] at h ⊢
 have h:=h.f4.swap
 clear hf h1 c03 c1 cl hml H HM HG hr4 hs7
 have hcb:=h.f5.blk
 have c0:=hEC hcb 0
 have c1:=hEC hcb 1
 have cl:=lBk hcb
 have hsb:=h.f2.blk
 have s0:=hEC hsb 0
 have s1:=hEC hsb 1
 have s2:=hEC hsb 2
 have s3:=hEC hsb 3
 have s4:=hEC hsb 4
 have s5:=hEC hsb 5
 have s6:=hEC hsb 6
 have s7':=hEC hsb 7
 have s8:=hEC hsb 8
 have sl:=lBk hsb
 have H4:=Lib.hid h
 clear h hcb hsb
 go_wp2
 (refine wRT (by kernel_rfl) (by kernel_rfl) ?_)
 go_wp2_with (at_mapUpdate;refine upd_fr (id:=id) (f:=(zFV ok)) rfl rfl rfl rfl (by rw [show fvV (zFV ok)=_ from congrArg Value.agg (fcells_zero ok)];rfl) (H4.out.step (by (repeat first|exact Fr.refl _ _|assumption|apply Fr.n|apply Fr.d|apply Fr.a|refine Fr.s ?_ (.inr (by simp;try omega)) _))) ?_)
 clear c0 c1 cl s0 s1 s2 s3 s4 s5 s6 s7' s8 sl
 intro w8 h5
 have hsb:=h5.f2.blk
 have hr4:=h5.f3.blk
 have s0:=hEC hsb 0
 have s1:=hEC hsb 1
 have s2:=hEC hsb 2
 have s3:=hEC hsb 3
 have s4:=hEC hsb 4
 have s5:=hEC hsb 5
 have s6:=hEC hsb 6
 have s7':=hEC hsb 7
 have s8:=hEC hsb 8
 have sl:=lBk hsb
 have r0:=hEC hr4 0
 have r1:=hEC hr4 1
 have r2:=hEC hr4 2
 have r3:=hEC hr4 3
 have r4:=hEC hr4 4
 have r5:=hEC hr4 5
 have r6:=hEC hr4 6
 have r7':=hEC hr4 7
 have r8:=hEC hr4 8
 have rz0:=hEF hr4 0
 have rz1:=hEF hr4 1
 have rz2:=hEF hr4 2
 have rz3:=hEF hr4 3
 have rz4:=hEF hr4 4
 have rz5:=hEF hr4 5
 have rz6:=hEF hr4 6
 have rz7':=hEF hr4 7
 have rz8:=hEF hr4 8
 have rl:=lBk hr4
 have H5:=Lib.hid h5
 clear h5 hsb hr4 H4
 go_wp2
 refine Strict.intro rfl ?_
 go_wp2
 have hF:=hST (hST (hST (hST (hST (hST (hST (hST (hST H5.out.f3 0 (.bool false)) 1 (.slice none 0 0)) 2 (.bool false)) 3 (.slice none 0 0)) 4 (.bool false)) 5 (.slice none 0 0)) 6 (.bool false)) 7 (.slice none 0 0)) 8 (.bool ok)
 have HF:=Lib.hid (And.intro hF.blk (hF.drop.f2.drop.f3.f2.f3))
 clear hF
 refine bodyPost_ret (frame_result rfl (b:=rq) (f:=zFV ok) rfl ?_) rfl ⟨zFV ok,zBV::L,put mm id (zFV ok),rfl,z_in HF.out.2,?_,fun _ hx=>by simp [hx],HOK.out,?_⟩
 ·rw [fcells_zero];exact HF.out.1
 ·intro e he
  rcases mem_put he with h|rfl
  ·exact⟨(HI.out e h).1,(HI.out e h).2.mono fun x hx=>by simp [hx]⟩
  ·refine⟨?_,?_⟩
   ·show FrOk (frT (tr s ns id).ht (tr s ns id)) _
    rw [HT.out,HFu.out];exact HOK.out
   ·exact⟨by simp [zFV],by simp [zFV],by simp [zFV],by simp [zFV]⟩
 ·exact⟨by simp [zFV],by simp [zFV],by simp [zFV],by simp [zFV]⟩
end Go.Proofs.YtdanghnadbkhfaaGreat
end
section
namespace Go.Proofs.Hp
open Go Go.RowKit
theorem range_take {α:Type} (n:Nat) (xs:List α):(List.range n).filterMap (fun i=>xs[i]?)=xs.take n:=by
 induction n with
 | zero=>simp
 | succ n ih =>
  rw [List.range_succ,List.filterMap_append,ih]
  by_cases h:n<xs.length
  ·rw [List.take_add_one,List.getElem?_eq_getElem h];simp [h]
  ·rw [List.take_add_one];simp [List.getElem?_eq_none (by omega:xs.length≤n)]
theorem Has.drops {W w:World} {Qs:List Res}:∀ {Es:List Res},Has W w (Es++Qs)→Has W w Qs
 | [],h=>h
 | _::_,h=>Has.drops h.drop
theorem Has.ord {W w:World} {Xs:List Res} (n:Nat) (is:List Nat) (h:Has W w Xs) (hs:(is++(List.range n).filter (fun i=>!is.contains i)).isPerm (List.range n)=true:=by decide):Has W w (is.filterMap (fun i=>Xs[i]?)++Xs.drop n):=by
 have hp:=List.isPerm_iff.1 hs
 have h2:=hp.filterMap (fun i=>Xs[i]?)
 rw [range_take,List.filterMap_append] at h2
 have h3:Xs.Perm ((((List.range n).filter (fun i=>!is.contains i)).filterMap fun i=>Xs[i]?)++(is.filterMap (fun i=>Xs[i]?)++Xs.drop n)):=by
  refine (List.Perm.of_eq (List.take_append_drop n Xs).symm).trans ?_
  refine (h2.symm.append_right _).trans ?_
  rw [← List.append_assoc]
  exact List.perm_append_comm.append_right _
 exact Has.drops (h.perm h3)
end Go.Proofs.Hp
end
