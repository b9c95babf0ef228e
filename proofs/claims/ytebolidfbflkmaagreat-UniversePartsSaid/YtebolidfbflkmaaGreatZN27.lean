/- Own texts of this claim, part 28: no condition. -/
import Derived.RegionTactic
import Derived.ChangeAlike
import Derived.Test.YtebolidfbflkmaaGreatZN26
import Derived.Test.YtebolidfbflkmaaGreatZN18
import Derived.Test.YtebolidfbflkmaaGreatZN25
import Derived.Test.YtebolidfbflkmaaGreatZN24
import Derived.Test.YtebolidfbflkmaaGreatZN23
import Derived.Test.YtebolidfbflkmaaGreatZN2
set_option linter.unusedVariables false
set_option linter.unusedSimpArgs false
set_option maxHeartbeats 16000000
set_option maxRecDepth 100000
section
namespace Go.Proofs.YtebolidfbflkmaaGreat
open Go Go.RowKit Rg Mp Hp Qs Ev Bn
def lcells (f:FV):Array Value:=#[.bool false,.slice f.2.1.2.1 (zd (f.2.1.1:Int)).length f.2.1.2.2,.bool false,.slice f.2.2.1.2.1 (zd (f.2.2.1.1:Int)).length f.2.2.1.2.2,.bool false,.slice f.2.2.2.1.2.1 (zd (f.2.2.2.1.1:Int)).length f.2.2.2.1.2.2,.bool false,.slice f.2.2.2.2.2.1 (zd (f.2.2.2.2.1:Int)).length f.2.2.2.2.2.2]
theorem lcells_zero (ok:Bool):lcells (zFV ok)=#[.bool false,.slice none 0 0,.bool false,.slice none 0 0,.bool false,.slice none 0 0,.bool false,.slice none 0 0]:=by simp [lcells,zFV,zBV,zd,dg_zero]
theorem lcells_store (f:FV) (ok:Bool) (u0 u1 u2 u3:BV):((((((((lcells f).setIfInBounds 0 (.bool false)).setIfInBounds 1 (.slice u0.2.1 (zd (u0.1:Int)).length u0.2.2)).setIfInBounds 2 (.bool false)).setIfInBounds 3 (.slice u1.2.1 (zd (u1.1:Int)).length u1.2.2)).setIfInBounds 4 (.bool false)).setIfInBounds 5 (.slice u2.2.1 (zd (u2.1:Int)).length u2.2.2)).setIfInBounds 6 (.bool false)).setIfInBounds 7 (.slice u3.2.1 (zd (u3.1:Int)).length u3.2.2)=lcells (ok,u0,u1,u2,u3):=by simp [lcells]
theorem results_cell3' {fn:Func} {p u v:Tmp} {ty:TypeId} (h:fn.results=#[.cell p ty,.tmp u,.tmp v]) (tmps:Array Value) (P:Program) (w:World) :
  (results fn tmps).run P w=((asAddr (tmps.getD p undef)).run P w).andThen fun a w₁=>((loadVar ty a).run P w₁).andThen fun x w₂=>.ok (.tuple #[x,tmps.getD u undef,tmps.getD v undef]) w₂:=by
 simp only [results,h];simp [Sem.run_bind,Result.andThen]
theorem four_result {fn:Func} {p u v:Tmp} (h:fn.results=#[.cell p 66,.tmp u,.tmp v]) {tmps:Array Value} {b:Nat} {w':World} {f:FV} {i j:Value} (h4:tmps.getD p undef=.pointer (some ⟨b,0,none⟩)) (hb:w'.heap[b]?=some (.cells (lcells f) 66 (0,0))) (h5:tmps.getD u undef=i) (h6:tmps.getD v undef=j) :
  (results fn tmps).run Tryz.prog w'=.ok (.tuple #[.agg (lcells f),i,j]) w':=by
 rw [results_cell3' h,h4];simp only [asAddr,Sem.run_pure,Result.andThen];rw [run_loadVar_row w' b _ _ _ _ _ hb Tryz.underlying66 rfl k_];simp only [h5,h6]
def frQ (s:Int) (ns:List K4) (id:Int):Option Frm:=if lvl s (levs s ns) id<0 then none else frT (tr s ns id).ht (tr s ns id)
def BoundsPost (W:World) (b:Nat) (s:Int) (ns:List K4) (id:Int) (Ps:List Res) (e:Ending) (w':World):Prop :=
 ∃ f L,e=.returned (.tuple #[.agg (lcells f),.bool f.1,.int .i64 (kQ_ s ns id)])∧Has W w' (sTR b s ns::poolR L::Ps)∧FrOk (frQ s ns id) f∧InL L f
theorem has_framer {W w:World} {b:Nat} {s:Int} {ns:List K4} {Ps:List Res} (h:Has W w (sTR b s ns::Ps)):Has W ((w.alloc (.map #[] 0)).alloc (.cells #[.pointer (some ⟨b,0,none⟩),.map (some w.heap.size)] 170 (0,0))) (frL b (w.heap.size+1) w.heap.size s ns [] [] Ps):=by have h1:Has W (w.alloc (.map #[] 0)) (mapF w.heap.size []::sTR b s ns::Ps):=h.new (F:=[w.heap.size]) ((Fr.refl [] w).alloc _) ⟨MapIs.made w,rfl⟩ i_;have h2:=pool_nil (hAL h1 #[.pointer (some ⟨b,0,none⟩),.map (some w.heap.size)] 170).swap;rw [show (w.alloc (.map #[] 0)).heap.size=w.heap.size+1 by simp] at h2;exact h2
theorem Bounds_q {W w:World} {b:Nat} {s:Int} {ns:List K4} {Ps:List Res} (h:Has W w (sTR b s ns::Ps)) (id:Int) :
  Calls Tryz.prog 73 #[.pointer (some ⟨b,0,none⟩),.int .i64 id] w (BoundsPost W b s ns id Ps):=by
 have hg:=has_good h;have HN:=q_ (fun w1 Qs (h1:Has W w1 (sTR b s ns::Qs))=>known_q h1 id);have H:=q_ h;unfold BoundsPost;unfold kQ_ at HN;unfold kQ_ frQ;by_cases h0:lvl s (levs s ns) id<0;·
  simp only [if_pos h0] at HN ⊢;clear h hg;go_enter Tryz.func73,Tryz.ntmps73;go_wp2_with fail;have h1:=(hAL H.out #[.bool false,.slice none 0 0,.bool false,.slice none 0 0,.bool false,.slice none 0 0,.bool false,.slice none 0 0] 66).swap;refine (HN.out _ _ h1).mono ?_;rintro e w1 ⟨rfl,hs,hf⟩;obtain⟨rq,hrq⟩:∃ r4,w.heap.size=r4:=⟨_,rfl⟩;rw [hrq] at hs ⊢;have hr:=hs.swap.blk;obtain⟨r0,r1,r2,r3,r4,r5,r6⟩:=e7_ hr;have r7':=hEC hr 7;have rz0:=hEF hr 0;have rz1:=hEF hr 1;have rz2:=hEF hr 2;have rz3:=hEF hr 3;have rz4:=hEF hr 4;have rz5:=hEF hr 5;have rz6:=hEF hr 6;have rz7':=hEF hr 7;have rl:=lBk hr;have H1:=q_ hs;clear hs hf hr h1 hrq;go_wp2;refine bodyPost_ret (four_result rfl (b:=rq) (f:=zFV false) rfl ?_ rfl rfl) rfl ⟨zFV false,[zBV],rfl,?_,by simp [FrOk,coF,zFV,zBV],by simp [InL,zFV]⟩;·
   have h2:=hST (hST (hST (hST (hST (hST (hST (hST H1.out.swap 0 (.bool false)) 1 (.slice none 0 0)) 2 (.bool false)) 3 (.slice none 0 0)) 4 (.bool false)) 5 (.slice none 0 0)) 6 (.bool false)) 7 (.slice none 0 0);rw [lcells_zero];exact h2.blk
  ·have h2:=hST (hST (hST (hST (hST (hST (hST (hST H1.out.swap 0 (.bool false)) 1 (.slice none 0 0)) 2 (.bool false)) 3 (.slice none 0 0)) 4 (.bool false)) 5 (.slice none 0 0)) 6 (.bool false)) 7 (.slice none 0 0);exact (z_in (pool_nil h2.drop)).swap
 ·simp only [if_neg h0] at HN ⊢;obtain⟨n,hn,hn256,hi⟩:=level_nat hg (id:=id) o_;have HT:=q_ (full_ht n hi.2.2.1);have HC:=q_ (fun fb rb w1 Qs L mm (h1:Has W w1 (frL b fb rb s ns L mm Qs)) (hI:FInv s ns L mm)=>frame_q (W:=W) n hn256 w1 Qs L mm id _ h1 hI hi);clear h hg h0 hn hi;have hmm:=@run_makeMap Tryz.prog;go_enter Tryz.func73,Tryz.ntmps73;go_wp2_with fail;have h1:=(hAL H.out #[.bool false,.slice none 0 0,.bool false,.slice none 0 0,.bool false,.slice none 0 0,.bool false,.slice none 0 0] 66).swap;refine (HN.out _ _ h1).mono ?_;rintro e w1 ⟨rfl,hs,hf⟩;obtain⟨rq,hrq⟩:∃ r4,w.heap.size=r4:=⟨_,rfl⟩;rw [hrq] at hs ⊢;have hr:=hs.swap.blk;obtain⟨r0,r1,r2,r3,r4,r5,r6⟩:=e7_ hr;have r7':=hEC hr 7;have rz0:=hEF hr 0;have rz1:=hEF hr 1;have rz2:=hEF hr 2;have rz3:=hEF hr 3;have rz4:=hEF hr 4;have rz5:=hEF hr 5;have rz6:=hEF hr 6;have rz7':=hEF hr 7;have rl:=lBk hr;have H1:=q_ hs;clear hs hf hr h1 hrq;go_wp2_with fail;have h2:=has_framer H1.out;refine (HC.out _ _ _ _ _ _ h2 (by intro e he;cases he)).mono ?_;rintro e w2 ⟨⟨ok,f0,f1,f2,f3⟩,L2,mm2,rfl,h5,hI5,hs5,hok5,hin5⟩;clear r0 r1 r2 r3 r4 r5 r6 r7' rz0 rz1 rz2 rz3 rz4 rz5 rz6 rz7' rl h2;have h5:=h5.ord 5 [4,0,3];simp only [List.filterMap_cons,List.filterMap_nil,List.getElem?_cons_zero,List.getElem?_cons_succ,List.drop_succ_cons,List.drop_zero,List.cons_append,List.nil_append,List.take_succ_cons,List.take_zero,List.eraseIdx_cons_succ,List.eraseIdx_zero,List.eraseIdx_cons_zero,List.tail_cons,Option.toList_some] at h5;have hr:=h5.blk;obtain⟨r0,r1,r2,r3,r4,r5,r6⟩:=e7_ hr;have r7':=hEC hr 7;have rz0:=hEF hr 0;have rz1:=hEF hr 1;have rz2:=hEF hr 2;have rz3:=hEF hr 3;have rz4:=hEF hr 4;have rz5:=hEF hr 5
  have rz6:=hEF hr 6;have rz7':=hEF hr 7;have rl:=lBk hr;have H5:=q_ h5;have HOK5:=q_ (And.intro hok5 hin5);clear h5 hr hI5 hs5 hok5 hin5;simp only [fvV,fCL];go_wp2;go_region;have h0:=H5.out;have h1:=hST (hST (hST (hST h0 0 (.bool false)) 1 (.slice f0.2.1 (zd (f0.1:Int)).length f0.2.2)) 2 (.bool false)) 3 (.slice f1.2.1 (zd (f1.1:Int)).length f1.2.2);have h2:=hST (hST (hST (hST h1 4 (.bool false)) 5 (.slice f2.2.1 (zd (f2.1:Int)).length f2.2.2)) 6 (.bool false)) 7 (.slice f3.2.1 (zd (f3.1:Int)).length f3.2.2);rw [show (#[Value.bool false,.slice none 0 0,.bool false,.slice none 0 0,.bool false,.slice none 0 0,.bool false,.slice none 0 0]:Array Value)=lcells (zFV false) from (lcells_zero false).symm,lcells_store _ ok] at h2;have h2:=h2.step (((Fr.refl [] _).alloc (.cells (fCL (ok,f0,f1,f2,f3)) 172)).drew);simp only [fCL] at h2;have H6:=q_ h2;clear h0 h1 h2;go_wp2;refine bodyPost_ret (four_result rfl (b:=rq) (f:=(ok,f0,f1,f2,f3)) rfl ?_ rfl rfl) rfl ⟨(ok,f0,f1,f2,f3),L2,rfl,?_,by rw [HT.out];exact HOK5.out.1,HOK5.out.2⟩;·exact H6.out.blk
  ·exact H6.out.drop.swap
end Go.Proofs.YtebolidfbflkmaaGreat
end
section
namespace Go.Proofs.YtebolidfbflkmaaGreat
open Qs Ev Uni
def BoxOf (F:Fld) (x0 y0 x1 y1:Int):Prop:=(∀ i j,F i j≠0→x0≤i∧i≤x1∧y0≤j∧j≤y1)∧(∃ j,F x0 j≠0)∧(∃ i,F i y0≠0)∧(∃ j,F x1 j≠0)∧∃ i,F i y1≠0
theorem box_mid {n:Nat} {F:Fld} (hF:Inside n F):(∀ f,frT (n+1) (mid n F)=some f→BoxOf F (f.1 - p2 n) (f.2.1 - p2 n) (f.2.2.1 - p2 n) (f.2.2.2 - p2 n))∧(frT (n+1) (mid n F)=none→∀ i j,F i j=0):=by
 have e:=p2_succ n;obtain⟨h1,h2⟩:=fr_is (n+1) F (-p2 n) (-p2 n);have ins:∀ i j,F i j≠0→-p2 n≤i∧i<p2 n∧-p2 n≤j∧j<p2 n:=fun i j h=>Classical.not_not.1 fun hc=>h (hF i j hc);constructor;·
  intro f hf;have hI:=h1 f hf;refine⟨fun i j h=>?_,?_,?_,?_,?_⟩;·
   have:=ins i j h;have:=hI.all (i+p2 n) (j+p2 n) o_ o_ o_ o_ (by rwa [show -p2 n+(i+p2 n)=i by omega,show -p2 n+(j+p2 n)=j by omega]);omega
  ·obtain⟨i,j,_,_,_,_,h,q⟩:=hI.left;exact⟨-p2 n+j,by rw [← q,show i - p2 n=-p2 n+i by omega];exact h⟩
  ·obtain⟨i,j,_,_,_,_,h,q⟩:=hI.top;exact⟨-p2 n+i,by rw [← q,show j - p2 n=-p2 n+j by omega];exact h⟩
  ·obtain⟨i,j,_,_,_,_,h,q⟩:=hI.right;exact⟨-p2 n+j,by rw [← q,show i - p2 n=-p2 n+i by omega];exact h⟩
  ·obtain⟨i,j,_,_,_,_,h,q⟩:=hI.bottom;exact⟨-p2 n+i,by rw [← q,show j - p2 n=-p2 n+j by omega];exact h⟩
 ·intro hn i j;have h3:=h2 hn;refine Classical.byContradiction fun h=>h ?_;have:=ins i j h;have:=h3 (i+p2 n) (j+p2 n) o_ o_ o_ o_;rwa [show -p2 n+(i+p2 n)=i by omega,show -p2 n+(j+p2 n)=j by omega] at this
theorem box_in {n:Nat} {F:Fld} (hF:Inside n F) {x0 y0 x1 y1:Int} (hb:BoxOf F x0 y0 x1 y1):(-p2 n≤x0∧x0<p2 n)∧(-p2 n≤y0∧y0<p2 n)∧(-p2 n≤x1∧x1<p2 n)∧-p2 n≤y1∧y1<p2 n:=by have ins:∀ i j,F i j≠0→-p2 n≤i∧i<p2 n∧-p2 n≤j∧j<p2 n:=fun i j h=>Classical.not_not.1 fun hc=>h (hF i j hc);obtain⟨_,⟨a,h1⟩,⟨b,h2⟩,⟨c,h3⟩,d,h4⟩:=hb;have:=ins _ _ h1;have:=ins _ _ h2;have:=ins _ _ h3;have:=ins _ _ h4;omega
theorem known_is {s:Int} {ns:List K4} (hg:GoodQ s ns) {n:Nat} {id:Int} {t:Tr} (hi:Is s ns n id t):kQ_ s ns id=0:=by unfold kQ_;rw [hi.lvl hg,if_neg o_]
theorem frq_is {s:Int} {ns:List K4} (hg:GoodQ s ns) {n:Nat} {id:Int} {t:Tr} (hi:Is s ns n id t):frQ s ns id=frT n t:=by unfold frQ;rw [hi.lvl hg,if_neg o_,hi.2.1,full_ht n hi.2.2.1]
theorem popq_is {s:Int} {ns:List K4} (hg:GoodQ s ns) {n:Nat} {id:Int} {t:Tr} (hi:Is s ns n id t):popQ s ns id=popT t:=by unfold popQ;rw [hi.lvl hg,if_neg o_,hi.2.1]
theorem bounds_mid {s:Int} {ns:List K4} (hg:GoodQ s ns) {n:Nat} {id:Int} {F:Fld} (hi:Is s ns (n+1) id (mid n F)) (hF:Inside n F) {f:FV} (hf:FrOk (frQ s ns id) f) :
  (f.1=true∧BoxOf F ((f.2.1.1:Int) - p2 n) ((f.2.2.1.1:Int) - p2 n) ((f.2.2.2.1.1:Int) - p2 n) ((f.2.2.2.2.1:Int) - p2 n))∨(f.1=false∧∀ i j,F i j=0):=by
 rw [frq_is hg hi] at hf;obtain⟨h1,h2,h3,h4,h5⟩:=hf;obtain⟨b1,b2⟩:=box_mid hF;cases ho:frT (n+1) (mid n F) with
 | none =>rw [ho] at h1;exact .inr ⟨h1,b2 ho⟩
 | some o =>rw [ho] at h1 h2 h3 h4 h5;have:=b1 o ho;refine .inl ⟨h1,?_⟩;rw [h2,h3,h4,h5];exact this
theorem step_mid {r:Rule} (hr:rightR r=true) {k:Nat} (hk:k≤203) (F:Fld):stp (gen r) 207 k (mid 206 F)=mid 205 (it (gen r) (2 ^ k) F):=by
 have hr2:=radius_le r.hood;have e:p2 206=p2 205+p2 205:=p2_succ 205;unfold mid;rw [stp_mk (gen_local hr) o_];·rw [show -p2 206+p2 (207 - 2)=-p2 205 by rw [show 207 - 2=205 from rfl];omega]
 ·have h1:p2 k≤p2 203:=p2_le hk;have h2:p2 204=p2 203+p2 203:=p2_succ 203;have h3:p2 205=p2 204+p2 204:=p2_succ 204;have h4:=p2_pos k;rw [show 207 - 2=205 from rfl];have:radius r.hood*p2 k≤2*p2 k:=Int.mul_le_mul_of_nonneg_right hr2.2 o_;omega
theorem bit_up {n k:Nat} (h:n / 2 ^ k % 2=1):n % 2 ^ (k+1)=2 ^ k+n % 2 ^ k:=by rw [Nat.pow_succ,Nat.mod_mul,h];omega
theorem bit_no {n k:Nat} (h:n / 2 ^ k % 2≠1):n % 2 ^ (k+1)=n % 2 ^ k:=by
 have:n / 2 ^ k % 2=0:=o_
 rw [Nat.pow_succ,Nat.mod_mul,this];omega
open Go Go.RowKit Rg Mp Hp Bn
theorem run1_u {W w:World} {U:UP} {ns:List K4} {mm:List ((Int×Int)×Int)} {Ps:List Res} (h:Has W w (uniL U ns mm Ps)) {id:Int} {F:Fld} (hi:Is U.r.S ns 201 id (mid 200 F)) (hF:Inside 200 F) (hl:ns.length+1500≤88000) {ux:Nat}
  (k0:w.heap[ux]?=some (.cells #[.pointer (some ⟨U.ub,0,none⟩)] 44 (0,0))) :
  Calls Tryz.prog 51 #[.int .i64 id,.pointer (some ⟨ux,0,none⟩)] w fun e w' =>
   ∃ x,e=.returned (.tuple #[.int .i64 x,.int .i64 0])∧∃ ns',Has W w' (uniL U ns' mm Ps)∧ns <+: ns'∧ns'.length≤ns.length+1500∧Is U.r.S ns' 206 x (mid 205 F):=by
 have HE:=q_ (fun w1 (hf:Fr [] w w1)=>expand_u (h.step hf) (m:=5) (n:=200) hi hF o_ o_);have Ha:=q_ k0;have a0:=hEC Ha.out 0;have al:=lBk Ha.out;clear h hi hF hl k0;go_enter Tryz.func51,Tryz.ntmps51;go_wp2_with fail;refine (HE.out _ (Fr.t)).mono ?_;rintro e w1 ⟨x,ns',rfl,h1⟩;have H1:=q_ h1;clear h1 HE;go_wp2;go_ret2;first|exact⟨x,rfl,ns',H1.out⟩|exact⟨ns',H1.out⟩
theorem is_uniq {s:Int} {ns:List K4} {n m:Nat} {id:Int} {t u:Tr} (h:Is s ns n id t) (k:Is s ns m id u):n=m∧t=u:=by have e:t=u:=h.2.1.symm.trans k.2.1;refine⟨?_,e⟩;have h1:=full_ht n h.2.2.1;have h2:=full_ht m k.2.2.1;rw [← h1,← h2,e]
theorem hBk_ {W w:World} {b:Nat} {o:Obj} {Ps:List Res} (h:Has W w Ps) (hm:Hp.blk b o∈Ps):w.heap[b]?=some o:=by obtain⟨G,h1⟩:=has_mem h hm;exact h1.1
theorem um_ {U:UP} {ns:List K4} {mm:List ((Int×Int)×Int)} {Ps:List Res} {P:Res} (h:P∈Ps):P∈uniL U ns mm Ps:=by simp [uniL,memoL,h]
theorem step_u {W w:World} {U:UP} {ns:List K4} {mm:List ((Int×Int)×Int)} {Ps:List Res} {ha na:Option Addr} {hc nc:Nat} (h:Has W w (uniL U ns mm Ps)) (hR:rightR U.r=true) (e1:U.hv=.slice ha U.r.hood.length hc) (e2:U.nv=.slice na U.r.nodes.length nc) (hsrc:RuleSrc W U.hv U.nv U.r Ps)
  {id:Int} {F:Fld} (hi:Is U.r.S ns 207 id (mid 206 F)) {L:List Tr} {c k:Nat} (hroom:roomC U.r.S ns L c) (hkept:Kept U.r ns mm) (hk:k<200) (hL:∀ u∈need (gen U.r) (lostOf (radius U.r.hood)) 207 k (mid 206 F),u∈L) :
  Calls Tryz.prog 55 #[.pointer (some ⟨U.mb,0,none⟩),.int .i64 id,.int .i64 k] w fun e w' =>
   ∃ x ns' mm',e=.returned (.tuple #[.int .i64 x,.int .i64 0])∧Has W w' (uniL U ns' mm' Ps)∧ns <+: ns'∧roomC U.r.S ns' L c∧Kept U.r ns' mm'∧Is U.r.S ns' 206 x (mid 205 (it (gen U.r) (2 ^ k) F)):=by
 obtain⟨r,hv,nv,ub,mb,sb,rb,root,G,ga,gc⟩:=U;simp only at e1 e2 hi hroom hkept hL hsrc hR;subst e1 e2;have hr:=radius_le r.hood;have hlo:=lost_le hr.1 hr.2;refine (MStep_calls hR (hsrc.more fun P hP=>List.mem_cons_of_mem _ (List.mem_cons_of_mem _ hP)) h hroom hkept id k fun n k' t hi' hkk h3 h4=>?_).mono ?_;·
  obtain⟨rfl,rfl⟩:=is_uniq hi hi';obtain rfl:k=k':=o_
  exact⟨o_,fun u hu=>List.mem_append_right _ (hL u hu)⟩
 ·rintro e w' (⟨hn,_⟩|⟨n,t,hi',hkk,_⟩|⟨n,t,k',hi',hkk,_,_,x,ns',mm',rfl,h1,h2,h3,h4,h5,_⟩);·exact absurd hi.1 hn
  ·obtain⟨rfl,rfl⟩:=is_uniq hi hi';exfalso;unfold mostOf at hkk;omega
  ·obtain⟨rfl,rfl⟩:=is_uniq hi hi';obtain rfl:k=k':=o_;rw [step_mid hR o_] at h5;exact⟨x,ns',mm',rfl,h1,h2,h3,h4,h5⟩
theorem run2_u {W w:World} {U:UP} {ns:List K4} {mm:List ((Int×Int)×Int)} {Ps:List Res} {ha na:Option Addr} {hc nc:Nat} (h:Has W w (uniL U ns mm Ps)) (hR:rightR U.r=true) (e1:U.hv=.slice ha U.r.hood.length hc) (e2:U.nv=.slice na U.r.nodes.length nc) (hsrc:RuleSrc W U.hv U.nv U.r Ps)
  {id:Int} {F:Fld} (hi:Is U.r.S ns 206 id (mid 205 F)) (hF:Inside 205 F) {L:List Tr} {c k:Nat} (hroom:roomC U.r.S ns L (c+300)) (h2c:2000≤c) (hkept:Kept U.r ns mm) (hk:k<200) (hL:∀ u∈need (gen U.r) (lostOf (radius U.r.hood)) 207 k (mid 206 F),u∈L) {ux kb:Nat}
  (k0:Hp.blk ux (.cells #[.pointer (some ⟨U.ub,0,none⟩)] 44 (0,0))∈Ps) (k1:Hp.blk kb (.cells #[.int .i64 k] 3 (0,0))∈Ps) :
  Calls Tryz.prog 54 #[.int .i64 id,.pointer (some ⟨ux,0,none⟩),.pointer (some ⟨kb,0,none⟩)] w fun e w' =>
   ∃ x,e=.returned (.tuple #[.int .i64 x,.int .i64 0])∧∃ ns' mm',Has W w' (uniL U ns' mm' Ps)∧ns <+: ns'∧roomC U.r.S ns' L c∧Kept U.r ns' mm'∧Is U.r.S ns' 206 x (mid 205 (it (gen U.r) (2 ^ k) F)):=by
 have hle:=roomC_len (has_good (uS_ h)) hroom;have HE:=q_ (expand_u h (m:=1) (n:=205) hi hF o_ o_);have HB:=q_ (fun w1 mm1 ns1 (h1:Has W w1 (uniL U ns1 mm1 Ps))=>And.intro (hBk_ h1 (um_ k0)) (hBk_ h1 (um_ k1)));have HS:=q_ (fun w1 ns1 id1 (h1:Has W w1 (uniL U ns1 mm Ps)) (hp:ns <+: ns1) (hl:ns1.length≤ns.length+300) (hi1:Is U.r.S ns1 207 id1 (mid 206 F)) =>
  step_u h1 hR e1 e2 hsrc hi1 (by have:=rG_ (has_good (uS_ h)) (has_good (uS_ h1)) hroom hp hl o_;rwa [Nat.add_sub_cancel] at this) (hkept.grow hp) hk hL)
 have H:=q_ h;clear h hR e1 e2 hsrc hi hF hroom h2c hkept hk hL k0 k1 hle;have hb:=HB.out _ _ _ H.out;have a0:=hEC hb.1 0;have al:=lBk hb.1;have b0:=hEC hb.2 0;have bl:=lBk hb.2;clear hb;go_enter Tryz.func54,Tryz.ntmps54;go_wp2_with fail;refine HE.out.mono ?_;rintro e w1 ⟨x,ns1,rfl,h1,hp1,hl1,hi1⟩;have HS1:=q_ (HS.out w1.drew _ _ (h1.step (Fr.t)) hp1 hl1 hi1);have H1:=q_ h1;have HP1:=q_ hp1;clear h1 hp1 hl1 hi1 HE HS a0 al b0 bl H;have hb:=HB.out _ _ _ H1.out;have a0:=hEC hb.1 0;have al:=lBk hb.1;have b0:=hEC hb.2 0;have bl:=lBk hb.2;obtain⟨_,_,u4,_,_,ul⟩:=uC_ H1.out;clear hb;go_wp2;refine wS [([0,1,2,3,4,5,6,7,8,9,10],[])] ?_;(simp only [wpSegs,pick,aq_,bq_,cq_,dq_,eq_]);go_wp2_with fail;refine (HS1.out).mono ?_;rintro e w2 ⟨y,ns2,mm2,rfl,h2⟩;have H2:=q_ h2;clear h2 HS1;go_wp2;refine mD_ ⟨trivial,sT_ rfl ?_⟩;go_wp2;go_ret2;exact⟨y,rfl,ns2,mm2,H2.out.1,HP1.out.trans H2.out.2.1,H2.out.2.2⟩
theorem ao_ {P:Program} {ops:Array Oper} {k:Nat} {o:Oper} {a:Act} {w:World} {T:TypeId} {x:Operand} {b off:Nat} {p q:Value} {cs:Array Value} {d:TypeDesc} (hk:ops[k]?=some o) (ho:o.op=.load T x)
  (hx:a.eval x=.pointer (some ⟨b,off,none⟩)) (hT:P.underlying T=some d) (hd:d.isRow=true) (hi:(P.info? T).map (·.size)=some 2) {T':TypeId} (h:w.heap[b]?=some (.cells cs T' (0,0))) (h0:cs[off]?=some p) (h1:cs[off+1]?=some q)
  (hv:(a.put o.dst (.agg #[p,q])).tmps=a.tmps):again P ops k a w :=
 aGR (cs:=[p,q]) hk ho hx hT hd hi (fun j v hj=>by
  rw [hEC h]
  rcases j with _|_|j
  ·rw [← hj];exact h0
  ·rw [← hj];exact h1
  ·simp at hj) hv
theorem bv_z {L:List BV} {W w:World} {Ps:List Res} (h:Has W w Ps) (hm:poolR L∈Ps) {e:BV} (he:e∈L):BigZ w (fun _=>True) (.agg #[.bool false,.slice e.2.1 (zd (e.1:Int)).length e.2.2]) (e.1:Int):=by have:=pool_in h hm he;exact⟨e.2.1,e.2.2,by rw [decide_eq_false o_],this.len,fun _ _=>trivial,this.rd⟩
theorem big_z {W w:World} {Ps:List Res} {z:Int} {a:Option Addr} {c:Nat} {ng:Bool} (h:Has W w Ps) (hn:decide (z<0)=ng) (hm:bigR ng (zd z) a c∈Ps):BigZ w (fun _=>True) (.agg #[.bool ng,.slice a (zd z).length c]) z:=by subst hn;obtain⟨F,h1,_⟩:=has_mem h hm;exact⟨a,c,rfl,h1.len,fun _ _=>trivial,h1.rd⟩
theorem outside_u {W w:World} {U:UP} {ns:List K4} {mm:List ((Int×Int)×Int)} {Ps:List Res} (h:Has W w (uniL U ns mm Ps)) {id:Int} {F:Fld} (hi:Is U.r.S ns 206 id (mid 205 F)) (hF:Inside 200 F) {R:Int} (hR:((2 ^ 200:Nat):Int)=R) {C:Int} (hC:((2 ^ 205:Nat):Int)=C) :
  Calls Tryz.prog 56 #[.pointer (some ⟨U.ub,0,none⟩),.int .i64 id] w fun e w' =>
   e=.returned (.tuple #[.bool false,.int .i64 0])∧Has W w' (uniL U ns mm Ps):=by
 have hg:=has_good (uS_ h);have hkn:=known_is hg hi;have hBQ:=Bounds_q (uS_ h) id;have HBM:=q_ (fun f (hf:FrOk (frQ U.r.S ns id) f)=>bounds_mid hg hi (hF.more o_) hf);have HBI:=q_ (fun x0 y0 x1 y1 (hb:BoxOf F x0 y0 x1 y1)=>box_in hF hb);have hC':p2 205=C:=hC;have hR':p2 200=R:=hR;rw [hC'] at HBM;rw [hR'] at HBI;unfold BoundsPost at hBQ;rw [hkn] at hBQ;have HBQ:=q_ hBQ;have hzC:Zok C:=hC▸zok_pow (n:=205) o_;have hzN:Zok (-C):=by unfold Zok at hzC ⊢;omega
 have hC1:1≤C:=by rw [← hC'];have:=p2_pos 205;omega
 have hRC:R≤C:=by rw [← hC',← hR'];exact p2_le o_
 have HPW:=q_ (fun w1=>(hC▸power_z w1 (k:=205) (H:=2 ^ 205) rfl o_:Calls Tryz.prog 49 #[.int .i64 205] w1 (BigCall1 w1 C)));have HNG:=q_ (fun w1 (A:Nat→Prop) v (hv:BigZ w1 A v C)=>Neg_z hv hzC (some_z hv o_));have HCK:=q_ (fun w1 (A B:Nat→Prop) v u x y (hv:BigZ w1 A v x) (hu:BigZ w1 B u y) (hx:Zok x) (hy:Zok y)=>check_z hR hv hu hx hy);have HZ:=q_ (And.intro hzC (And.intro hzN (And.intro hC1 hRC)));have hu:=uH_ h;have u1:=hEC hu 3;have ul:=lBk hu;clear h hi hF hR hC hg hkn hBQ hzC hzN hC1 hRC hR' hu;go_enter Tryz.func56,Tryz.ntmps56;go_wp2_with fail;refine HBQ.out.mono ?_;rintro e w1 ⟨f,L,rfl,h1,hf,hl⟩;have hbox:=HBM.out f hf;have h2:=hAL h1 (lcells f) 66;obtain⟨ok,⟨v0,a0,c0⟩,⟨v1,a1,c1⟩,⟨v2,a2,c2⟩,⟨v3,a3,c3⟩⟩:=f;unfold lcells at h2;unfold lcells;simp only at h2 hbox hl ⊢;have HL:=q_ hl;have HBX:=q_ hbox;cases ok with
 | false =>have H2:=q_ h2;clear h2 hbox hf hl h1 HPW HNG HCK;go_wp2;go_ret2;exact⟨rfl,H2.out.drop.swap.drop⟩
 | true =>
  have hin:(-R≤(v0:Int) - C∧(v0:Int) - C<R)∧(-R≤(v1:Int) - C∧(v1:Int) - C<R)∧(-R≤(v2:Int) - C∧(v2:Int) - C<R)∧-R≤(v3:Int) - C∧(v3:Int) - C<R:=by
   rcases hbox with ⟨_,hb⟩|⟨hb,_⟩
   ·exact HBI.out _ _ _ _ hb
   ·cases hb
  have hzz:∀ v:Nat,(v:Int) - C<R→Zok (v:Int)∧Zok ((v:Int)+-C):=fun v hv=>by
   have z2:Zok (C+C):=by
    have:=zok_pow (n:=206) o_;have e:((2 ^ 206:Nat):Int)=C+C:=by have:=p2_succ 205;rw [hC'] at this;exact this
    rwa [e] at this
   have:=HZ.out;exact⟨zok_le z2 o_,zok_le z2 o_⟩
  have hck:∀ u v:Nat,(-R≤(u:Int) - C∧(u:Int) - C<R)→(-R≤(v:Int) - C∧(v:Int) - C<R)→chkE R ((u:Int)+-C) ((v:Int)+-C)=0:=fun u v a b=>if_pos ⟨by unfold inV;omega,by unfold inV;omega⟩;have HC01:=q_ (hck v0 v1 hin.1 hin.2.1);have HC23:=q_ (hck v2 v3 hin.2.2.1 hin.2.2.2);have Z0:=q_ (hzz v0 hin.1.2);have Z1:=q_ (hzz v1 hin.2.1.2);have Z2:=q_ (hzz v2 hin.2.2.1.2);have Z3:=q_ (hzz v3 hin.2.2.2.2);obtain⟨lb,hlb⟩:∃ t,w1.heap.size=t:=⟨_,rfl⟩;rw [hlb] at h2;have H2:=q_ h2;have HCC:=q_ hC';clear h2 hbox hf hl h1 hck hzz hin hC' HBX HBI HBM HBQ u1 ul;go_wp2_with fail;refine (HPW.out _).mono ?_;rintro e w3 ⟨vp,rfl,hb3,hf⟩;have H3:=q_ (H2.out.step (Fr.trans0 (Fr.t) hf));have HN3:=q_ (HNG.out _ _ _ hb3);clear hb3 hf H2 HPW;go_wp2_with fail;refine HN3.out.mono ?_;rintro e w4 ⟨vn,rfl,hb4,hf⟩;obtain⟨p,q,rfl,h4⟩:=has_big H3.out hf hb4 HZ.out.2.1;obtain⟨ng,hng⟩:∃ b,decide (-C<0)=b:=⟨_,rfl⟩;rw [hng] at h4 ⊢;have h5:=hAL h4 #[.bool ng,.slice p (zd (-C)).length q] 30;obtain⟨cb,hcb⟩:∃ t,w4.heap.size=t:=⟨_,rfl⟩;rw [hcb] at h5;obtain⟨w5,hw5⟩:∃ t,w4.alloc (.cells #[.bool ng,.slice p (zd (-C)).length q] 30 (0,0))=t:=⟨_,rfl⟩;rw [hw5] at h5;have H5:=q_ h5;have hbk:=h5.blk;have Hk:=q_ hbk;obtain⟨k0,k1,kl⟩:=l2_ hbk;have hlk:=h5.drop.drop.blk;have Hb:=q_ hlk;obtain⟨b0,b1,b2,b3,b4,b5,b6,b7,bl⟩:=l8_ hlk;have HP0:=q_ (fun w' (hf:Fr [] w5 w')=>plus_z (bv_z (h5.step hf) i_ HL.out.1) (big_z (h5.step hf) (z:=-C) (a:=p) (c:=q) hng i_) Z0.out.1 HZ.out.2.1 Z0.out.2);have HP1:=q_ (fun w' (hf:Fr [] w5 w')=>plus_z (bv_z (h5.step hf) i_ HL.out.2.1) (big_z (h5.step hf) (z:=-C) (a:=p) (c:=q) hng i_) Z1.out.1 HZ.out.2.1 Z1.out.2)
  have HP2:=q_ (fun w' (hf:Fr [] w5 w')=>plus_z (bv_z (h5.step hf) i_ HL.out.2.2.1) (big_z (h5.step hf) (z:=-C) (a:=p) (c:=q) hng i_) Z2.out.1 HZ.out.2.1 Z2.out.2);have HP3:=q_ (fun w' (hf:Fr [] w5 w')=>plus_z (bv_z (h5.step hf) i_ HL.out.2.2.2) (big_z (h5.step hf) (z:=-C) (a:=p) (c:=q) hng i_) Z3.out.1 HZ.out.2.1 Z3.out.2);simp only at HP0 HP1 HP2 HP3;clear h4 h5 hb4 hf hbk hlk HN3 H3 hng;go_wp2;clear hw5 hcb;refine wS [([0,1,2,4,5,6,3],[5,6]),([7],[]),([8],[]),([9,10,11,12,13,15,16,17,14],[16,17]),([18],[]),([19,20,21,22,23],[])] ?_;(simp only [wpSegs,pick,aq_,bq_,cq_,dq_,eq_]);go_wp2_with fail;refine (HP0.out _ (Fr.t)).mono ?_;rintro e w6 ⟨s0,rfl,hs0,hf⟩;have hf:=Fr.trans0 (Fr.t:Fr [] w5 _) hf;(try clear k0 k1 kl);have hk_:=tk hf Hk;clear Hk;obtain⟨k0,k1,kl⟩:=l2_ hk_;have Hk:=q_ hk_;clear hk_;(try clear b0 b1 b2 b3 b4 b5 b6 b7 bl);have hb_:=tk hf Hb;clear Hb;obtain⟨b0,b1,b2,b3,b4,b5,b6,b7,bl⟩:=l8_ hb_;have Hb:=q_ hb_;clear hb_;have Hf6:=q_ hf;have HS0:=q_ hs0;clear hf hs0 HP0;go_wp2;refine mD_ ⟨⟨ao_ (T:=30) rfl rfl rfl Tryz.underlying30 rfl k_ Hb.out rfl rfl rfl,ab_ (T:=30) rfl rfl rfl Tryz.underlying30 rfl k_ Hk.out rfl,trivial⟩,?_⟩;go_wp2_with fail;refine (HP1.out _ Hf6.out).mono ?_;rintro e w7 ⟨s1,rfl,hs1,hf⟩;(try clear k0 k1 kl);have hk_:=tk hf Hk;clear Hk;obtain⟨k0,k1,kl⟩:=l2_ hk_;have Hk:=q_ hk_;clear hk_;(try clear b0 b1 b2 b3 b4 b5 b6 b7 bl);have hb_:=tk hf Hb;clear Hb;obtain⟨b0,b1,b2,b3,b4,b5,b6,b7,bl⟩:=l8_ hb_;have Hb:=q_ hb_;clear hb_;have Hf7:=q_ (Hf6.out.trans0 hf)
  have hk:=HCK.out w7 _ _ s0 s1 _ _ (HS0.out.fr0 hf) hs1 Z0.out.2 Z1.out.2;rw [HC01.out] at hk;have HK:=q_ hk;clear hf hs1 hk HP1 Hf6 HS0 HC01;go_wp2;refine mD_ ⟨trivial,?_⟩;go_wp2_with fail;refine (HK.out).mono ?_;rintro e w8 ⟨rfl,hf⟩;(try clear k0 k1 kl);have hk_:=tk hf Hk;clear Hk;obtain⟨k0,k1,kl⟩:=l2_ hk_;have Hk:=q_ hk_;clear hk_;(try clear b0 b1 b2 b3 b4 b5 b6 b7 bl);have hb_:=tk hf Hb;clear Hb;obtain⟨b0,b1,b2,b3,b4,b5,b6,b7,bl⟩:=l8_ hb_;have Hb:=q_ hb_;clear hb_;have Hf8:=q_ (Hf7.out.trans0 hf);clear hf HK Hf7;go_wp2;refine mD_ ⟨trivial,?_⟩;go_wp2_with fail;refine (HP2.out _ Hf8.out).mono ?_;rintro e w9 ⟨s2,rfl,hs2,hf⟩;(try clear k0 k1 kl);have hk_:=tk hf Hk;clear Hk;obtain⟨k0,k1,kl⟩:=l2_ hk_;have Hk:=q_ hk_;clear hk_;(try clear b0 b1 b2 b3 b4 b5 b6 b7 bl);have hb_:=tk hf Hb;clear Hb;obtain⟨b0,b1,b2,b3,b4,b5,b6,b7,bl⟩:=l8_ hb_;have Hb:=q_ hb_;clear hb_;have Hf9:=q_ (Hf8.out.trans0 hf);have HS2:=q_ hs2;clear hf hs2 HP2 Hf8;go_wp2;refine mD_ ⟨⟨ao_ (T:=30) rfl rfl rfl Tryz.underlying30 rfl k_ Hb.out rfl rfl rfl,ab_ (T:=30) rfl rfl rfl Tryz.underlying30 rfl k_ Hk.out rfl,trivial⟩,?_⟩;go_wp2_with fail;refine (HP3.out _ Hf9.out).mono ?_;rintro e w10 ⟨s3,rfl,hs3,hf⟩;(try clear k0 k1 kl);have hk_:=tk hf Hk;clear Hk;obtain⟨k0,k1,kl⟩:=l2_ hk_;have Hk:=q_ hk_;clear hk_;(try clear b0 b1 b2 b3 b4 b5 b6 b7 bl);have hb_:=tk hf Hb;clear Hb;obtain⟨b0,b1,b2,b3,b4,b5,b6,b7⟩:=e8_ hb_
  have bl:=lBk hb_;have Hb:=q_ hb_;clear hb_;have Hf10:=q_ (Hf9.out.trans0 hf);have hk:=HCK.out w10 _ _ s2 s3 _ _ (HS2.out.fr0 hf) hs3 Z2.out.2 Z3.out.2;rw [HC23.out] at hk;have HK:=q_ hk;clear hf hs3 hk HP3 Hf9 HS2 HC23;go_wp2;refine mD_ ⟨trivial,?_⟩;go_wp2_with fail;refine (HK.out).mono ?_;rintro e w11 ⟨rfl,hf⟩;have H11:=q_ (H5.out.step (Hf10.out.trans0 hf));clear hf HK Hf10;go_wp2;refine mD_ ⟨trivial,sT_ rfl ?_⟩;go_wp2;go_ret2;exact⟨rfl,H11.out.drop.drop.drop.swap.drop⟩
end Go.Proofs.YtebolidfbflkmaaGreat
end
section
namespace Go.Proofs.Rg
open Go
def pairsX (gx:Nat→Nat→Bool) (P:Program) (ops:Array Oper) (π:List Nat) (b:Array Nat) (chk:Nat→List Nat) (o:Oper) (j:Nat):Bool :=
 π.all fun i=>!decide (rank π i<rank π j) || bitOf b j i || gx i j || match ops[i]? with
  | some oi=>oi.apart ops o && clG (chk j) i (cl P oi.op) (cl P o.op)
  | none=>true
def orderOKbX (gx:Nat→Nat→Bool) (P:Program) (ops:Array Oper) (π:List Nat) (chk:Nat→List Nat) (b:Array Nat):Bool :=
 Region.noSelect ops && decide (π.length=ops.size) && (List.range ops.size).all (fun j=>π.contains j) && π.all (fun j=>decide (j<ops.size)) && decide π.Nodup &&
 (List.range ops.size).all fun j=>match ops[j]? with
  | some o=>edgesG π o j && maskOK b o j && lookG ops π b o j && pairsX gx P ops π b chk o j && selfG P ops o && (chk j).all (againG P ops π b j) && ((chk j).isEmpty || cl P o.op == .any)
  | none=>true
def orderOKX (gx:Nat→Nat→Bool) (P:Program) (ops:Array Oper) (π:List Nat) (chk:Nat→List Nat):Bool:=orderOKbX gx P ops π chk (Region.before ops)
section
variable {P:Program} {ops:Array Oper} {K0:Act→World→Prop} {b:Array Nat} {π:List Nat} {chk:Nat→List Nat}
structure OrderedX (gx:Nat→Nat→Bool) (P:Program) (ops:Array Oper) (π:List Nat) (chk:Nat→List Nat) (b:Array Nat):Prop where
 select:Region.noSelect ops=true
 len:π.length=ops.size
 all:∀ j:Nat,j<ops.size↔j∈π
 nodup:π.Nodup
 edges:∀ (j:Nat) (o:Oper),ops[j]?=some o→∀ e∈o.after,Region.binds .any e=true→e.on<j∧rank π e.on<rank π j
 mask:∀ (j:Nat) (o:Oper),ops[j]?=some o→maskOK b o j=true
 look:∀ (j:Nat) (o:Oper) (z:Nat) (oz:Oper),ops[j]?=some o→ops[z]?=some oz→¬ (rank π z<rank π j∧bitOf b j z=true)→trivialOp o.op=true∨writes oz (o.looksAt ops)=false
 pair:∀ (i j:Nat) (oi oj:Oper),ops[i]?=some oi→ops[j]?=some oj→rank π i<rank π j→bitOf b j i=false→gx i j=false→oi.apart ops oj=true∧clG (chk j) i (cl P oi.op) (cl P oj.op)=true
 self:∀ (j:Nat) (o:Oper),ops[j]?=some o→cl P o.op=.load→writes o (o.looksAt ops)=false
 chkAny:∀ (j:Nat) (o:Oper),ops[j]?=some o→cl P o.op≠.any→chk j=[]
 chkLook:∀ (j:Nat) (o:Oper) (k:Nat),ops[j]?=some o→k∈chk j→∃ ok,ops[k]?=some ok∧rank π k<rank π j∧∀ (z:Nat) (oz:Oper),ops[z]?=some oz→z≠k→¬ (rank π z<rank π k∧bitOf b k z=true) →
  writes oz (ok.looksAt ops)=false∧writes oz ok.dst.toList=false
theorem OrderedX.of {gx:Nat→Nat→Bool} (h:orderOKbX gx P ops π chk b=true):OrderedX gx P ops π chk b:=by
 unfold orderOKbX at h;simp only [Bool.and_eq_true,decide_eq_true_eq] at h;obtain⟨⟨⟨⟨⟨h1,h2⟩,h3⟩,h4⟩,h5⟩,h6⟩:=h;have hall:∀ j o,ops[j]?=some o→edgesG π o j=true∧maskOK b o j=true∧lookG ops π b o j=true∧pairsX gx P ops π b chk o j=true∧selfG P ops o=true∧(chk j).all (againG P ops π b j)=true∧((chk j).isEmpty || cl P o.op == .any)=true:=fun j o hj=>by have:=List.all_eq_true.1 h6 j (List.mem_range.2 (Array.getElem?_eq_some_iff.1 hj).1);simp only [hj,Bool.and_eq_true] at this;obtain⟨⟨⟨⟨⟨⟨a1,a2⟩,a3⟩,a4⟩,a5⟩,a6⟩,a7⟩:=this;exact⟨a1,a2,a3,a4,a5,a6,a7⟩
 have hmem:∀ j,j<ops.size↔j∈π:=fun j=>⟨fun hj=>by simpa using List.all_eq_true.1 h3 j (List.mem_range.2 hj),fun hj=>by simpa using List.all_eq_true.1 h4 j hj⟩;have hlt:∀ {j o},ops[j]?=some o→j<ops.size:=fun hj=>(Array.getElem?_eq_some_iff.1 hj).1;refine⟨h1,h2,hmem,h5,fun j o hj e he hb=>?_,fun j o hj=>(hall j o hj).2.1,fun j o z oz hj hz hn=>?_,fun i j oi oj hi hj hr hb hx=>?_,fun j o hj hc=>?_,fun j o hj hc=>?_,fun j o k hj hk=>?_⟩;·
  have:=Array.all_eq_true_iff_forall_mem.1 (hall j o hj).1 e he;simpa [hb] using this
 ·have h:=(hall j o hj).2.2.1;unfold lookG at h;rw [Bool.or_eq_true] at h;rcases h with h|h
  ·exact .inl h
  ·right;have:=List.all_eq_true.1 h z (List.mem_range.2 (hlt hz));simp only [hz,Bool.or_eq_true,Bool.not_eq_true',Bool.and_eq_true,decide_eq_true_eq] at this;exact this.resolve_right hn
 ·have:=List.all_eq_true.1 (hall j oj hj).2.2.2.1 i ((hmem i).1 (hlt hi));simp only [hi,hr,hb,hx,decide_true,Bool.not_true,Bool.false_or,Bool.and_eq_true] at this;exact this
 ·have:=(hall j o hj).2.2.2.2.1;simpa [selfG,hc] using this
 ·have:=(hall j o hj).2.2.2.2.2.2;simp only [Bool.or_eq_true,beq_iff_eq] at this;simpa using this.resolve_right hc
 ·have:=List.all_eq_true.1 (hall j o hj).2.2.2.2.2.1 k hk;unfold againG at this;split at this;·
   rename_i ok hok;simp only [Bool.and_eq_true,decide_eq_true_eq] at this;refine⟨ok,hok,this.1.1.2,fun z oz hz hne hn=>?_⟩;have h:=List.all_eq_true.1 this.2 z (List.mem_range.2 (hlt hz));simp only [hz,Bool.or_eq_true,beq_iff_eq,hne,false_or,Bool.not_eq_true',Bool.or_eq_false_iff,Bool.and_eq_true,decide_eq_true_eq] at h;exact h.resolve_right hn
  ·cases this
theorem OrderedX.againPut {gx:Nat→Nat→Bool} (O:OrderedX gx P ops π chk b) {j k z:Nat} {o oz:Oper} (hj:ops[j]?=some o) (hk:k∈chk j) (hz:ops[z]?=some oz) (hr:rank π k<rank π z) {a a':Act} {v:Value} {w:World} (ht:a'.tmps=(a.put oz.dst v).tmps) :
  again P ops k a' w↔again P ops k a w:=by
 obtain⟨ok,hok,_,hall⟩:=O.chkLook j o k hj hk;obtain⟨h1,h2⟩:=hall z oz hz (fun e=>by rw [e] at hr;omega) o_;exact again_put hok ht (writes_spec h1) (writes_dst h2) (Region.noSelect_spec O.select k ok · · hok)
theorem bubbleX {gx:Nat→Nat→Bool} (O:OrderedX gx P ops π chk b) {i:Nat} {oi:Oper} (hi:ops[i]?=some oi) (l2:List Nat) (hl2:∀ z∈l2,rank π i<rank π z):∀ (l1:List Nat) (C:List Nat),(l1++i::l2).Pairwise (fun x y=>rank π x<rank π y) →
  (∀ z∈l1,z<ops.size)→(∀ z∈l1,bitOf b i z=false)→(∀ z∈l1,gx z i=false)→(∀ k∈C,k∈chk i∧∀ z∈l1,rank π k<rank π z)→∀ (a:Act) (w:World),wpG P ops (Strict ops K0) chk (l1++i::l2) a w →
  wpOp P ops (Strict ops K0) i (fun a w=>(∀ k∈C,again P ops k a w)∧wpG P ops (Strict ops K0) chk (l1++l2) a w) a w
 | [],C,_,_,_,_,hC,a,w,h=>by have h:wpOp P ops (Strict ops K0) i (fun a' w'=>(∀ k∈chk i,again P ops k a' w')∧wpG P ops (Strict ops K0) chk l2 a' w') a w:=h;exact wpOp_mono (fun a w h=>⟨fun k hk=>h.1 k (hC k hk).1,h.2⟩) h
 | x::l1,C,hs,hlt,hn,hnx,hC,a,w,h=>by
  simp only [List.cons_append] at h ⊢ hs;have hs':=List.pairwise_cons.1 hs;have h:wpOp P ops (Strict ops K0) x (fun a' w'=>(∀ k∈chk x,again P ops k a' w')∧wpG P ops (Strict ops K0) chk (l1++i::l2) a' w') a w:=h;let C':=if x∈chk i then x::C else C
  have hC':∀ k∈C',k∈chk i∧∀ z∈l1,rank π k<rank π z:=by
   intro k hk;by_cases hx:x∈chk i;·
    simp only [C',hx,if_true,List.mem_cons] at hk;rcases hk with rfl|hk
    ·exact⟨hx,fun z hz=>hs'.1 z (by simp [hz])⟩
    ·exact⟨(hC k hk).1,fun z hz=>(hC k hk).2 z (by simp [hz])⟩
   ·simp only [C',hx,if_false] at hk;exact⟨(hC k hk).1,fun z hz=>(hC k hk).2 z (by simp [hz])⟩
  have h:=wpOp_mono (fun a w h=>And.imp id (fun h=>bubbleX O hi l2 hl2 l1 C' hs'.2 (fun z hz=>hlt z (by simp [hz])) (fun z hz=>hn z (by simp [hz])) (fun z hz=>hnx z (by simp [hz])) hC' a w h) h) h;obtain⟨ox,hx⟩:∃ ox,ops[x]?=some ox:=⟨_,Array.getElem?_eq_getElem (hlt x i_)⟩;have hxi:rank π x<rank π i:=hs'.1 i i_;obtain⟨hap,hcl⟩:=O.pair x i ox oi hx hi hxi (hn x i_) (hnx x i_);have hself:∀ {j o},ops[j]?=some o→trivialOp o.op=true∨writes o (o.looksAt ops)=false:=fun {j o} hj=>O.look j o j o hj hj o_;have hsx:=(Region.noSelect_spec O.select x ox · · hx);have hsi:=(Region.noSelect_spec O.select i oi · · hi);have fin:∀ {j o} {a w},ops[j]?=some o→(∀ z∈l1++l2,¬ (rank π z<rank π j∧bitOf b j z=true))→wpG P ops (Strict ops K0) chk (l1++l2) a w→dynWant ops o a=true:=fun {j o a w} hj hz hK=>by
   cases htr:trivialOp o.op with
   | true=>unfold dynWant;rw [dynOp_trivial htr];rfl
   | false=>exact finalG hj _ a w hK fun z hzm oz hoz=>(O.look j o z oz hj hoz (hz z hzm)).resolve_left (by rw [htr];exact Bool.false_ne_true)
  refine swapG hx hi hap hsx hsi (B:=fun a w=>∀ k∈C',again P ops k a w) (A:=fun a w=>∀ k∈chk x,again P ops k a w) ?_ (hself hx) (hself hi) (O.self x ox hx) ?_ ?_ ?_ ?_ (fun a w hK=>⟨fin hx (fun z hz hh=>?_) hK,fin hi (fun z hz hh=>?_) hK⟩) h;·
   unfold clG clOK at hcl;simp only [Bool.or_eq_true,Bool.and_eq_true,beq_iff_eq] at hcl;rcases hcl with ((h|h)|h)|h
   ·exact .inl h
   ·exact .inr (.inl h)
   ·exact .inr (.inr (.inl h))
   ·refine .inr (.inr (.inr ⟨h.1,fun a w hB=>hB x ?_⟩));have:x∈chk i:=(by simpa using h.2);simp [C',this]
  ·intro a1 v w1 hB k hk;have hkC:k∈C':=by by_cases hx:x∈chk i<;>simp [C',hx,hk]
   exact (O.againPut hi (hC k hk).1 hx ((hC k hk).2 x i_) rfl).1 (hB k hkC)
  ·intro hc a w k hk;have:=O.chkAny i oi hi (by rw [hc];exact fun h=>by cases h);have hk':=(hC k hk).1;rw [this] at hk';cases hk'
  ·intro hc a w k hk;have:=O.chkAny x ox hx (by rcases hc with hc|hc<;>rw [hc]<;>exact fun h=>by cases h);rw [this] at hk;cases hk
  ·intro a1 u w1 hA k hk;obtain⟨ok,hok,hrk,_⟩:=O.chkLook x ox k hx hk;exact (O.againPut hx hk hi o_ rfl).2 (hA k hk)
  ·have:rank π x<rank π z:=hs'.1 z (by rcases List.mem_append.1 hz with h|h<;>simp [h]);omega
  ·rcases List.mem_append.1 hz with hz|hz
   ·rw [hn z (by simp [hz])] at hh;cases hh.2
   ·have:=hl2 z hz;omega
theorem mask_listedX {gx:Nat→Nat→Bool} (O:OrderedX gx P ops π chk b) {listed:Array Bool} (hc:Closed ops listed) (hsz:listed.size=ops.size):∀ (d j:Nat) (o:Oper),j=d→ops[j]?=some o →
  (∀ e∈o.after,Region.binds .any e=true→listed.getD e.on false=true)→∀ i,i<j→bitOf b j i=true→listed.getD i false=true:=by
 intro d
 induction d using Nat.strongRecOn with
 | _ d ih =>
  intro j o hd hj hall i hij hb;have hm:=O.mask j o hj;have:=List.all_eq_true.1 hm i (List.mem_range.2 hij);have hb:(b.getD j 0).testBit i=true:=by simp only [bitOf,Bool.and_eq_true] at hb;exact hb.2
  rw [hb] at this;simp only [Bool.not_true,Bool.false_or] at this;obtain⟨e,hem,h2⟩:=Array.any_eq_true'.1 this;simp only [Bool.and_eq_true,Bool.or_eq_true,beq_iff_eq,decide_eq_true_eq] at h2;have hon:=hall e hem h2.1;rcases h2.2 with h3|h3
  ·rw [← h3];exact hon
  ·have hej:=(O.edges j o hj e hem h2.1).1;have hlt:e.on<ops.size:=by
    have:=(Array.getElem?_eq_some_iff.1 hj).1;omega
   have hoe:ops[e.on]?=some ops[e.on]:=Array.getElem?_eq_getElem hlt;refine ih e.on o_ e.on _ rfl hoe (hc _ _ hoe ?_) i h3.1 (by simp only [bitOf,Bool.and_eq_true,decide_eq_true_eq];exact h3);have:e.on<listed.size:=o_;simp [this] at hon ⊢;exact hon
def LinF (ops:Array Oper):Nat→Array Bool→List Nat→Prop
 | 0,_,e=>e=[]
 | n+1,listed,e=>(Region.ready .any ops listed=[]∧e=[])∨∃ i∈Region.ready .any ops listed,∃ e',e=i::e'∧LinF ops n (listed.setIfInBounds i true) e'
theorem linF_of:∀ (fuel t:Nat) (listed:Array Bool),LinF ops fuel listed (Region.linearise.go .any ops fuel t listed [])
 | 0,t,listed=>by simp [Region.linearise.go,LinF]
 | fuel+1,t,listed=>by
  simp only [Region.linearise.go];change LinF ops (fuel+1) listed (match (Region.ready .any ops listed)[t % (Region.ready .any ops listed).length]? with
   | some i=>Region.linearise.go .any ops fuel (t / (Region.ready .any ops listed).length) (listed.setIfInBounds i true) [i]
   | none=>[].reverse)
  cases hi:(Region.ready .any ops listed)[t % (Region.ready .any ops listed).length]? with
  | none =>
   refine .inl ⟨?_,rfl⟩;cases hr:Region.ready .any ops listed with
   | nil=>rfl
   | cons x xs =>rw [hr] at hi;have hlt:t % (x::xs).length<(x::xs).length:=Nat.mod_lt _ i_;simp at hi;simp at hlt;omega
  | some i =>refine .inr ⟨i,List.mem_of_getElem? hi,Region.linearise.go .any ops fuel (t / (Region.ready .any ops listed).length) (listed.setIfInBounds i true) [],?_,linF_of fuel _ _⟩;simp only [];rw [linearise_go_acc,List.reverse_singleton,List.singleton_append]
theorem ops_of_X {gx:Nat→Nat→Bool} {gs:List (List Nat)} (hgx:∀ i j,gx i j=true→∃ g∈gs,g.contains i=true∧g.contains j=true) (O:OrderedX gx P ops π chk b):∀ (fuel:Nat) (l:List Nat) (listed:Array Bool) (e:List Nat),l.length=fuel→listed.size=ops.size→l.Pairwise (fun x y=>rank π x<rank π y) →
  (∀ k,k∈l↔k<ops.size∧listed.getD k true=false)→Closed ops listed→LinF ops fuel listed e →
  e.Perm l∧((∀ g∈gs,l.filter g.contains=e.filter g.contains)→∀ (a:Act) (w:World),wpG P ops (Strict ops K0) chk l a w→wpOps P ops (Strict ops K0) e a w)
 | 0,l,listed,e,hf,hsz,hs,hm,hc,he=>by obtain rfl:=List.eq_nil_of_length_eq_zero hf;obtain rfl:e=[]:=he;exact⟨List.Perm.refl _,fun _ a w h=>h⟩
 | fuel+1,l,listed,e,hf,hsz,hs,hm,hc,he=>by
  rcases he with ⟨hr,rfl⟩|⟨i,hi,e',rfl,he⟩
  ·exfalso;cases l with
   | nil=>cases hf
   | cons k l =>
    obtain⟨hk,hkl⟩:=(hm k).1 i_;have hok:ops[k]?=some ops[k]:=Array.getElem?_eq_getElem hk;have:k∈Region.ready .any ops listed:=mem_ready.2 ⟨hkl,_,hok,fun e he hbd=>by
     have hej:=O.edges k _ hok e he hbd
     cases hl:listed.getD e.on true with
     | true =>
      have hlt:e.on<listed.size:=o_
      simp [hlt] at hl ⊢;exact hl
     | false =>
      have:=(hm e.on).2 ⟨o_,hl⟩
      rcases List.mem_cons.1 this with h1|h1
      ·omega
      ·have:=(List.pairwise_cons.1 hs).1 _ h1;omega⟩
    rw [hr] at this;cases this
  ·obtain⟨h1,oi,h2,hall⟩:=mem_ready.1 hi;have hin:i<ops.size:=(Array.getElem?_eq_some_iff.1 h2).1;obtain⟨l1,l2,rfl⟩:=List.append_of_mem ((hm i).2 ⟨hin,h1⟩);have hpw:=List.pairwise_append.1 hs;have hnot1:i∉l1:=fun hx=>(by have:=hpw.2.2 i hx i i_;omega);have hnot2:i∉l2:=fun hx=>(by have:=(List.pairwise_cons.1 hpw.2.1).1 i hx;omega);have ih:=ops_of_X hgx O fuel (l1++l2) _ e' (by simp at hf ⊢;omega) (by simp [hsz]) (hs.sublist (List.Sublist.append (List.Sublist.refl _) (List.sublist_cons_self _ _))) (fun k=>by
    by_cases hki:k=i
    ·subst hki
     have hlt:k<listed.size:=o_
     simp [hnot1,hnot2,hlt]
    ·rw [getD_set_ne true (fun e=>hki e.symm),← hm k]
     simp [hki]) (by
    intro j o hj hl ed hed hbd
    by_cases hji:j=i
    ·subst hji
     have:o=oi:=Option.some.inj (hj.symm.trans h2)
     subst this
     exact getD_set_true (hall ed hed hbd)
    ·rw [getD_set_ne true (fun e=>hji e.symm)] at hl
     exact getD_set_true (hc j o hj hl ed hed hbd)) he
   refine⟨(ih.1.cons i).trans List.perm_middle.symm,fun hg a w h=>?_⟩;have hfirst:∀ g∈gs,g.contains i=true→l1.filter g.contains=[]:=fun g hgm hgi=>by
    have:=hg g hgm;rw [List.filter_append,List.filter_cons_of_pos hgi,List.filter_cons_of_pos hgi] at this;cases hq:l1.filter g.contains with
    | nil=>rfl
    | cons z q =>rw [hq,List.cons_append] at this;have hz:z=i:=(List.cons.inj this).1;have:z∈l1.filter g.contains:=(by rw [hq];simp);rw [hz] at this;exact absurd (List.mem_filter.1 this).1 hnot1
   rw [wpOps_cons];refine wpOp_mono (fun a w h=>ih.2 (fun g hgm=>?_) a w h.2)
    (bubbleX O h2 l2 (fun z hz=>(List.pairwise_cons.1 hpw.2.1).1 z hz) l1 [] hs (fun z hz=>((hm z).1 (by simp [hz])).1) (fun z hz=>?_) (fun z hz=>?_) i_ a w h)
   ·have hgg:=hg g hgm;rw [List.filter_append] at hgg ⊢;cases hgi:g.contains i with
    | true =>rw [hfirst g hgm hgi,List.filter_cons_of_pos hgi,List.filter_cons_of_pos hgi] at hgg;rw [hfirst g hgm hgi];exact (List.cons.inj hgg).2
    | false =>rwa [List.filter_cons_of_neg (by simp only [hgi,Bool.false_eq_true,not_false_eq_true]),List.filter_cons_of_neg (by simp only [hgi,Bool.false_eq_true,not_false_eq_true])] at hgg
   ·cases ht:bitOf b i z with
    | false=>rfl
    | true =>
     exfalso;have h3:=mask_listedX O hc hsz i i oi rfl h2 hall z (by simp only [bitOf,Bool.and_eq_true,decide_eq_true_eq] at ht;exact ht.1) ht;have h4:=((hm z).1 (by simp [hz])).2;have hlt:z<listed.size:=by have:=((hm z).1 (by simp [hz])).1;omega
     simp [hlt] at h3 h4;rw [h3] at h4;cases h4
   ·cases ht:gx z i with
    | false=>rfl
    | true =>exfalso;obtain⟨g,hgm,hgz,hgi⟩:=hgx z i ht;have:z∈l1.filter g.contains:=List.mem_filter.2 ⟨hz,hgz⟩;rw [hfirst g hgm hgi] at this;cases this
end
def ins (x:Nat):List Nat→List (List Nat)
 | []=>[[x]]
 | y::l=>(x::y::l)::(ins x l).map (y::·)
def permsOf:List Nat→List (List Nat)
 | []=>[[]]
 | x::g=>(permsOf g).flatMap (ins x)
theorem mem_ins (x:Nat):∀ (q1 q2:List Nat),q1++x::q2∈ins x (q1++q2)
 | [],[]=>by simp [ins]
 | [],y::q2=>by simp [ins]
 | y::q1,q2=>by have:=mem_ins x q1 q2;simp only [List.cons_append,ins,List.mem_cons];exact .inr (List.mem_map.2 ⟨_,this,rfl⟩)
theorem mem_permsOf:∀ {g q:List Nat},q.Perm g→q∈permsOf g
 | [],q,h=>by rw [h.eq_nil];simp [permsOf]
 | x::g,q,h=>by obtain⟨q1,q2,rfl⟩:=List.append_of_mem (h.mem_iff.2 (List.mem_cons_self));have:(q1++q2).Perm g:=(List.perm_middle.symm.trans h).cons_inv;exact List.mem_flatMap.2 ⟨_,mem_permsOf this,mem_ins x q1 q2⟩
def coverB (base:List Nat):List (List Nat)→List (List (List Nat×List Nat))→Bool
 | [],cands=>!cands.isEmpty
 | g::gs,cands=>(permsOf (base.filter g.contains)).all fun p=>coverB base gs (cands.filter fun ss=>(orderOf ss).filter g.contains == p)
theorem cover_of {base e:List Nat} (he:e.Perm base):∀ {gs:List (List Nat)} {cands:List (List (List Nat×List Nat))},coverB base gs cands=true→∃ ss∈cands,∀ g∈gs,(orderOf ss).filter g.contains=e.filter g.contains
 | [],cands,h=>by
  cases cands with
  | nil=>cases h
  | cons x l=>exact⟨x,i_,i_⟩
 | g::gs,cands,h=>by
  have h1:=List.all_eq_true.1 h (e.filter g.contains) (mem_permsOf (he.filter _));obtain⟨ss,h2,h3⟩:=cover_of he h1;obtain⟨h4,h5⟩:=List.mem_filter.1 h2;refine⟨ss,h4,fun g' hg'=>?_⟩;rcases List.mem_cons.1 hg' with rfl|hg'
  ·exact eq_of_beq h5
  ·exact h3 g' hg'
def groupsX (gs:List (List Nat)) (i j:Nat):Bool:=gs.any fun g=>g.contains i && g.contains j
end Go.Proofs.Rg
end
