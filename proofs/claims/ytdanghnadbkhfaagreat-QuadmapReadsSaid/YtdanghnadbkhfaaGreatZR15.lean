/- Own texts of this claim, part 16: no condition. -/
import Derived.RegionTactic
import Derived.ChangeAlike
import Derived.Shelf.SlSortCmp.InsertionK
import Derived.Test.YtdanghnadbkhfaaGreatZR14
import Derived.Test.YtdanghnadbkhfaaGreatZR5
set_option linter.unusedVariables false
set_option linter.unusedSimpArgs false
section
namespace Go.Proofs.YtdanghnadbkhfaaGreat
open Go Go.RowKit Rg Mp Hp Qs Ev Bn
def lcells (f:FV):Array Value:=#[.bool false,.slice f.2.1.2.1 (zd (f.2.1.1:Int)).length f.2.1.2.2,.bool false,.slice f.2.2.1.2.1 (zd (f.2.2.1.1:Int)).length f.2.2.1.2.2,.bool false,.slice f.2.2.2.1.2.1 (zd (f.2.2.2.1.1:Int)).length f.2.2.2.1.2.2,.bool false,.slice f.2.2.2.2.2.1 (zd (f.2.2.2.2.1:Int)).length f.2.2.2.2.2.2]
theorem lcells_zero (ok:Bool):lcells (zFV ok)=#[.bool false,.slice none 0 0,.bool false,.slice none 0 0,.bool false,.slice none 0 0,.bool false,.slice none 0 0]:=by
 simp [lcells,zFV,zBV,zd,dg_zero]
theorem lcells_store (f:FV) (ok:Bool) (u0 u1 u2 u3:BV):((((((((lcells f).setIfInBounds 0 (.bool false)).setIfInBounds 1 (.slice u0.2.1 (zd (u0.1:Int)).length u0.2.2)).setIfInBounds 2 (.bool false)).setIfInBounds 3 (.slice u1.2.1 (zd (u1.1:Int)).length u1.2.2)).setIfInBounds 4 (.bool false)).setIfInBounds 5 (.slice u2.2.1 (zd (u2.1:Int)).length u2.2.2)).setIfInBounds 6 (.bool false)).setIfInBounds 7 (.slice u3.2.1 (zd (u3.1:Int)).length u3.2.2)=lcells (ok,u0,u1,u2,u3):=by
 simp [lcells]
theorem results_cell3' {fn:Func} {p u v:Tmp} {ty:TypeId} (h:fn.results=#[.cell p ty,.tmp u,.tmp v]) (tmps:Array Value) (P:Program) (w:World) :
  (results fn tmps).run P w=((asAddr (tmps.getD p undef)).run P w).andThen fun a w₁=>((loadVar ty a).run P w₁).andThen fun x w₂=>.ok (.tuple #[x,tmps.getD u undef,tmps.getD v undef]) w₂:=by
 simp only [results,h]
 simp [Sem.run_bind,Result.andThen]
theorem four_result {fn:Func} {p u v:Tmp} (h:fn.results=#[.cell p 42,.tmp u,.tmp v]) {tmps:Array Value} {b:Nat} {w':World} {f:FV} {i j:Value} (h4:tmps.getD p undef=.pointer (some ⟨b,0,none⟩)) (hb:w'.heap[b]?=some (.cells (lcells f) 42 (0,0))) (h5:tmps.getD u undef=i) (h6:tmps.getD v undef=j) :
  (results fn tmps).run Tryz.prog w'=.ok (.tuple #[.agg (lcells f),i,j]) w':=by
 rw [results_cell3' h,h4]
 simp only [asAddr,Sem.run_pure,Result.andThen]
 rw [run_loadVar_row w' b _ _ _ _ _ hb Tryz.underlying42 rfl (by kernel_rfl)]
 simp only [h5,h6]
def frQ (s:Int) (ns:List K4) (id:Int):Option Frm:=if lvl s (levs s ns) id<0 then none else frT (tr s ns id).ht (tr s ns id)
def BoundsPost (W:World) (b:Nat) (s:Int) (ns:List K4) (id:Int) (Ps:List Res) (e:Ending) (w':World):Prop :=
 ∃ f L,e=.returned (.tuple #[.agg (lcells f),.bool f.1,.int .i64 (knownQ s ns id)])∧Has W w' (sTR b s ns::poolR L::Ps)∧FrOk (frQ s ns id) f∧InL L f
theorem has_framer {W w:World} {b:Nat} {s:Int} {ns:List K4} {Ps:List Res} (h:Has W w (sTR b s ns::Ps)):Has W ((w.alloc (.map #[] 0)).alloc (.cells #[.pointer (some ⟨b,0,none⟩),.map (some w.heap.size)] 96 (0,0))) (frL b (w.heap.size+1) w.heap.size s ns [] [] Ps):=by
 have h1:Has W (w.alloc (.map #[] 0)) (mapF w.heap.size []::sTR b s ns::Ps):=h.new (F:=[w.heap.size]) ((Fr.refl [] w).alloc _) ⟨MapIs.made w,rfl⟩ (by simp)
 have h2:=pool_nil (hAL h1 #[.pointer (some ⟨b,0,none⟩),.map (some w.heap.size)] 96).swap
 rw [show (w.alloc (.map #[] 0)).heap.size=w.heap.size+1 by simp] at h2
 exact h2
set_option maxHeartbeats 8000000 in
theorem Bounds_q {W w:World} {b:Nat} {s:Int} {ns:List K4} {Ps:List Res} (h:Has W w (sTR b s ns::Ps)) (id:Int) :
  Calls Tryz.prog 13 #[.pointer (some ⟨b,0,none⟩),.int .i64 id] w (BoundsPost W b s ns id Ps):=by
 have hg:=has_good h
 have HN:=Lib.hid (fun w1 Qs (h1:Has W w1 (sTR b s ns::Qs))=>known_q h1 id)
 have H:=Lib.hid h
 unfold BoundsPost
 unfold knownQ at HN
 unfold knownQ frQ
 by_cases h0:lvl s (levs s ns) id<0
 ·simp only [if_pos h0] at HN ⊢
  clear h hg
  go_enter Tryz.func13,Tryz.ntmps13
  go_wp2_with fail
  have h1:=(hAL H.out #[.bool false,.slice none 0 0,.bool false,.slice none 0 0,.bool false,.slice none 0 0,.bool false,.slice none 0 0] 42).swap
  refine (HN.out _ _ h1).mono ?_
  rintro e w1 ⟨rfl,hs,hf⟩
  obtain⟨rq,hrq⟩:∃ r4,w.heap.size=r4:=⟨_,rfl⟩
  rw [hrq] at hs ⊢
  have hr:=hs.swap.blk
  have r0:=hEC hr 0
  have r1:=hEC hr 1
  have r2:=hEC hr 2
  have r3:=hEC hr 3
  have r4:=hEC hr 4
  have r5:=hEC hr 5
  have r6:=hEC hr 6
  have r7':=hEC hr 7
  have rz0:=hEF hr 0
  have rz1:=hEF hr 1
  have rz2:=hEF hr 2
  have rz3:=hEF hr 3
  have rz4:=hEF hr 4
  have rz5:=hEF hr 5
  have rz6:=hEF hr 6
  have rz7':=hEF hr 7
  have rl:=lBk hr
  have H1:=Lib.hid hs
  clear hs hf hr h1 hrq
  go_wp2
  refine bodyPost_ret (four_result rfl (b:=rq) (f:=zFV false) rfl ?_ rfl rfl) rfl ⟨zFV false,[zBV],rfl,?_,by simp [FrOk,coF,zFV,zBV],by simp [InL,zFV]⟩
  ·have h2:=hST (hST (hST (hST (hST (hST (hST (hST H1.out.swap 0 (.bool false)) 1 (.slice none 0 0)) 2 (.bool false)) 3 (.slice none 0 0)) 4 (.bool false)) 5 (.slice none 0 0)) 6 (.bool false)) 7 (.slice none 0 0)
   rw [lcells_zero]
   exact h2.blk
  ·have h2:=hST (hST (hST (hST (hST (hST (hST (hST H1.out.swap 0 (.bool false)) 1 (.slice none 0 0)) 2 (.bool false)) 3 (.slice none 0 0)) 4 (.bool false)) 5 (.slice none 0 0)) 6 (.bool false)) 7 (.slice none 0 0)
   exact (z_in (pool_nil h2.drop)).swap
 ·simp only [if_neg h0] at HN ⊢
  obtain⟨n,hn,hn256,hi⟩:=level_nat hg (id:=id) (by omega)
  have HT:=Lib.hid (full_ht n hi.2.2.1)
  have HC:=Lib.hid (fun fb rb w1 Qs L mm (h1:Has W w1 (frL b fb rb s ns L mm Qs)) (hI:FInv s ns L mm)=>frame_q (W:=W) n hn256 w1 Qs L mm id _ h1 hI hi)
  clear h hg h0 hn hi
  have hmm:=@run_makeMap Tryz.prog
  go_enter Tryz.func13,Tryz.ntmps13
  go_wp2_with fail
  have h1:=(hAL H.out #[.bool false,.slice none 0 0,.bool false,.slice none 0 0,.bool false,.slice none 0 0,.bool false,.slice none 0 0] 42).swap
  refine (HN.out _ _ h1).mono ?_
  rintro e w1 ⟨rfl,hs,hf⟩
  obtain⟨rq,hrq⟩:∃ r4,w.heap.size=r4:=⟨_,rfl⟩
  rw [hrq] at hs ⊢
  have hr:=hs.swap.blk
  have r0:=hEC hr 0
  have r1:=hEC hr 1
  have r2:=hEC hr 2
  have r3:=hEC hr 3
  have r4:=hEC hr 4
  have r5:=hEC hr 5
  have r6:=hEC hr 6
  have r7':=hEC hr 7
  have rz0:=hEF hr 0
  have rz1:=hEF hr 1
  have rz2:=hEF hr 2
  have rz3:=hEF hr 3
  have rz4:=hEF hr 4
  have rz5:=hEF hr 5
  have rz6:=hEF hr 6
  have rz7':=hEF hr 7
  have rl:=lBk hr
  have H1:=Lib.hid hs
  clear hs hf hr h1 hrq
  go_wp2_with fail
  have h2:=has_framer H1.out
  refine (HC.out _ _ _ _ _ _ h2 (by intro e he;cases he)).mono ?_
  rintro e w2 ⟨⟨ok,f0,f1,f2,f3⟩,L2,mm2,rfl,h5,hI5,hs5,hok5,hin5⟩
  clear r0 r1 r2 r3 r4 r5 r6 r7' rz0 rz1 rz2 rz3 rz4 rz5 rz6 rz7' rl h2
  have h5:=h5.ord 5 [4,0,3]
  simp only [List.filterMap_cons,List.filterMap_nil,List.getElem?_cons_zero,List.getElem?_cons_succ,List.drop_succ_cons,List.drop_zero,List.cons_append,List.nil_append,List.take_succ_cons,List.take_zero,List.eraseIdx_cons_succ,List.eraseIdx_zero,List.eraseIdx_cons_zero,List.tail_cons,Option.toList_some] at h5
  have hr:=h5.blk
  have r0:=hEC hr 0
  have r1:=hEC hr 1
  have r2:=hEC hr 2
  have r3:=hEC hr 3
  have r4:=hEC hr 4
  have r5:=hEC hr 5
  have r6:=hEC hr 6
  have r7':=hEC hr 7
  have rz0:=hEF hr 0
  have rz1:=hEF hr 1
  have rz2:=hEF hr 2
  have rz3:=hEF hr 3
  have rz4:=hEF hr 4
  have rz5:=hEF hr 5
  have rz6:=hEF hr 6
  have rz7':=hEF hr 7
  have rl:=lBk hr
  have H5:=Lib.hid h5
  have HOK5:=Lib.hid (And.intro hok5 hin5)
  clear h5 hr hI5 hs5 hok5 hin5
  simp only [fvV,fCL]
  go_wp2
  go_region
  have h0:=H5.out
  have h1:=hST (hST (hST (hST h0 0 (.bool false)) 1 (.slice f0.2.1 (zd (f0.1:Int)).length f0.2.2)) 2 (.bool false)) 3 (.slice f1.2.1 (zd (f1.1:Int)).length f1.2.2)
  have h2:=hST (hST (hST (hST h1 4 (.bool false)) 5 (.slice f2.2.1 (zd (f2.1:Int)).length f2.2.2)) 6 (.bool false)) 7 (.slice f3.2.1 (zd (f3.1:Int)).length f3.2.2)
  rw [show (#[Value.bool false,.slice none 0 0,.bool false,.slice none 0 0,.bool false,.slice none 0 0,.bool false,.slice none 0 0]:Array Value)=lcells (zFV false) from (lcells_zero false).symm,lcells_store _ ok] at h2
  have h2:=h2.step (((Fr.refl [] _).alloc (.cells (fCL (ok,f0,f1,f2,f3)) 98)).drew)
  simp only [fCL] at h2
  have H6:=Lib.hid h2
  clear h0 h1 h2
  go_wp2
  refine bodyPost_ret (four_result rfl (b:=rq) (f:=(ok,f0,f1,f2,f3)) rfl ?_ rfl rfl) rfl ⟨(ok,f0,f1,f2,f3),L2,rfl,?_,by rw [HT.out];exact HOK5.out.1,HOK5.out.2⟩
  ·exact H6.out.blk
  ·exact H6.out.drop.swap
end Go.Proofs.YtdanghnadbkhfaaGreat
end
section
namespace Go.Proofs.Pt
structure PC where
 x:Int
 y:Int
 st:Int
 deriving DecidableEq
def placeB (x y:Int):Bool:=decide (-1048576≤x∧x≤1048576∧-1048576≤y∧y≤1048576)
def pBef (a b:PC):Bool:=decide (a.y<b.y∨a.y=b.y∧a.x<b.x)
theorem pBef_asymm {a b:PC} (h:pBef a b=true) (h':pBef b a=true):False:=by simp only [pBef,decide_eq_true_eq] at h h';omega
theorem pBef_trans {a b c:PC} (h:pBef a b=true) (h':pBef b c=true):pBef a c=true:=by simp only [pBef,decide_eq_true_eq] at *;omega
theorem pBef_weak {a b c:PC} (h:pBef b a=false) (h':pBef c b=false):pBef c a=false:=by simp only [pBef,decide_eq_false_iff_not] at *;omega
def samePos (a b:PC):Bool:=decide (a.x=b.x∧a.y=b.y)
theorem samePos_iff {a b:PC} (h:pBef b a=false):samePos a b=!pBef a b:=by
 rw [Bool.eq_iff_iff]
 simp only [samePos,pBef,decide_eq_true_eq,decide_eq_false_iff_not,Bool.not_eq_true'] at *
 omega
def strictB:List PC→Bool
 | []=>true
 | [_]=>true
 | a::b::l=>pBef a b && strictB (b::l)
theorem strict_pair:∀ {l:List PC},strictB l=true→l.Pairwise fun a b=>pBef a b=true
 | [],_=>List.Pairwise.nil
 | [a],_=>by simp
 | a::b::l,h=>by
  simp only [strictB,Bool.and_eq_true] at h
  have ih:=strict_pair h.2
  refine List.Pairwise.cons ?_ ih
  intro c hc
  rw [List.mem_cons] at hc
  rcases hc with rfl|hc
  ·exact h.1
  ·exact pBef_trans h.1 ((List.pairwise_cons.1 ih).1 c hc)
theorem strict_of_pair:∀ {l:List PC},(l.Pairwise fun a b=>pBef a b=true)→strictB l=true
 | [],_=>rfl
 | [a],_=>rfl
 | a::b::l,h=>by
  obtain⟨h1,h2⟩:=List.pairwise_cons.1 h
  simp only [strictB,Bool.and_eq_true]
  exact⟨h1 b (by simp),strict_of_pair h2⟩
theorem strict_perm_eq:∀ {l m:List PC},(l.Pairwise fun a b=>pBef a b=true)→(m.Pairwise fun a b=>pBef a b=true)→l.Perm m→l=m
 | [],m,_,_,h=>(List.perm_nil.1 h.symm).symm
 | a::l,[],_,_,h=>by have:=h.length_eq;simp at this
 | a::l,b::m,hl,hm,h=>by
  obtain⟨l1,l2⟩:=List.pairwise_cons.1 hl
  obtain⟨m1,m2⟩:=List.pairwise_cons.1 hm
  have ha:a∈b::m:=h.subset (by simp)
  have hb:b∈a::l:=h.symm.subset (by simp)
  rw [List.mem_cons] at ha hb
  rcases ha with rfl|ha
  ·rw [strict_perm_eq l2 m2 (List.Perm.cons_inv h)]
  ·rcases hb with rfl|hb
   ·rw [strict_perm_eq l2 m2 (List.Perm.cons_inv h)]
   ·exact (pBef_asymm (m1 a ha) (l1 b hb)).elim
def Weak (l:List PC):Prop:=l.Pairwise fun a b=>pBef b a=false
theorem weak_strict:∀ {l:List PC},Weak l→(strictB l=true↔l.Pairwise fun a b=>samePos a b=false)
 | [],_=>by simp [strictB]
 | a::l,h=>by
  obtain⟨h1,h2⟩:=List.pairwise_cons.1 h
  constructor
  ·intro hs
   refine (strict_pair hs).imp_of_mem ?_
   intro x y hx hy hxy
   cases hq:samePos x y with
   | false=>rfl
   | true=>simp only [samePos,pBef,decide_eq_true_eq] at hxy hq;omega
  ·intro hd
   apply strict_of_pair
   refine (List.Pairwise.and h hd).imp ?_
   intro x y ⟨hxy,hq⟩
   rw [samePos_iff hxy] at hq
   simpa using hq
theorem pair_perm {R:PC→PC→Prop} (hR:∀ a b,R a b→R b a) {l m:List PC} (h:l.Perm m):l.Pairwise R→m.Pairwise R:=(h.pairwise_iff (fun hab=>hR _ _ hab)).1
theorem weak_same {l m:List PC} (hl:Weak l) (hm:Weak m) (h:l.Perm m):strictB l=strictB m∧(strictB l=true→l=m):=by
 have hs:∀ a b,samePos a b=false→samePos b a=false:=fun a b=>by simp only [samePos,decide_eq_false_iff_not];omega
 constructor
 ·rw [Bool.eq_iff_iff,weak_strict hl,weak_strict hm]
  exact⟨pair_perm hs h,pair_perm hs h.symm⟩
 ·intro hst
  refine strict_perm_eq (strict_pair hst) (strict_pair ?_) h
  rw [weak_strict hm]
  exact pair_perm hs h ((weak_strict hl).1 hst)
def insP (c:PC):List PC→List PC
 | []=>[c]
 | d::l=>if pBef c d then c::d::l else d::insP c l
def sortP (l:List PC):List PC:=l.foldl (fun q c=>insP c q) []
theorem insP_perm (c:PC):∀ l:List PC,(insP c l).Perm (c::l)
 | []=>List.Perm.refl _
 | d::l=>by
  unfold insP
  split
  ·exact List.Perm.refl _
  ·exact ((insP_perm c l).cons d).trans (List.Perm.swap c d l)
theorem insP_weak (c:PC):∀ {l:List PC},Weak l→Weak (insP c l)
 | [],_=>by simp [insP,Weak]
 | d::l,h=>by
  obtain⟨h1,h2⟩:=List.pairwise_cons.1 h
  unfold insP
  split
  ·rename_i hc
   have hdc:pBef d c=false:=by
    cases hq:pBef d c with
    | false=>rfl
    | true=>exact (pBef_asymm hc hq).elim
   refine List.Pairwise.cons ?_ h
   intro x hx
   rw [List.mem_cons] at hx
   rcases hx with rfl|hx
   ·exact hdc
   ·exact pBef_weak hdc (h1 x hx)
  ·rename_i hc
   refine List.Pairwise.cons ?_ (insP_weak c h2)
   intro x hx
   have:=(insP_perm c l).subset hx
   rw [List.mem_cons] at this
   rcases this with rfl|hx
   ·simpa using hc
   ·exact h1 x hx
theorem sortP_fold:∀ (l q:List PC),Weak q→Weak (l.foldl (fun q c=>insP c q) q)∧(l.foldl (fun q c=>insP c q) q).Perm (q++l)
 | [],q,h=>⟨h,by simp⟩
 | c::l,q,h=>by
  obtain⟨h1,h2⟩:=sortP_fold l (insP c q) (insP_weak c h)
  refine⟨h1,h2.trans ?_⟩
  refine ((insP_perm c q).append_right l).trans ?_
  exact (List.perm_middle (l₁:=q)).symm
theorem sortP_weak (l:List PC):Weak (sortP l):=(sortP_fold l [] List.Pairwise.nil).1
theorem sortP_perm (l:List PC):(sortP l).Perm l:=(sortP_fold l [] List.Pairwise.nil).2
def badP:List PC→Int
 | []=>0
 | c::l=>if placeB c.x c.y=false then 5 else if c.st<0∨8≤c.st then 10 else badP l
theorem badP_snoc:∀ (l:List PC) (c:PC),badP (l++[c])=if badP l≠0 then badP l else badP [c]
 | [],c=>by simp [badP]
 | d::l,c=>by
  have:=badP_snoc l c
  simp only [List.cons_append,badP]
  split
  ·simp
  ·split
   ·simp
   ·exact this
theorem badP_app {l m:List PC} (h:badP l≠0):badP (l++m)=badP l:=by
 induction l with
 | nil=>exact absurd rfl h
 | cons d l ih =>
  simp only [List.cons_append,badP] at h ⊢
  split
  ·rfl
  ·split
   ·rfl
   ·rename_i h1 h2
    rw [if_neg h1,if_neg h2] at h
    exact ih h
def someP (l:List PC):List PC:=l.filter fun c=>decide (c.st≠0)
def fromP (l:List PC):List PC×Int :=
 if badP l≠0 then ([],badP l) else if strictB (sortP (someP l))=false then ([],8) else if 5000<(sortP (someP l)).length then ([],6) else (sortP (someP l),0)
theorem fromP_of {l q:List PC} (hb:badP l=0) (hw:Weak q) (hp:q.Perm (someP l)):fromP l=if strictB q=false then ([],8) else if 5000<q.length then ([],6) else (q,0):=by
 obtain⟨h1,h2⟩:=weak_same hw (sortP_weak (someP l)) (hp.trans (sortP_perm _).symm)
 unfold fromP
 rw [if_neg (by simp [hb]),← h1]
 cases hs:strictB q with
 | false=>rfl
 | true =>
  have:=h2 hs
  simp only [reduceCtorEq,if_false]
  rw [← this]
def cellB (c:PC):Bool:=placeB c.x c.y && decide (1≤c.st∧c.st<8)
def rightP (l:List PC):Bool:=decide (l.length≤5000) && (l.all cellB && strictB l)
end Go.Proofs.Pt
end
section
namespace Go.Proofs.Hp
open Go Go.RowKit
structure Gr (w w':World):Prop where
 fr:Fr [] w w'
 dr:w.drawn≤w'.drawn
theorem Gr.refl (w:World):Gr w w:=⟨Fr.refl [] w,Nat.le_refl _⟩
theorem Gr.trans {a b c:World} (h:Gr a b) (k:Gr b c):Gr a c:=⟨h.fr.trans0 k.fr,Nat.le_trans h.dr k.dr⟩
theorem Gr.drew {a w:World} (h:Gr a w):Gr a w.drew:=⟨h.fr.drew,Nat.le_succ_of_le h.dr⟩
theorem Gr.drewN {a w:World} (h:Gr a w) (n:Nat):Gr a (w.drewN n):=⟨h.fr.drewN n,Nat.le_trans h.dr (Nat.le_add_right _ _)⟩
theorem Gr.alloc {a w:World} (h:Gr a w) (o:Obj):Gr a (w.alloc o):=⟨h.fr.alloc o,h.dr⟩
theorem drawn_setCell (w:World) (p:Addr) (u:Value):(w.setCell p u).drawn=w.drawn:=by
 unfold World.setCell
 repeat' split
 all_goals rfl
theorem Gr.setCell {a w:World} (h:Gr a w) {p:Addr} (hp:a.heap.size≤p.block) (u:Value):Gr a (w.setCell p u):=⟨h.fr.setCell (.inr hp) u,by rw [drawn_setCell];exact h.dr⟩
theorem Gr.grow {w w':World} (h:Gr w w'):∃ q os,w'=Go.Sort.grow (w.drewN q) os:=by
 refine⟨w'.drawn - w.drawn,w'.heap.extract w.heap.size w'.heap.size,?_⟩
 have hp:w'.heap=w.heap++w'.heap.extract w.heap.size w'.heap.size:=by
  apply Array.ext'
  rw [Array.toList_append,Array.toList_extract]
  have hl:=h.fr.size
  apply List.ext_getElem?
  intro i
  by_cases hi:i<w.heap.size
  ·rw [List.getElem?_append_left (by simpa using hi),Array.getElem?_toList,Array.getElem?_toList]
   exact h.fr.block i hi (by simp)
  ·rw [List.getElem?_append_right (by simpa using hi)]
   simp only [Array.length_toList,List.extract_eq_take_drop,List.getElem?_take,List.getElem?_drop]
   by_cases hi2:i<w'.heap.size
   ·rw [if_pos (by omega),show w.heap.size+(i - w.heap.size)=i by omega]
   ·rw [if_neg (by omega),List.getElem?_eq_none (by simp;omega)]
 obtain⟨hh,ht,hd,ho,hu⟩:=w'
 obtain⟨gh,gt,gd,go,gu⟩:=w
 have h1:=h.fr.os
 have h2:=h.fr.tape
 have h3:=h.fr.output
 have h4:=h.dr
 simp only at h1 h2 h3 h4 hp
 subst h1;subst h2;subst h3
 simp only [Go.Sort.grow,World.drewN]
 rw [← hp]
 congr 1
 omega
end Go.Proofs.Hp
namespace Go.Proofs.YtdanghnadbkhfaaGreat
open Go Go.RowKit Rg Hp Pt
def cmpJ (a b:Int):Int:=if a<b then -1 else if b<a then 1 else 0
def cmpQ (p q:PC):Int:=if cmpJ p.y q.y≠0 then cmpJ p.y q.y else cmpJ p.x q.x
theorem ret_int' {k:IntKind} {a b:Int} (h:a=b):Ending.returned (.int k a)=Ending.returned (.int k b):=by rw [h]
def orI (a b:Int):Int:=if a≠0 then a else b
theorem orI_pos {a b:Int} (h:¬ a=0):orI a b=a:=by unfold orI;rw [if_pos h]
theorem orI_zero (b:Int):orI 0 b=b:=by unfold orI;simp
theorem cmpJ_calls (a b:Int) (w:World):Calls Tryz.prog 134 #[.int .i64 a,.int .i64 b] w fun e w'=>e=.returned (.int .i64 (cmpJ a b))∧w=w':=by
 have h1:(a != a)=false:=by simp
 have h2:(b != b)=false:=by simp
 unfold cmpJ
 by_cases h:a<b
 ·rw [if_pos h]
  go_enter Tryz.func134,Tryz.ntmps134
  go_wp2
  go_ret
  exact⟨rfl,rfl⟩
 ·rw [if_neg h]
  by_cases h':b<a
  ·rw [if_pos h']
   go_enter Tryz.func134,Tryz.ntmps134
   go_wp2
   go_ret
   exact⟨rfl,rfl⟩
  ·rw [if_neg h']
   go_enter Tryz.func134,Tryz.ntmps134
   go_wp2
   go_ret
   exact⟨rfl,rfl⟩
theorem or_calls {a b:Int} {g:Nat} {w:World} (h:w.heap[g]?=some (.cells #[.int .i64 a,.int .i64 b] 3 (0,0))) :
  Calls Tryz.prog 133 #[.slice (some ⟨g,0,none⟩) 2 2] w fun e w'=>e=.returned (.int .i64 (orI a b))∧Gr w w':=by
 have c0:=hEC h 0
 have c1:=hEC h 1
 simp at c0 c1
 have H:=Lib.hid h
 clear h
 go_enter Tryz.func133,Tryz.ntmps133
 go_wp2
 go_loopw [8] (fun i wr=>∃ z:Int,i=.int .i64 z∧(z=0∨z=1∧a=0∨z=2∧a=0∧b=0)∧w=wr) (fun i _=>2 - (intOf i).toNat)
 case atStart=>exact⟨0,rfl,.inl rfl,rfl⟩
 case round =>
  obtain⟨z,rfl,h,rfl⟩:=hrel
  rcases h with rfl|⟨rfl,rfl⟩|⟨rfl,rfl,rfl⟩
  ·by_cases h0:a=0
   ·subst h0
    go_wp2
    go_roundw
    case rel=>refine⟨1,?_⟩;simp
    case measure=>simp [intOf]
   ·have hn:(a != 0)=true:=by simpa using h0
    go_wp2
    go_ret
    exact⟨ret_int' (orI_pos h0).symm,by (repeat (first|exact Gr.refl _|assumption|apply Gr.drewN|apply Gr.drew|apply Gr.alloc|refine Gr.setCell ?_ (by simp;try omega) _))⟩
  ·by_cases h0:b=0
   ·subst h0
    go_wp2
    go_roundw
    case rel=>refine⟨2,?_⟩;simp
    case measure=>simp [intOf]
   ·have hn:(b != 0)=true:=by simpa using h0
    go_wp2
    go_ret
    exact⟨ret_int' (orI_zero b).symm,by (repeat (first|exact Gr.refl _|assumption|apply Gr.drewN|apply Gr.drew|apply Gr.alloc|refine Gr.setCell ?_ (by simp;try omega) _))⟩
  ·go_wp2
   go_ret
   exact⟨rfl,by (repeat (first|exact Gr.refl _|assumption|apply Gr.drewN|apply Gr.drew|apply Gr.alloc|refine Gr.setCell ?_ (by simp;try omega) _))⟩
theorem cmpQ_calls (p q:PC) (w:World):Calls Tryz.prog 117 #[.agg #[.int .i64 p.x,.int .i64 p.y],.agg #[.int .i64 q.x,.int .i64 q.y]] w fun e w'=>e=.returned (.int .i64 (cmpQ p q))∧Gr w w':=by
 obtain⟨px,py,ps⟩:=p
 obtain⟨qx,qy,qs⟩:=q
 show Calls _ _ _ w fun e w'=>e=.returned (.int .i64 (orI (cmpJ py qy) (cmpJ px qx)))∧Gr w w'
 have h1:=fun w=>cmpJ_calls py qy w
 have h2:=fun w=>cmpJ_calls px qx w
 generalize cmpJ py qy=a at h1 ⊢
 generalize cmpJ px qx=b at h2 ⊢
 have H1:=Lib.hid h1
 have H2:=Lib.hid h2
 clear h1 h2
 go_enter Tryz.func117,Tryz.ntmps117
 go_wp2
 refine wRS [([0,1,2,3,5,6,7,8,4],[6,8]),([9,10,11,12],[])] (by kernel_rfl) (by kernel_rfl) ?_
 (simp only [wpSegs,pick,Array.getD_eq_getD_getElem?,List.getElem?_toArray,List.getElem?_cons_succ,List.getElem?_cons_zero,Option.getD_some])
 go_wp2_with fail
 refine (H1.out _).mono ?_
 rintro e w' ⟨rfl,rfl⟩
 go_wp2
 refine Mid.intro ⟨⟨again_cell (T:=3) rfl rfl rfl Tryz.underlying3 rfl (by simp [go_sem]) rfl,again_cell (T:=3) rfl rfl rfl Tryz.underlying3 rfl (by simp [go_sem]) rfl,trivial⟩,?_⟩
 go_wp2_with fail
 refine (H2.out _).mono ?_
 rintro e w' ⟨rfl,rfl⟩
 go_wp2_with fail
 refine (or_calls (a:=a) (b:=b) ?hb).mono ?_
 case hb=>(repeat first|rw [if_pos (by omega)]|rw [if_neg (by omega)]|rw [hDR]|rw [hDN]|rw [hAz]|rw [hSz]|rw [hAC]|rw [hSC]|rw [oMS]|rw [uPC]|rw [lSZ]|rw [lSS]|rfl)
 rintro e w' ⟨rfl,hf⟩
 have Hf:=Lib.hid hf
 clear hf
 go_wp2
 refine Mid.intro ⟨trivial,Strict.intro rfl ?_⟩
 go_wp2
 go_ret
 exact⟨rfl,Gr.trans (by (repeat (first|exact Gr.refl _|assumption|apply Gr.drewN|apply Gr.drew|apply Gr.alloc|refine Gr.setCell ?_ (by simp;try omega) _))) Hf.out⟩
def pcV (c:PC):Value:=.agg #[.int .i64 c.x,.int .i64 c.y,.int .i64 c.st]
theorem point_result1 {fn:Func} {p:Tmp} (h:fn.results=#[.cell p 120]) {tmps:Array Value} {b:Nat} {w':World} {x y:Value} (h4:tmps.getD p undef=.pointer (some ⟨b,0,none⟩)) (hb:w'.heap[b]?=some (.cells #[x,y] 120 (0,0))) :
  (results fn tmps).run Tryz.prog w'=.ok (.agg #[x,y]) w':=by
 rw [results_cell1 h,h4]
 simp only [asAddr,Sem.run_pure,Result.andThen]
 rw [run_loadVar_row w' b _ _ _ _ _ hb Tryz.underlying120 rfl (by kernel_rfl)]
theorem at_p (c:PC) (w:World):Calls Tryz.prog 97 #[pcV c] w fun e w'=>e=.returned (.agg #[.int .i64 c.x,.int .i64 c.y])∧Gr w w':=by
 unfold pcV
 go_enter Tryz.func97,Tryz.ntmps97
 go_wp2
 refine bodyPost_ret (point_result1 rfl (b:=w.heap.size+1) (x:=.int .i64 c.x) (y:=.int .i64 c.y) rfl ?_) rfl ⟨rfl,?_⟩
 ·(repeat first|rw [if_pos (by omega)]|rw [if_neg (by omega)]|rw [hDR]|rw [hDN]|rw [hAz]|rw [hSz]|rw [hAC]|rw [hSC]|rw [oMS]|rw [uPC]|rw [lSZ]|rw [lSS]|rfl)
 ·(repeat (first|exact Gr.refl _|assumption|apply Gr.drewN|apply Gr.drew|apply Gr.alloc|refine Gr.setCell ?_ (by simp;try omega) _))
theorem order_p (c d:PC) (w:World):Calls Tryz.prog 99 #[pcV c,pcV d] w fun e w'=>e=.returned (.int .i64 (cmpQ c d))∧Gr w w':=by
 have HC:=Lib.hid (at_p c)
 have HD:=Lib.hid (at_p d)
 have HQ:=Lib.hid (cmpQ_calls c d)
 unfold pcV at HC HD ⊢
 generalize cmpQ c d=r at HQ ⊢
 go_enter Tryz.func99,Tryz.ntmps99
 go_wp2
 refine wRS [([0,2,1],[2]),([3,4,5],[])] (by kernel_rfl) (by kernel_rfl) ?_
 (simp only [wpSegs,pick,Array.getD_eq_getD_getElem?,List.getElem?_toArray,List.getElem?_cons_succ,List.getElem?_cons_zero,Option.getD_some])
 go_wp2_with fail
 refine (HC.out _).mono ?_
 rintro e w3 ⟨rfl,hg⟩
 have hf:=hg.fr
 have hd_:=(hf.block (w.heap.size+1) (by first|(simp;done)|(simp;omega)) (by simp)).trans (show _=some (.cells #[.int .i64 d.x,.int .i64 d.y,.int .i64 d.st] 75 (0,0)) by (repeat first|rw [if_pos (by omega)]|rw [if_neg (by omega)]|rw [hDR]|rw [hDN]|rw [hAz]|rw [hSz]|rw [hAC]|rw [hSC]|rw [oMS]|rw [uPC]|rw [lSZ]|rw [lSS]|rfl))
 have d0:=hEC hd_ 0
 have d1:=hEC hd_ 1
 have d2:=hEC hd_ 2
 have dl:=lBk hd_
 have Hd:=Lib.hid hd_
 clear hd_
 have Hg:=Lib.hid (Gr.trans (by (repeat (first|exact Gr.refl _|assumption|apply Gr.drewN|apply Gr.drew|apply Gr.alloc|refine Gr.setCell ?_ (by simp;try omega) _))) hg:Gr w w3)
 clear hf hg
 go_wp2
 refine Mid.intro ⟨⟨aGR (T:=75) (cs:=[.int .i64 d.x,.int .i64 d.y,.int .i64 d.st]) rfl rfl rfl Tryz.underlying75 rfl (by kernel_rfl) (fun j v hj=>?rng) rfl,trivial⟩,?_⟩
 case rng =>
  rw [Nat.zero_add,hEC Hd.out,← hj]
  exact (Array.getElem?_toList (xs:=#[Value.int .i64 d.x,.int .i64 d.y,.int .i64 d.st])).symm
 go_wp2_with fail
 refine (HD.out _).mono ?_
 rintro e w4 ⟨rfl,hg⟩
 have Hg:=Lib.hid (Hg.out.trans hg)
 clear hg
 go_wp2_with fail
 refine (HQ.out _).mono ?_
 rintro e w5 ⟨rfl,hg⟩
 have Hg:=Lib.hid (Hg.out.trans hg)
 clear hg
 go_wp2
 refine Mid.intro ⟨trivial,Strict.intro rfl ?_⟩
 go_wp2
 go_ret
 exact⟨rfl,by have:=Hg.out;(repeat (first|exact Gr.refl _|assumption|apply Gr.drewN|apply Gr.drew|apply Gr.alloc|refine Gr.setCell ?_ (by simp;try omega) _))⟩
theorem placed_p (c:PC) (w:World):Calls Tryz.prog 96 #[.agg #[.int .i64 c.x,.int .i64 c.y]] w fun e w'=>e=.returned (.bool (placeB c.x c.y))∧Gr w w':=by
 have hb:placeB c.x c.y=(decide (max c.x c.y≤1048576) && decide (min c.x c.y ≥ -1048576)):=by
  unfold placeB
  rw [Bool.eq_iff_iff]
  simp only [Bool.and_eq_true,decide_eq_true_eq];omega
 rw [hb]
 obtain⟨x,y,st⟩:=c
 simp only
 clear hb
 cases h1:decide (max x y≤1048576) with
 | true =>
  obtain⟨r,h2⟩:∃ r,decide (min x y ≥ -1048576)=r:=⟨_,rfl⟩
  rw [h2]
  go_enter Tryz.func96,Tryz.ntmps96
  go_wp2
  go_ret
  exact⟨by simp,by (repeat (first|exact Gr.refl _|assumption|apply Gr.drewN|apply Gr.drew|apply Gr.alloc|refine Gr.setCell ?_ (by simp;try omega) _))⟩
 | false =>
  go_enter Tryz.func96,Tryz.ntmps96
  go_wp2
  go_ret
  exact⟨by simp,by (repeat (first|exact Gr.refl _|assumption|apply Gr.drewN|apply Gr.drew|apply Gr.alloc|refine Gr.setCell ?_ (by simp;try omega) _))⟩
end Go.Proofs.YtdanghnadbkhfaaGreat
end
