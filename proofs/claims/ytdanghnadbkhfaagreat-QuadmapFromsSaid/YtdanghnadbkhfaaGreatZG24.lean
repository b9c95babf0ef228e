/- Own texts of this claim, part 25: no condition. -/
import Derived.Shelf.SlSortCmp.InsertionK
import Derived.Test.YtdanghnadbkhfaaGreatZG23
import Derived.Test.YtdanghnadbkhfaaGreatZG2
set_option linter.unusedVariables false
set_option linter.unusedSimpArgs false
section
namespace Go.Proofs.Hp
open Go Go.RowKit
structure Gr (w w':World):Prop where
 fr:Fr [] w w'
 dr:w.drawn≤w'.drawn
theorem Gr.refl (w:World):Gr w w:=⟨Fr.refl [] w,Nat.le_refl _⟩
theorem Gr.trans {a b c:World} (h:Gr a b) (k:Gr b c):Gr a c:=⟨h.fr.trans0 k.fr,Nat.le_trans h.dr k.dr⟩
theorem Gr.drew {a w:World} (h:Gr a w):Gr a w.drew:=⟨h.fr.drew,Nat.le_succ_of_le h.dr⟩
theorem Gr.drewN {a w:World} (h:Gr a w) (n:Nat):Gr a (w.drewN n):=⟨h.fr.drewN n,Nat.le_trans h.dr (Nat.le_add_right _ _)⟩
theorem Gr.alloc {a w:World} (h:Gr a w) (o:Obj):Gr a (w.alloc o):=⟨h.fr.alloc o,h.dr⟩
theorem drawn_setCell (w:World) (p:Addr) (u:Value):(w.setCell p u).drawn=w.drawn:=by
 unfold World.setCell
 repeat' split
 all_goals rfl
theorem Gr.setCell {a w:World} (h:Gr a w) {p:Addr} (hp:a.heap.size≤p.block) (u:Value):Gr a (w.setCell p u):=⟨h.fr.setCell (.inr hp) u,by rw [drawn_setCell];exact h.dr⟩
theorem Gr.grow {w w':World} (h:Gr w w'):∃ q os,w'=Go.Sort.grow (w.drewN q) os:=by
 refine⟨w'.drawn - w.drawn,w'.heap.extract w.heap.size w'.heap.size,?_⟩
 have hp:w'.heap=w.heap++w'.heap.extract w.heap.size w'.heap.size:=by
  apply Array.ext'
  rw [Array.toList_append,Array.toList_extract]
  have hl:=h.fr.size
  apply List.ext_getElem?
  intro i
  by_cases hi:i<w.heap.size
  ·rw [List.getElem?_append_left (by simpa using hi),Array.getElem?_toList,Array.getElem?_toList]
   exact h.fr.block i hi (by simp)
  ·rw [List.getElem?_append_right (by simpa using hi)]
   simp only [Array.length_toList,List.extract_eq_take_drop,List.getElem?_take,List.getElem?_drop]
   by_cases hi2:i<w'.heap.size
   ·rw [if_pos (by omega),show w.heap.size+(i - w.heap.size)=i by omega]
   ·rw [if_neg (by omega),List.getElem?_eq_none (by simp;omega)]
 obtain⟨hh,ht,hd,ho,hu⟩:=w'
 obtain⟨gh,gt,gd,go,gu⟩:=w
 have h1:=h.fr.os
 have h2:=h.fr.tape
 have h3:=h.fr.output
 have h4:=h.dr
 simp only at h1 h2 h3 h4 hp
 subst h1;subst h2;subst h3
 simp only [Go.Sort.grow,World.drewN]
 rw [← hp]
 congr 1
 omega
end Go.Proofs.Hp
namespace Go.Proofs.YtdanghnadbkhfaaGreat
open Go Go.RowKit Rg Hp Pt
def cmpJ (a b:Int):Int:=if a<b then -1 else if b<a then 1 else 0
def cmpQ (p q:PC):Int:=if cmpJ p.y q.y≠0 then cmpJ p.y q.y else cmpJ p.x q.x
theorem ret_int' {k:IntKind} {a b:Int} (h:a=b):Ending.returned (.int k a)=Ending.returned (.int k b):=by rw [h]
def orI (a b:Int):Int:=if a≠0 then a else b
theorem orI_pos {a b:Int} (h:¬ a=0):orI a b=a:=by unfold orI;rw [if_pos h]
theorem orI_zero (b:Int):orI 0 b=b:=by unfold orI;simp
theorem cmpJ_calls (a b:Int) (w:World):Calls Tryz.prog 134 #[.int .i64 a,.int .i64 b] w fun e w'=>e=.returned (.int .i64 (cmpJ a b))∧w=w':=by
 have h1:(a != a)=false:=by simp
 have h2:(b != b)=false:=by simp
 unfold cmpJ
 by_cases h:a<b
 ·rw [if_pos h]
  go_enter Tryz.func134,Tryz.ntmps134
  go_wp2
  go_ret
  exact⟨rfl,rfl⟩
 ·rw [if_neg h]
  by_cases h':b<a
  ·rw [if_pos h']
   go_enter Tryz.func134,Tryz.ntmps134
   go_wp2
   go_ret
   exact⟨rfl,rfl⟩
  ·rw [if_neg h']
   go_enter Tryz.func134,Tryz.ntmps134
   go_wp2
   go_ret
   exact⟨rfl,rfl⟩
theorem or_calls {a b:Int} {g:Nat} {w:World} (h:w.heap[g]?=some (.cells #[.int .i64 a,.int .i64 b] 3 (0,0))) :
  Calls Tryz.prog 133 #[.slice (some ⟨g,0,none⟩) 2 2] w fun e w'=>e=.returned (.int .i64 (orI a b))∧Gr w w':=by
 have c0:=hEC h 0
 have c1:=hEC h 1
 simp at c0 c1
 have H:=Lib.hid h
 clear h
 go_enter Tryz.func133,Tryz.ntmps133
 go_wp2
 go_loopw [8] (fun i wr=>∃ z:Int,i=.int .i64 z∧(z=0∨z=1∧a=0∨z=2∧a=0∧b=0)∧w=wr) (fun i _=>2 - (intOf i).toNat)
 case atStart=>exact⟨0,rfl,.inl rfl,rfl⟩
 case round =>
  obtain⟨z,rfl,h,rfl⟩:=hrel
  rcases h with rfl|⟨rfl,rfl⟩|⟨rfl,rfl,rfl⟩
  ·by_cases h0:a=0
   ·subst h0
    go_wp2
    go_roundw
    case rel=>refine⟨1,?_⟩;simp
    case measure=>simp [intOf]
   ·have hn:(a != 0)=true:=by simpa using h0
    go_wp2
    go_ret
    exact⟨ret_int' (orI_pos h0).symm,by (repeat (first|exact Gr.refl _|assumption|apply Gr.drewN|apply Gr.drew|apply Gr.alloc|refine Gr.setCell ?_ (by simp;try omega) _))⟩
  ·by_cases h0:b=0
   ·subst h0
    go_wp2
    go_roundw
    case rel=>refine⟨2,?_⟩;simp
    case measure=>simp [intOf]
   ·have hn:(b != 0)=true:=by simpa using h0
    go_wp2
    go_ret
    exact⟨ret_int' (orI_zero b).symm,by (repeat (first|exact Gr.refl _|assumption|apply Gr.drewN|apply Gr.drew|apply Gr.alloc|refine Gr.setCell ?_ (by simp;try omega) _))⟩
  ·go_wp2
   go_ret
   exact⟨rfl,by (repeat (first|exact Gr.refl _|assumption|apply Gr.drewN|apply Gr.drew|apply Gr.alloc|refine Gr.setCell ?_ (by simp;try omega) _))⟩
theorem cmpQ_calls (p q:PC) (w:World):Calls Tryz.prog 117 #[.agg #[.int .i64 p.x,.int .i64 p.y],.agg #[.int .i64 q.x,.int .i64 q.y]] w fun e w'=>e=.returned (.int .i64 (cmpQ p q))∧Gr w w':=by
 obtain⟨px,py,ps⟩:=p
 obtain⟨qx,qy,qs⟩:=q
 show Calls _ _ _ w fun e w'=>e=.returned (.int .i64 (orI (cmpJ py qy) (cmpJ px qx)))∧Gr w w'
 have h1:=fun w=>cmpJ_calls py qy w
 have h2:=fun w=>cmpJ_calls px qx w
 generalize cmpJ py qy=a at h1 ⊢
 generalize cmpJ px qx=b at h2 ⊢
 have H1:=Lib.hid h1
 have H2:=Lib.hid h2
 clear h1 h2
 go_enter Tryz.func117,Tryz.ntmps117
 go_wp2
 refine wRS [([0,1,2,3,5,6,7,8,4],[6,8]),([9,10,11,12],[])] (by kernel_rfl) (by kernel_rfl) ?_
 (simp only [wpSegs,pick,Array.getD_eq_getD_getElem?,List.getElem?_toArray,List.getElem?_cons_succ,List.getElem?_cons_zero,Option.getD_some])
 go_wp2_with fail
 refine (H1.out _).mono ?_
 rintro e w' ⟨rfl,rfl⟩
 go_wp2
 refine Mid.intro ⟨⟨again_cell (T:=3) rfl rfl rfl Tryz.underlying3 rfl (by simp [go_sem]) rfl,again_cell (T:=3) rfl rfl rfl Tryz.underlying3 rfl (by simp [go_sem]) rfl,trivial⟩,?_⟩
 go_wp2_with fail
 refine (H2.out _).mono ?_
 rintro e w' ⟨rfl,rfl⟩
 go_wp2_with fail
 refine (or_calls (a:=a) (b:=b) ?hb).mono ?_
 case hb=>(repeat first|rw [if_pos (by omega)]|rw [if_neg (by omega)]|rw [hDR]|rw [hDN]|rw [hAz]|rw [hSz]|rw [hAC]|rw [hSC]|rw [oMS]|rw [uPC]|rw [lSZ]|rw [lSS]|rfl)
 rintro e w' ⟨rfl,hf⟩
 have Hf:=Lib.hid hf
 clear hf
 go_wp2
 refine Mid.intro ⟨trivial,Strict.intro rfl ?_⟩
 go_wp2
 go_ret
 exact⟨rfl,Gr.trans (by (repeat (first|exact Gr.refl _|assumption|apply Gr.drewN|apply Gr.drew|apply Gr.alloc|refine Gr.setCell ?_ (by simp;try omega) _))) Hf.out⟩
def pcV (c:PC):Value:=.agg #[.int .i64 c.x,.int .i64 c.y,.int .i64 c.st]
theorem point_result1 {fn:Func} {p:Tmp} (h:fn.results=#[.cell p 120]) {tmps:Array Value} {b:Nat} {w':World} {x y:Value} (h4:tmps.getD p undef=.pointer (some ⟨b,0,none⟩)) (hb:w'.heap[b]?=some (.cells #[x,y] 120 (0,0))) :
  (results fn tmps).run Tryz.prog w'=.ok (.agg #[x,y]) w':=by
 rw [results_cell1 h,h4]
 simp only [asAddr,Sem.run_pure,Result.andThen]
 rw [run_loadVar_row w' b _ _ _ _ _ hb Tryz.underlying120 rfl (by kernel_rfl)]
theorem at_p (c:PC) (w:World):Calls Tryz.prog 97 #[pcV c] w fun e w'=>e=.returned (.agg #[.int .i64 c.x,.int .i64 c.y])∧Gr w w':=by
 unfold pcV
 go_enter Tryz.func97,Tryz.ntmps97
 go_wp2
 refine bodyPost_ret (point_result1 rfl (b:=w.heap.size+1) (x:=.int .i64 c.x) (y:=.int .i64 c.y) rfl ?_) rfl ⟨rfl,?_⟩
 ·(repeat first|rw [if_pos (by omega)]|rw [if_neg (by omega)]|rw [hDR]|rw [hDN]|rw [hAz]|rw [hSz]|rw [hAC]|rw [hSC]|rw [oMS]|rw [uPC]|rw [lSZ]|rw [lSS]|rfl)
 ·(repeat (first|exact Gr.refl _|assumption|apply Gr.drewN|apply Gr.drew|apply Gr.alloc|refine Gr.setCell ?_ (by simp;try omega) _))
theorem order_p (c d:PC) (w:World):Calls Tryz.prog 99 #[pcV c,pcV d] w fun e w'=>e=.returned (.int .i64 (cmpQ c d))∧Gr w w':=by
 have HC:=Lib.hid (at_p c)
 have HD:=Lib.hid (at_p d)
 have HQ:=Lib.hid (cmpQ_calls c d)
 unfold pcV at HC HD ⊢
 generalize cmpQ c d=r at HQ ⊢
 go_enter Tryz.func99,Tryz.ntmps99
 go_wp2
 refine wRS [([0,2,1],[2]),([3,4,5],[])] (by kernel_rfl) (by kernel_rfl) ?_
 (simp only [wpSegs,pick,Array.getD_eq_getD_getElem?,List.getElem?_toArray,List.getElem?_cons_succ,List.getElem?_cons_zero,Option.getD_some])
 go_wp2_with fail
 refine (HC.out _).mono ?_
 rintro e w3 ⟨rfl,hg⟩
 have hf:=hg.fr
 have hd_:=(hf.block (w.heap.size+1) (by first|(simp;done)|(simp;omega)) (by simp)).trans (show _=some (.cells #[.int .i64 d.x,.int .i64 d.y,.int .i64 d.st] 75 (0,0)) by (repeat first|rw [if_pos (by omega)]|rw [if_neg (by omega)]|rw [hDR]|rw [hDN]|rw [hAz]|rw [hSz]|rw [hAC]|rw [hSC]|rw [oMS]|rw [uPC]|rw [lSZ]|rw [lSS]|rfl))
 have d0:=hEC hd_ 0
 have d1:=hEC hd_ 1
 have d2:=hEC hd_ 2
 have dl:=lBk hd_
 have Hd:=Lib.hid hd_
 clear hd_
 have Hg:=Lib.hid (Gr.trans (by (repeat (first|exact Gr.refl _|assumption|apply Gr.drewN|apply Gr.drew|apply Gr.alloc|refine Gr.setCell ?_ (by simp;try omega) _))) hg:Gr w w3)
 clear hf hg
 go_wp2
 refine Mid.intro ⟨⟨aGR (T:=75) (cs:=[.int .i64 d.x,.int .i64 d.y,.int .i64 d.st]) rfl rfl rfl Tryz.underlying75 rfl (by kernel_rfl) (fun j v hj=>?rng) rfl,trivial⟩,?_⟩
 case rng =>
  rw [Nat.zero_add,hEC Hd.out,← hj]
  exact (Array.getElem?_toList (xs:=#[Value.int .i64 d.x,.int .i64 d.y,.int .i64 d.st])).symm
 go_wp2_with fail
 refine (HD.out _).mono ?_
 rintro e w4 ⟨rfl,hg⟩
 have Hg:=Lib.hid (Hg.out.trans hg)
 clear hg
 go_wp2_with fail
 refine (HQ.out _).mono ?_
 rintro e w5 ⟨rfl,hg⟩
 have Hg:=Lib.hid (Hg.out.trans hg)
 clear hg
 go_wp2
 refine Mid.intro ⟨trivial,Strict.intro rfl ?_⟩
 go_wp2
 go_ret
 exact⟨rfl,by have:=Hg.out;(repeat (first|exact Gr.refl _|assumption|apply Gr.drewN|apply Gr.drew|apply Gr.alloc|refine Gr.setCell ?_ (by simp;try omega) _))⟩
theorem placed_p (c:PC) (w:World):Calls Tryz.prog 96 #[.agg #[.int .i64 c.x,.int .i64 c.y]] w fun e w'=>e=.returned (.bool (placeB c.x c.y))∧Gr w w':=by
 have hb:placeB c.x c.y=(decide (max c.x c.y≤1048576) && decide (min c.x c.y ≥ -1048576)):=by
  unfold placeB
  rw [Bool.eq_iff_iff]
  simp only [Bool.and_eq_true,decide_eq_true_eq];omega
 rw [hb]
 obtain⟨x,y,st⟩:=c
 simp only
 clear hb
 cases h1:decide (max x y≤1048576) with
 | true =>
  obtain⟨r,h2⟩:∃ r,decide (min x y ≥ -1048576)=r:=⟨_,rfl⟩
  rw [h2]
  go_enter Tryz.func96,Tryz.ntmps96
  go_wp2
  go_ret
  exact⟨by simp,by (repeat (first|exact Gr.refl _|assumption|apply Gr.drewN|apply Gr.drew|apply Gr.alloc|refine Gr.setCell ?_ (by simp;try omega) _))⟩
 | false =>
  go_enter Tryz.func96,Tryz.ntmps96
  go_wp2
  go_ret
  exact⟨by simp,by (repeat (first|exact Gr.refl _|assumption|apply Gr.drewN|apply Gr.drew|apply Gr.alloc|refine Gr.setCell ?_ (by simp;try omega) _))⟩
end Go.Proofs.YtdanghnadbkhfaaGreat
end
section
namespace Go.Proofs.Pt
def z3:PC:=⟨0,0,0⟩
def rgtAt (l:List PC) (k:Nat):Bool:=cellB (l.getD k z3) && (decide (k=0) || pBef (l.getD (k - 1) z3) (l.getD k z3))
theorem strict_at:∀ {l:List PC} {k:Nat},strictB l=true→k+1<l.length→pBef (l.getD k z3) (l.getD (k+1) z3)=true
 | [],k,_,h=>by simp at h
 | [_],k,_,h=>by simp at h
 | a::b::l,0,h,_=>by simp only [strictB,Bool.and_eq_true] at h;exact h.1
 | a::b::l,k+1,h,hk=>by
  simp only [strictB,Bool.and_eq_true] at h
  have:=strict_at (k:=k) h.2 (by simpa using hk)
  simpa using this
theorem strict_mk:∀ {l:List PC},(∀ k,k+1<l.length→pBef (l.getD k z3) (l.getD (k+1) z3)=true)→strictB l=true
 | [],_=>rfl
 | [_],_=>rfl
 | a::b::l,h=>by
  simp only [strictB,Bool.and_eq_true]
  refine⟨by simpa using h 0 (by simp),strict_mk fun k hk=>?_⟩
  have:=h (k+1) (by simpa using hk)
  simpa using this
theorem rgt_false {l:List PC} {k:Nat} (hk:k<l.length) (h:rgtAt l k=false):rightP l=false:=by
 cases hr:rightP l with
 | false=>rfl
 | true =>
  unfold rightP at hr
  simp only [Bool.and_eq_true,decide_eq_true_eq,List.all_eq_true] at hr
  obtain⟨_,h2,h3⟩:=hr
  unfold rgtAt at h
  have e:l.getD k z3=l[k]:=by rw [List.getD_eq_getElem?_getD,List.getElem?_eq_getElem hk];rfl
  rw [e,h2 _ (List.getElem_mem hk),Bool.true_and] at h
  cases k with
  | zero=>simp at h
  | succ k =>
   have:=strict_at (k:=k) h3 hk
   rw [e,Nat.add_sub_cancel] at *
   rw [this] at h
   simp at h
theorem rgt_true {l:List PC} (h5:l.length≤5000) (h:∀ k,k<l.length→rgtAt l k=true):rightP l=true:=by
 unfold rightP
 simp only [Bool.and_eq_true,decide_eq_true_eq,List.all_eq_true]
 refine⟨h5,fun c hc=>?_,strict_mk fun k hk=>?_⟩
 ·obtain⟨i,hi,rfl⟩:=List.mem_iff_getElem.1 hc
  have:=h i hi
  unfold rgtAt at this
  rw [Bool.and_eq_true,List.getD_eq_getElem?_getD,List.getElem?_eq_getElem hi] at this
  exact this.1
 ·have:=h (k+1) hk
  unfold rgtAt at this
  simp only [Bool.and_eq_true,Nat.add_sub_cancel,Bool.or_eq_true,decide_eq_true_eq] at this
  rcases this.2 with h|h
  ·omega
  ·exact h
theorem rgt_zero {l:List PC} {c:PC} (h:l[0]?=some c):rgtAt l 0=cellB c:=by
 unfold rgtAt
 rw [List.getD_eq_getElem?_getD,h];simp
theorem rgt_succ {l:List PC} {k:Nat} {c d:PC} (h:l[k+1]?=some c) (h':l[k]?=some d):rgtAt l (k+1)=(cellB c && pBef d c):=by
 unfold rgtAt
 rw [List.getD_eq_getElem?_getD,h,Nat.add_sub_cancel,List.getD_eq_getElem?_getD,h'];simp
end Go.Proofs.Pt
namespace Go.Proofs.YtdanghnadbkhfaaGreat
open Go Go.RowKit Rg Hp Pt
def pcs (l:List PC):List Value:=l.flatMap fun c=>[.int .i64 c.x,.int .i64 c.y,.int .i64 c.st]
theorem pcs_len (l:List PC):(pcs l).length=l.length*3:=by
 induction l with
 | nil=>rfl
 | cons c l ih=>simp only [pcs,List.flatMap_cons,List.length_append,List.length_cons,List.length_nil] at *;omega
theorem pcs_get:∀ {l:List PC} {i:Nat} {c:PC},l[i]?=some c→(pcs l)[i*3]?=some (.int .i64 c.x)∧(pcs l)[i*3+1]?=some (.int .i64 c.y)∧(pcs l)[i*3+2]?=some (.int .i64 c.st)
 | [],i,c,h=>by simp at h
 | d::l,0,c,h=>by
  simp only [List.getElem?_cons_zero,Option.some.injEq] at h
  subst h
  exact⟨rfl,rfl,rfl⟩
 | d::l,i+1,c,h=>by
  have:=pcs_get (l:=l) (i:=i) (by simpa using h)
  have e:pcs (d::l)=[.int .i64 d.x,.int .i64 d.y,.int .i64 d.st]++pcs l:=rfl
  rw [e]
  have f:∀ j,([Value.int .i64 d.x,.int .i64 d.y,.int .i64 d.st]++pcs l)[3+j]?=(pcs l)[j]?:=fun j=>by rw [List.getElem?_append_right (by simp)];simp
  rw [show (i+1)*3=3+i*3 by omega,show 3+i*3+1=3+(i*3+1) by omega,show 3+i*3+2=3+(i*3+2) by omega,f,f,f]
  exact this
def CellsAt (w:World) (v:Value) (l:List PC):Prop:=Reads w v l.length 3 (pcs l)
theorem CellsAt.fr {w w':World} {v:Value} {l:List PC} (h:CellsAt w v l) (hf:Fr [] w w'):CellsAt w' v l:=Reads.fr h hf
theorem CellsAt.cell {w:World} {a:Option Addr} {n c:Nat} {l:List PC} (h:CellsAt w (.slice a n c) l) {i:Nat} {p:PC} (hi:l[i]?=some p) :
  ∃ g off,a=some ⟨g,off,none⟩∧g<w.heap.size∧w.cell? ⟨g,off+i*3,none⟩=some (.int .i64 p.x)∧w.cell? ⟨g,off+i*3+1,none⟩=some (.int .i64 p.y)∧w.cell? ⟨g,off+i*3+2,none⟩=some (.int .i64 p.st):=by
 obtain⟨_,a',c',he,h2⟩:=h
 cases he
 obtain⟨g,off,rfl,hg,hc⟩:=h2 (by have:=(List.getElem?_eq_some_iff.1 hi).1;omega)
 obtain⟨h0,h1,h2⟩:=pcs_get hi
 exact⟨g,off,rfl,hg,hc _ _ h0,by have:=hc _ _ h1;rwa [← Nat.add_assoc] at this,by have:=hc _ _ h2;rwa [← Nat.add_assoc] at this⟩
theorem ret_bool' {a b:Bool} (h:a=b):Ending.returned (.bool a)=Ending.returned (.bool b):=by rw [h]
theorem cmpQ_bef (p q:PC):decide (cmpQ p q ≥ 0)=!pBef p q:=by
 unfold cmpQ cmpJ pBef
 rw [Bool.eq_iff_iff]
 simp only [decide_eq_true_eq,Bool.not_eq_true',decide_eq_false_iff_not]
 by_cases h1:p.y<q.y
 ·simp [h1]
 ·by_cases h2:q.y<p.y
  ·simp [h1,h2];omega
  ·by_cases h3:p.x<q.x
   ·simp [h1,h2,h3];omega
   ·by_cases h4:q.x<p.x
    ·simp [h1,h2,h3,h4]
    ·simp [h1,h2,h3,h4]
set_option maxHeartbeats 4000000 in
theorem PRight_calls {w:World} {l:List PC} {a:Option Addr} {c:Nat} (hl:CellsAt w (.slice a l.length c) l) (hlen:l.length≤4000000000000000000) :
  Calls Tryz.prog 62 #[.slice a l.length c] w fun e w'=>e=.returned (.bool (rightP l))∧Fr [] w w':=by
 have Hl:=Lib.hid hl
 clear hl
 by_cases h5:l.length≤5000
 ·have hd5:decide (((l.length:Nat):Int) > 5000)=false:=by simp;omega
  go_enter Tryz.func62,Tryz.ntmps62
  go_wp2
  go_loopw [10] (fun x wr=>∃ k:Nat,x=.int .i64 k∧k≤l.length∧(∀ j,j<k→rgtAt l j=true)∧Fr [] w wr) (fun x _=>l.length - (intOf x).toNat)
  case atStart=>exact⟨0,rfl,by omega,by omega,Fr.refl _ _⟩
  case round =>
   obtain⟨k,rfl,hk,hn,hf⟩:=hrel
   have Hk:=Lib.hid hn
   have Hf:=Lib.hid hf
   clear hn hf
   by_cases hlt:k<l.length
   ·obtain⟨⟨x,y,st⟩,hp⟩:∃ p,l[k]?=some p:=⟨_,List.getElem?_eq_getElem hlt⟩
    obtain⟨g,off,rfl,hg,e0,e1,e2⟩:=(Hl.out.fr Hf.out).cell hp
    simp only at e0 e1 e2
    have HAT:=Lib.hid (at_p ⟨x,y,st⟩)
    have HPL:=Lib.hid (placed_p ⟨x,y,st⟩)
    unfold pcV at HAT
    simp only at HAT HPL
    cases k with
    | zero =>
     have HA:=Lib.hid (rgt_zero hp)
     clear hp
     simp only [Nat.zero_mul,Nat.add_zero] at e0 e1 e2
     unfold cellB at HA
     simp only at HA
     generalize placeB x y=pl at HA HPL
     cases pl with
     | false =>
      go_wp2
      (refine wRT (by kernel_rfl) (by kernel_rfl) ?_)
      go_wp2_with fail
      refine (HAT.out _).mono ?_
      rintro e w1 ⟨rfl,hg1⟩
      have hf:=hg1.fr
      have hm_:=(hf.block (wr.heap.size) (by first|(simp;done)|(simp;omega)) (by simp)).trans (show _=some (.cells #[.int .i64 x,.int .i64 y,.int .i64 st] 75 (0,0)) by (repeat first|rw [if_pos (by omega)]|rw [if_neg (by omega)]|rw [hDR]|rw [hDN]|rw [hAz]|rw [hSz]|rw [hAC]|rw [hSC]|rw [oMS]|rw [uPC]|rw [lSZ]|rw [lSS]|rfl))
      have m0:=hEC hm_ 0
      have m1:=hEC hm_ 1
      have m2:=hEC hm_ 2
      have ml:=lBk hm_
      have Hm:=Lib.hid hm_
      clear hm_
      have Hf1:=Lib.hid (Fr.trans0 (by have:=Hf.out;(repeat first|exact Fr.refl _ _|assumption|apply Fr.n|apply Fr.d|apply Fr.a|refine Fr.s ?_ (.inr (by simp;try omega)) _)) hf:Fr [] w w1)
      clear hf hg1
      go_wp2_with fail
      refine (HPL.out _).mono ?_
      rintro e w2 ⟨rfl,hg2⟩
      have hf:=hg2.fr
      (try clear m0)
      (try clear m1)
      (try clear m2)
      (try clear ml)
      have hm_:=(hf.block _ (lBk Hm.out) (by simp)).trans Hm.out
      clear Hm
      have m0:=hEC hm_ 0
      have m1:=hEC hm_ 1
      have m2:=hEC hm_ 2
      have ml:=lBk hm_
      have Hm:=Lib.hid hm_
      clear hm_
      have Hf2:=Lib.hid (Hf1.out.trans0 hf)
      clear hf hg2 Hf1 e0 e1 e2
      go_wp2
      refine Strict.intro rfl ?_
      go_wp2
      go_ret
      exact⟨ret_bool' (rgt_false hlt (HA.out.trans (by simp ))).symm,by have:=Hf2.out;(repeat first|exact Fr.refl _ _|assumption|apply Fr.n|apply Fr.d|apply Fr.a|refine Fr.s ?_ (.inr (by simp;try omega)) _)⟩
     | true =>
      by_cases h1:st<1
      ·have hd1:decide (st<1)=true:=by simpa using h1
       go_wp2
       (refine wRT (by kernel_rfl) (by kernel_rfl) ?_)
       go_wp2_with fail
       refine (HAT.out _).mono ?_
       rintro e w1 ⟨rfl,hg1⟩
       have hf:=hg1.fr
       have hm_:=(hf.block (wr.heap.size) (by first|(simp;done)|(simp;omega)) (by simp)).trans (show _=some (.cells #[.int .i64 x,.int .i64 y,.int .i64 st] 75 (0,0)) by (repeat first|rw [if_pos (by omega)]|rw [if_neg (by omega)]|rw [hDR]|rw [hDN]|rw [hAz]|rw [hSz]|rw [hAC]|rw [hSC]|rw [oMS]|rw [uPC]|rw [lSZ]|rw [lSS]|rfl))
       have m0:=hEC hm_ 0
       have m1:=hEC hm_ 1
       have m2:=hEC hm_ 2
       have ml:=lBk hm_
       have Hm:=Lib.hid hm_
       clear hm_
       have Hf1:=Lib.hid (Fr.trans0 (by have:=Hf.out;(repeat first|exact Fr.refl _ _|assumption|apply Fr.n|apply Fr.d|apply Fr.a|refine Fr.s ?_ (.inr (by simp;try omega)) _)) hf:Fr [] w w1)
       clear hf hg1
       go_wp2_with fail
       refine (HPL.out _).mono ?_
       rintro e w2 ⟨rfl,hg2⟩
       have hf:=hg2.fr
       (try clear m0)
       (try clear m1)
       (try clear m2)
       (try clear ml)
       have hm_:=(hf.block _ (lBk Hm.out) (by simp)).trans Hm.out
       clear Hm
       have m0:=hEC hm_ 0
       have m1:=hEC hm_ 1
       have m2:=hEC hm_ 2
       have ml:=lBk hm_
       have Hm:=Lib.hid hm_
       clear hm_
       have Hf2:=Lib.hid (Hf1.out.trans0 hf)
       clear hf hg2 Hf1 e0 e1 e2
       go_wp2
       refine Strict.intro rfl ?_
       go_wp2
       go_ret
       exact⟨ret_bool' (rgt_false hlt (HA.out.trans (by simp ;omega))).symm,by have:=Hf2.out;(repeat first|exact Fr.refl _ _|assumption|apply Fr.n|apply Fr.d|apply Fr.a|refine Fr.s ?_ (.inr (by simp;try omega)) _)⟩
      ·have hd1:decide (st<1)=false:=by simpa using h1
       by_cases h8:st ≥ 8
       ·have hd8:decide (st ≥ 8)=true:=by simpa using h8
        go_wp2
        (refine wRT (by kernel_rfl) (by kernel_rfl) ?_)
        go_wp2_with fail
        refine (HAT.out _).mono ?_
        rintro e w1 ⟨rfl,hg1⟩
        have hf:=hg1.fr
        have hm_:=(hf.block (wr.heap.size) (by first|(simp;done)|(simp;omega)) (by simp)).trans (show _=some (.cells #[.int .i64 x,.int .i64 y,.int .i64 st] 75 (0,0)) by (repeat first|rw [if_pos (by omega)]|rw [if_neg (by omega)]|rw [hDR]|rw [hDN]|rw [hAz]|rw [hSz]|rw [hAC]|rw [hSC]|rw [oMS]|rw [uPC]|rw [lSZ]|rw [lSS]|rfl))
        have m0:=hEC hm_ 0
        have m1:=hEC hm_ 1
        have m2:=hEC hm_ 2
        have ml:=lBk hm_
        have Hm:=Lib.hid hm_
        clear hm_
        have Hf1:=Lib.hid (Fr.trans0 (by have:=Hf.out;(repeat first|exact Fr.refl _ _|assumption|apply Fr.n|apply Fr.d|apply Fr.a|refine Fr.s ?_ (.inr (by simp;try omega)) _)) hf:Fr [] w w1)
        clear hf hg1
        go_wp2_with fail
        refine (HPL.out _).mono ?_
        rintro e w2 ⟨rfl,hg2⟩
        have hf:=hg2.fr
        (try clear m0)
        (try clear m1)
        (try clear m2)
        (try clear ml)
        have hm_:=(hf.block _ (lBk Hm.out) (by simp)).trans Hm.out
        clear Hm
        have m0:=hEC hm_ 0
        have m1:=hEC hm_ 1
        have m2:=hEC hm_ 2
        have ml:=lBk hm_
        have Hm:=Lib.hid hm_
        clear hm_
        have Hf2:=Lib.hid (Hf1.out.trans0 hf)
        clear hf hg2 Hf1 e0 e1 e2
        go_wp2
        refine Strict.intro rfl ?_
        go_wp2
        go_ret
        exact⟨ret_bool' (rgt_false hlt (HA.out.trans (by simp ;omega))).symm,by have:=Hf2.out;(repeat first|exact Fr.refl _ _|assumption|apply Fr.n|apply Fr.d|apply Fr.a|refine Fr.s ?_ (.inr (by simp;try omega)) _)⟩
       ·have hd8:decide (st ≥ 8)=false:=by simpa using h8
        go_wp2
        (refine wRT (by kernel_rfl) (by kernel_rfl) ?_)
        go_wp2_with fail
        refine (HAT.out _).mono ?_
        rintro e w1 ⟨rfl,hg1⟩
        have hf:=hg1.fr
        have hm_:=(hf.block (wr.heap.size) (by first|(simp;done)|(simp;omega)) (by simp)).trans (show _=some (.cells #[.int .i64 x,.int .i64 y,.int .i64 st] 75 (0,0)) by (repeat first|rw [if_pos (by omega)]|rw [if_neg (by omega)]|rw [hDR]|rw [hDN]|rw [hAz]|rw [hSz]|rw [hAC]|rw [hSC]|rw [oMS]|rw [uPC]|rw [lSZ]|rw [lSS]|rfl))
        have m0:=hEC hm_ 0
        have m1:=hEC hm_ 1
        have m2:=hEC hm_ 2
        have ml:=lBk hm_
        have Hm:=Lib.hid hm_
        clear hm_
        have Hf1:=Lib.hid (Fr.trans0 (by have:=Hf.out;(repeat first|exact Fr.refl _ _|assumption|apply Fr.n|apply Fr.d|apply Fr.a|refine Fr.s ?_ (.inr (by simp;try omega)) _)) hf:Fr [] w w1)
        clear hf hg1
        go_wp2_with fail
        refine (HPL.out _).mono ?_
        rintro e w2 ⟨rfl,hg2⟩
        have hf:=hg2.fr
        (try clear m0)
        (try clear m1)
        (try clear m2)
        (try clear ml)
        have hm_:=(hf.block _ (lBk Hm.out) (by simp)).trans Hm.out
        clear Hm
        have m0:=hEC hm_ 0
        have m1:=hEC hm_ 1
        have m2:=hEC hm_ 2
        have ml:=lBk hm_
        have Hm:=Lib.hid hm_
        clear hm_
        have Hf2:=Lib.hid (Hf1.out.trans0 hf)
        clear hf hg2 Hf1 e0 e1 e2
        go_wp2
        refine Strict.intro rfl ?_
        go_wp2
        go_roundw
        case rel =>
         refine⟨0+1,by go_num,by omega,fun j hj=>?_,by have:=Hf2.out;(repeat first|exact Fr.refl _ _|assumption|apply Fr.n|apply Fr.d|apply Fr.a|refine Fr.s ?_ (.inr (by simp;try omega)) _)⟩
         rcases Nat.lt_or_ge j (0) with h|h
         ·exact Hk.out j h
         ·obtain rfl:j=0:=by omega
          exact HA.out.trans (by simp ;omega)
        case measure=>simp [intOf];omega
    | succ k =>
     obtain⟨⟨u,v,su⟩,hq⟩:∃ p,l[k]?=some p:=⟨_,List.getElem?_eq_getElem (by omega)⟩
     have HA:=Lib.hid (rgt_succ hp hq)
     have HOR:=Lib.hid (order_p ⟨u,v,su⟩ ⟨x,y,st⟩)
     have hcb:=cmpQ_bef ⟨u,v,su⟩ ⟨x,y,st⟩
     have Hq:=Lib.hid hq
     unfold cellB at HA
     unfold pcV at HOR
     simp only at HA HOR
     generalize placeB x y=pl at HA HPL
     generalize pBef ⟨u,v,su⟩ ⟨x,y,st⟩=be at HA hcb
     generalize cmpQ ⟨u,v,su⟩ ⟨x,y,st⟩=z at HOR hcb
     clear hp hq
     cases pl with
     | false =>
      go_wp2
      (refine wRT (by kernel_rfl) (by kernel_rfl) ?_)
      go_wp2_with fail
      refine (HAT.out _).mono ?_
      rintro e w1 ⟨rfl,hg1⟩
      have hf:=hg1.fr
      have hm_:=(hf.block (wr.heap.size) (by first|(simp;done)|(simp;omega)) (by simp)).trans (show _=some (.cells #[.int .i64 x,.int .i64 y,.int .i64 st] 75 (0,0)) by (repeat first|rw [if_pos (by omega)]|rw [if_neg (by omega)]|rw [hDR]|rw [hDN]|rw [hAz]|rw [hSz]|rw [hAC]|rw [hSC]|rw [oMS]|rw [uPC]|rw [lSZ]|rw [lSS]|rfl))
      have m0:=hEC hm_ 0
      have m1:=hEC hm_ 1
      have m2:=hEC hm_ 2
      have ml:=lBk hm_
      have Hm:=Lib.hid hm_
      clear hm_
      have Hf1:=Lib.hid (Fr.trans0 (by have:=Hf.out;(repeat first|exact Fr.refl _ _|assumption|apply Fr.n|apply Fr.d|apply Fr.a|refine Fr.s ?_ (.inr (by simp;try omega)) _)) hf:Fr [] w w1)
      clear hf hg1
      go_wp2_with fail
      refine (HPL.out _).mono ?_
      rintro e w2 ⟨rfl,hg2⟩
      have hf:=hg2.fr
      (try clear m0)
      (try clear m1)
      (try clear m2)
      (try clear ml)
      have hm_:=(hf.block _ (lBk Hm.out) (by simp)).trans Hm.out
      clear Hm
      have m0:=hEC hm_ 0
      have m1:=hEC hm_ 1
      have m2:=hEC hm_ 2
      have ml:=lBk hm_
      have Hm:=Lib.hid hm_
      clear hm_
      have Hf2:=Lib.hid (Hf1.out.trans0 hf)
      clear hf hg2 Hf1 e0 e1 e2
      go_wp2
      refine Strict.intro rfl ?_
      go_wp2
      go_ret
      exact⟨ret_bool' (rgt_false hlt (HA.out.trans (by simp ))).symm,by have:=Hf2.out;(repeat first|exact Fr.refl _ _|assumption|apply Fr.n|apply Fr.d|apply Fr.a|refine Fr.s ?_ (.inr (by simp;try omega)) _)⟩
     | true =>
      by_cases h1:st<1
      ·have hd1:decide (st<1)=true:=by simpa using h1
       go_wp2
       (refine wRT (by kernel_rfl) (by kernel_rfl) ?_)
       go_wp2_with fail
       refine (HAT.out _).mono ?_
       rintro e w1 ⟨rfl,hg1⟩
       have hf:=hg1.fr
       have hm_:=(hf.block (wr.heap.size) (by first|(simp;done)|(simp;omega)) (by simp)).trans (show _=some (.cells #[.int .i64 x,.int .i64 y,.int .i64 st] 75 (0,0)) by (repeat first|rw [if_pos (by omega)]|rw [if_neg (by omega)]|rw [hDR]|rw [hDN]|rw [hAz]|rw [hSz]|rw [hAC]|rw [hSC]|rw [oMS]|rw [uPC]|rw [lSZ]|rw [lSS]|rfl))
       have m0:=hEC hm_ 0
       have m1:=hEC hm_ 1
       have m2:=hEC hm_ 2
       have ml:=lBk hm_
       have Hm:=Lib.hid hm_
       clear hm_
       have Hf1:=Lib.hid (Fr.trans0 (by have:=Hf.out;(repeat first|exact Fr.refl _ _|assumption|apply Fr.n|apply Fr.d|apply Fr.a|refine Fr.s ?_ (.inr (by simp;try omega)) _)) hf:Fr [] w w1)
       clear hf hg1
       go_wp2_with fail
       refine (HPL.out _).mono ?_
       rintro e w2 ⟨rfl,hg2⟩
       have hf:=hg2.fr
       (try clear m0)
       (try clear m1)
       (try clear m2)
       (try clear ml)
       have hm_:=(hf.block _ (lBk Hm.out) (by simp)).trans Hm.out
       clear Hm
       have m0:=hEC hm_ 0
       have m1:=hEC hm_ 1
       have m2:=hEC hm_ 2
       have ml:=lBk hm_
       have Hm:=Lib.hid hm_
       clear hm_
       have Hf2:=Lib.hid (Hf1.out.trans0 hf)
       clear hf hg2 Hf1 e0 e1 e2
       go_wp2
       refine Strict.intro rfl ?_
       go_wp2
       go_ret
       exact⟨ret_bool' (rgt_false hlt (HA.out.trans (by simp ;omega))).symm,by have:=Hf2.out;(repeat first|exact Fr.refl _ _|assumption|apply Fr.n|apply Fr.d|apply Fr.a|refine Fr.s ?_ (.inr (by simp;try omega)) _)⟩
      ·have hd1:decide (st<1)=false:=by simpa using h1
       by_cases h8:st ≥ 8
       ·have hd8:decide (st ≥ 8)=true:=by simpa using h8
        go_wp2
        (refine wRT (by kernel_rfl) (by kernel_rfl) ?_)
        go_wp2_with fail
        refine (HAT.out _).mono ?_
        rintro e w1 ⟨rfl,hg1⟩
        have hf:=hg1.fr
        have hm_:=(hf.block (wr.heap.size) (by first|(simp;done)|(simp;omega)) (by simp)).trans (show _=some (.cells #[.int .i64 x,.int .i64 y,.int .i64 st] 75 (0,0)) by (repeat first|rw [if_pos (by omega)]|rw [if_neg (by omega)]|rw [hDR]|rw [hDN]|rw [hAz]|rw [hSz]|rw [hAC]|rw [hSC]|rw [oMS]|rw [uPC]|rw [lSZ]|rw [lSS]|rfl))
        have m0:=hEC hm_ 0
        have m1:=hEC hm_ 1
        have m2:=hEC hm_ 2
        have ml:=lBk hm_
        have Hm:=Lib.hid hm_
        clear hm_
        have Hf1:=Lib.hid (Fr.trans0 (by have:=Hf.out;(repeat first|exact Fr.refl _ _|assumption|apply Fr.n|apply Fr.d|apply Fr.a|refine Fr.s ?_ (.inr (by simp;try omega)) _)) hf:Fr [] w w1)
        clear hf hg1
        go_wp2_with fail
        refine (HPL.out _).mono ?_
        rintro e w2 ⟨rfl,hg2⟩
        have hf:=hg2.fr
        (try clear m0)
        (try clear m1)
        (try clear m2)
        (try clear ml)
        have hm_:=(hf.block _ (lBk Hm.out) (by simp)).trans Hm.out
        clear Hm
        have m0:=hEC hm_ 0
        have m1:=hEC hm_ 1
        have m2:=hEC hm_ 2
        have ml:=lBk hm_
        have Hm:=Lib.hid hm_
        clear hm_
        have Hf2:=Lib.hid (Hf1.out.trans0 hf)
        clear hf hg2 Hf1 e0 e1 e2
        go_wp2
        refine Strict.intro rfl ?_
        go_wp2
        go_ret
        exact⟨ret_bool' (rgt_false hlt (HA.out.trans (by simp ;omega))).symm,by have:=Hf2.out;(repeat first|exact Fr.refl _ _|assumption|apply Fr.n|apply Fr.d|apply Fr.a|refine Fr.s ?_ (.inr (by simp;try omega)) _)⟩
       ·have hd8:decide (st ≥ 8)=false:=by simpa using h8
        cases be with
        | true =>
         simp only [Bool.not_true] at hcb
         go_wp2
         (refine wRT (by kernel_rfl) (by kernel_rfl) ?_)
         go_wp2_with fail
         refine (HAT.out _).mono ?_
         rintro e w1 ⟨rfl,hg1⟩
         have hf:=hg1.fr
         have hm_:=(hf.block (wr.heap.size) (by first|(simp;done)|(simp;omega)) (by simp)).trans (show _=some (.cells #[.int .i64 x,.int .i64 y,.int .i64 st] 75 (0,0)) by (repeat first|rw [if_pos (by omega)]|rw [if_neg (by omega)]|rw [hDR]|rw [hDN]|rw [hAz]|rw [hSz]|rw [hAC]|rw [hSC]|rw [oMS]|rw [uPC]|rw [lSZ]|rw [lSS]|rfl))
         have m0:=hEC hm_ 0
         have m1:=hEC hm_ 1
         have m2:=hEC hm_ 2
         have ml:=lBk hm_
         have Hm:=Lib.hid hm_
         clear hm_
         have Hf1:=Lib.hid (Fr.trans0 (by have:=Hf.out;(repeat first|exact Fr.refl _ _|assumption|apply Fr.n|apply Fr.d|apply Fr.a|refine Fr.s ?_ (.inr (by simp;try omega)) _)) hf:Fr [] w w1)
         clear hf hg1
         go_wp2_with fail
         refine (HPL.out _).mono ?_
         rintro e w2 ⟨rfl,hg2⟩
         have hf:=hg2.fr
         (try clear m0)
         (try clear m1)
         (try clear m2)
         (try clear ml)
         have hm_:=(hf.block _ (lBk Hm.out) (by simp)).trans Hm.out
         clear Hm
         have m0:=hEC hm_ 0
         have m1:=hEC hm_ 1
         have m2:=hEC hm_ 2
         have ml:=lBk hm_
         have Hm:=Lib.hid hm_
         clear hm_
         have Hf2:=Lib.hid (Hf1.out.trans0 hf)
         clear hf hg2 Hf1 e0 e1 e2
         obtain⟨g',off',he,_,e3,e4,e5⟩:=(Hl.out.fr Hf2.out).cell Hq.out
         cases he
         simp only at e3 e4 e5
         go_wp2_with fail
         refine (HOR.out _).mono ?_
         rintro e w3 ⟨rfl,hg3⟩
         have Hf2:=Lib.hid (Fr.trans0 (by have:=Hf2.out;(repeat first|exact Fr.refl _ _|assumption|apply Fr.n|apply Fr.d|apply Fr.a|refine Fr.s ?_ (.inr (by simp;try omega)) _)) hg3.fr:Fr [] w w3)
         clear hg3
         go_wp2
         refine Strict.intro rfl ?_
         go_wp2
         go_roundw
         case rel =>
          refine⟨k+1+1,by go_num,by omega,fun j hj=>?_,by have:=Hf2.out;(repeat first|exact Fr.refl _ _|assumption|apply Fr.n|apply Fr.d|apply Fr.a|refine Fr.s ?_ (.inr (by simp;try omega)) _)⟩
          rcases Nat.lt_or_ge j (k+1) with h|h
          ·exact Hk.out j h
          ·obtain rfl:j=k+1:=by omega
           exact HA.out.trans (by simp ;omega)
         case measure=>simp [intOf];omega
        | false =>
         simp only [Bool.not_false] at hcb
         go_wp2
         (refine wRT (by kernel_rfl) (by kernel_rfl) ?_)
         go_wp2_with fail
         refine (HAT.out _).mono ?_
         rintro e w1 ⟨rfl,hg1⟩
         have hf:=hg1.fr
         have hm_:=(hf.block (wr.heap.size) (by first|(simp;done)|(simp;omega)) (by simp)).trans (show _=some (.cells #[.int .i64 x,.int .i64 y,.int .i64 st] 75 (0,0)) by (repeat first|rw [if_pos (by omega)]|rw [if_neg (by omega)]|rw [hDR]|rw [hDN]|rw [hAz]|rw [hSz]|rw [hAC]|rw [hSC]|rw [oMS]|rw [uPC]|rw [lSZ]|rw [lSS]|rfl))
         have m0:=hEC hm_ 0
         have m1:=hEC hm_ 1
         have m2:=hEC hm_ 2
         have ml:=lBk hm_
         have Hm:=Lib.hid hm_
         clear hm_
         have Hf1:=Lib.hid (Fr.trans0 (by have:=Hf.out;(repeat first|exact Fr.refl _ _|assumption|apply Fr.n|apply Fr.d|apply Fr.a|refine Fr.s ?_ (.inr (by simp;try omega)) _)) hf:Fr [] w w1)
         clear hf hg1
         go_wp2_with fail
         refine (HPL.out _).mono ?_
         rintro e w2 ⟨rfl,hg2⟩
         have hf:=hg2.fr
         (try clear m0)
         (try clear m1)
         (try clear m2)
         (try clear ml)
         have hm_:=(hf.block _ (lBk Hm.out) (by simp)).trans Hm.out
         clear Hm
         have m0:=hEC hm_ 0
         have m1:=hEC hm_ 1
         have m2:=hEC hm_ 2
         have ml:=lBk hm_
         have Hm:=Lib.hid hm_
         clear hm_
         have Hf2:=Lib.hid (Hf1.out.trans0 hf)
         clear hf hg2 Hf1 e0 e1 e2
         obtain⟨g',off',he,_,e3,e4,e5⟩:=(Hl.out.fr Hf2.out).cell Hq.out
         cases he
         simp only at e3 e4 e5
         go_wp2_with fail
         refine (HOR.out _).mono ?_
         rintro e w3 ⟨rfl,hg3⟩
         have Hf2:=Lib.hid (Fr.trans0 (by have:=Hf2.out;(repeat first|exact Fr.refl _ _|assumption|apply Fr.n|apply Fr.d|apply Fr.a|refine Fr.s ?_ (.inr (by simp;try omega)) _)) hg3.fr:Fr [] w w3)
         clear hg3
         go_wp2
         refine Strict.intro rfl ?_
         go_wp2
         go_ret
         exact⟨ret_bool' (rgt_false hlt (HA.out.trans (by simp ))).symm,by have:=Hf2.out;(repeat first|exact Fr.refl _ _|assumption|apply Fr.n|apply Fr.d|apply Fr.a|refine Fr.s ?_ (.inr (by simp;try omega)) _)⟩
   ·obtain rfl:k=l.length:=by omega
    go_wp2
    go_ret
    exact⟨ret_bool' (rgt_true h5 Hk.out).symm,Hf.out⟩
 ·have hr:rightP l=false:=by unfold rightP;rw [decide_eq_false h5,Bool.false_and]
  rw [hr]
  have hd5:decide (((l.length:Nat):Int) > 5000)=true:=by simp;omega
  go_enter Tryz.func62,Tryz.ntmps62
  go_wp2
  go_ret
  exact⟨rfl,by (repeat first|exact Fr.refl _ _|assumption|apply Fr.n|apply Fr.d|apply Fr.a|refine Fr.s ?_ (.inr (by simp;try omega)) _)⟩
end Go.Proofs.YtdanghnadbkhfaaGreat
end
section
namespace Go.Proofs.YtdanghnadbkhfaaGreat
open Go Go.RowKit Rg Hp Pt
theorem place_p (x y:Int) (w:World):Calls Tryz.prog 100 #[.int .i64 x,.int .i64 y] w fun e w'=>e=.returned (.bool (placeB x y))∧w'=w:=by
 have hb:placeB x y=(((decide (x ≥ -1048576) && decide (x≤1048576)) && decide (y ≥ -1048576)) && decide (y≤1048576)):=by
  unfold placeB
  rw [Bool.eq_iff_iff]
  simp only [Bool.and_eq_true,decide_eq_true_eq];omega
 rw [hb]
 clear hb
 obtain⟨a,ha⟩:∃ a,decide (x ≥ -1048576)=a:=⟨_,rfl⟩
 obtain⟨b,hb⟩:∃ a,decide (x≤1048576)=a:=⟨_,rfl⟩
 obtain⟨c,hc⟩:∃ a,decide (y ≥ -1048576)=a:=⟨_,rfl⟩
 obtain⟨d,hd⟩:∃ a,decide (y≤1048576)=a:=⟨_,rfl⟩
 rw [ha,hb,hc,hd]
 cases a with
 | false =>
  go_enter Tryz.func100,Tryz.ntmps100
  go_wp2
  go_ret
  exact⟨by simp,rfl⟩
 | true =>
  cases b with
  | false =>
   go_enter Tryz.func100,Tryz.ntmps100
   go_wp2
   go_ret
   exact⟨by simp,rfl⟩
  | true =>
   cases c with
   | false =>
    go_enter Tryz.func100,Tryz.ntmps100
    go_wp2
    go_ret
    exact⟨by simp,rfl⟩
   | true =>
    go_enter Tryz.func100,Tryz.ntmps100
    go_wp2
    go_ret
    exact⟨by simp,rfl⟩
theorem before_p (p q:PC) (w:World):Calls Tryz.prog 102 #[pcV p,pcV q] w fun e w'=>e=.returned (.bool (pBef p q))∧Fr [] w w':=by
 obtain⟨x,y,s⟩:=p
 obtain⟨u,v,t⟩:=q
 unfold pcV pBef
 simp only
 by_cases h:y<v
 ·have hb:decide (y<v)=true:=by simpa using h
  rw [show decide (y<v∨y=v∧x<u)=true by simp [h]]
  clear h
  go_enter Tryz.func102,Tryz.ntmps102
  go_wp2
  go_ret
  exact⟨rfl,by (repeat first|exact Fr.refl _ _|assumption|apply Fr.n|apply Fr.d|apply Fr.a|refine Fr.s ?_ (.inr (by simp;try omega)) _)⟩
 ·have hb:decide (y<v)=false:=by simpa using h
  by_cases he:y=v
  ·subst he
   rw [show decide (y<y∨y=y∧x<u)=decide (x<u) by simp]
   obtain⟨c,hc⟩:∃ c,decide (x<u)=c:=⟨_,rfl⟩
   rw [hc]
   clear h
   have heq:(y == y)=true:=by simp
   go_enter Tryz.func102,Tryz.ntmps102
   go_wp2
   go_ret
   exact⟨rfl,by (repeat first|exact Fr.refl _ _|assumption|apply Fr.n|apply Fr.d|apply Fr.a|refine Fr.s ?_ (.inr (by simp;try omega)) _)⟩
  ·have heq:(y == v)=false:=by simpa using he
   rw [show decide (y<v∨y=v∧x<u)=false by simp [h,he]]
   clear h he
   go_enter Tryz.func102,Tryz.ntmps102
   go_wp2
   go_ret
   exact⟨rfl,by (repeat first|exact Fr.refl _ _|assumption|apply Fr.n|apply Fr.d|apply Fr.a|refine Fr.s ?_ (.inr (by simp;try omega)) _)⟩
set_option maxHeartbeats 8000000 in
set_option maxRecDepth 100000 in
theorem RRight_p {w:World} {l:List PC} {a:Option Addr} {c:Nat} (hl:CellsAt w (.slice a l.length c) l) (hlen:l.length≤4000000000000000000) :
  Calls Tryz.prog 66 #[.slice a l.length c] w fun e w'=>e=.returned (.bool (rightP l))∧Fr [] w w':=by
 have Hl:=Lib.hid hl
 clear hl
 go_enter Tryz.func66,Tryz.ntmps66
 go_wp2
 go_loopw [3] (fun x wr=>∃ k:Nat,x=.int .i64 k∧k≤l.length∧(∀ j,j<k→rgtAt l j=true)∧Fr [] w wr) (fun x _=>l.length - (intOf x).toNat)
 case atStart=>exact⟨0,rfl,by omega,by omega,Fr.refl _ _⟩
 case round =>
  obtain⟨k,rfl,hk,hn,hf⟩:=hrel
  have Hk:=Lib.hid hn
  have Hf:=Lib.hid hf
  clear hn hf
  by_cases hlt:k<l.length
  ·obtain⟨⟨x,y,st⟩,hp⟩:∃ p,l[k]?=some p:=⟨_,List.getElem?_eq_getElem hlt⟩
   obtain⟨g,off,rfl,hg,e0,e1,e2⟩:=(Hl.out.fr Hf.out).cell hp
   simp only at e0 e1 e2
   have HPL:=Lib.hid (place_p x y)
   cases k with
   | zero =>
    have HA:=Lib.hid (rgt_zero hp)
    clear hp
    simp only [Nat.zero_mul,Nat.add_zero] at e0 e1 e2
    unfold cellB at HA
    simp only at HA
    generalize placeB x y=pl at HA HPL
    cases pl with
    | false =>
     go_wp2
     (refine wRT (by kernel_rfl) (by kernel_rfl) ?_)
     go_wp2_with fail
     refine (HPL.out _).mono ?_
     rintro e w1 ⟨rfl,rfl⟩
     go_wp2
     refine Strict.intro rfl ?_
     go_wp2
     go_ret
     exact⟨ret_bool' (rgt_false (by omega) (HA.out.trans (by simp ))).symm,by have:=Hf.out;(repeat first|exact Fr.refl _ _|assumption|apply Fr.n|apply Fr.d|apply Fr.a|refine Fr.s ?_ (.inr (by simp;try omega)) _)⟩
    | true =>
     by_cases h1:st<1
     ·have hd1:decide (st<1)=true:=by simpa using h1
      go_wp2
      (refine wRT (by kernel_rfl) (by kernel_rfl) ?_)
      go_wp2_with fail
      refine (HPL.out _).mono ?_
      rintro e w1 ⟨rfl,rfl⟩
      go_wp2
      refine Strict.intro rfl ?_
      go_wp2
      go_ret
      exact⟨ret_bool' (rgt_false (by omega) (HA.out.trans (by simp ;omega))).symm,by have:=Hf.out;(repeat first|exact Fr.refl _ _|assumption|apply Fr.n|apply Fr.d|apply Fr.a|refine Fr.s ?_ (.inr (by simp;try omega)) _)⟩
     ·have hd1:decide (st<1)=false:=by simpa using h1
      by_cases h8:st ≥ 8
      ·have hd8:decide (st ≥ 8)=true:=by simpa using h8
       go_wp2
       (refine wRT (by kernel_rfl) (by kernel_rfl) ?_)
       go_wp2_with fail
       refine (HPL.out _).mono ?_
       rintro e w1 ⟨rfl,rfl⟩
       go_wp2
       refine Strict.intro rfl ?_
       go_wp2
       go_ret
       exact⟨ret_bool' (rgt_false (by omega) (HA.out.trans (by simp ;omega))).symm,by have:=Hf.out;(repeat first|exact Fr.refl _ _|assumption|apply Fr.n|apply Fr.d|apply Fr.a|refine Fr.s ?_ (.inr (by simp;try omega)) _)⟩
      ·have hd8:decide (st ≥ 8)=false:=by simpa using h8
       go_wp2
       (refine wRT (by kernel_rfl) (by kernel_rfl) ?_)
       go_wp2_with fail
       refine (HPL.out _).mono ?_
       rintro e w1 ⟨rfl,rfl⟩
       go_wp2
       refine Strict.intro rfl ?_
       go_wp2
       go_roundw
       case rel =>
        refine⟨0+1,by go_num,by omega,fun j hj=>?_,by have:=Hf.out;(repeat first|exact Fr.refl _ _|assumption|apply Fr.n|apply Fr.d|apply Fr.a|refine Fr.s ?_ (.inr (by simp;try omega)) _)⟩
        rcases Nat.lt_or_ge j (0) with h|h
        ·exact Hk.out j h
        ·obtain rfl:j=0:=by omega
         exact HA.out.trans (by simp ;omega)
       case measure=>simp [intOf];omega
   | succ k =>
    obtain⟨⟨u,v,su⟩,hq⟩:∃ p,l[k]?=some p:=⟨_,List.getElem?_eq_getElem (by omega)⟩
    obtain⟨g',off',he,_,e3,e4,e5⟩:=(Hl.out.fr Hf.out).cell hq
    cases he
    simp only at e3 e4 e5
    have HA:=Lib.hid (rgt_succ hp hq)
    have HOR:=Lib.hid (before_p ⟨u,v,su⟩ ⟨x,y,st⟩)
    unfold cellB at HA
    unfold pcV at HOR
    simp only at HA HOR
    generalize placeB x y=pl at HA HPL
    generalize pBef ⟨u,v,su⟩ ⟨x,y,st⟩=be at HA HOR
    clear hp hq
    cases pl with
    | false =>
     go_wp2
     (refine wRT (by kernel_rfl) (by kernel_rfl) ?_)
     go_wp2_with fail
     refine (HPL.out _).mono ?_
     rintro e w1 ⟨rfl,rfl⟩
     go_wp2
     refine Strict.intro rfl ?_
     go_wp2
     go_ret
     exact⟨ret_bool' (rgt_false (by omega) (HA.out.trans (by simp ))).symm,by have:=Hf.out;(repeat first|exact Fr.refl _ _|assumption|apply Fr.n|apply Fr.d|apply Fr.a|refine Fr.s ?_ (.inr (by simp;try omega)) _)⟩
    | true =>
     by_cases h1:st<1
     ·have hd1:decide (st<1)=true:=by simpa using h1
      go_wp2
      (refine wRT (by kernel_rfl) (by kernel_rfl) ?_)
      go_wp2_with fail
      refine (HPL.out _).mono ?_
      rintro e w1 ⟨rfl,rfl⟩
      go_wp2
      refine Strict.intro rfl ?_
      go_wp2
      go_ret
      exact⟨ret_bool' (rgt_false (by omega) (HA.out.trans (by simp ;omega))).symm,by have:=Hf.out;(repeat first|exact Fr.refl _ _|assumption|apply Fr.n|apply Fr.d|apply Fr.a|refine Fr.s ?_ (.inr (by simp;try omega)) _)⟩
     ·have hd1:decide (st<1)=false:=by simpa using h1
      by_cases h8:st ≥ 8
      ·have hd8:decide (st ≥ 8)=true:=by simpa using h8
       go_wp2
       (refine wRT (by kernel_rfl) (by kernel_rfl) ?_)
       go_wp2_with fail
       refine (HPL.out _).mono ?_
       rintro e w1 ⟨rfl,rfl⟩
       go_wp2
       refine Strict.intro rfl ?_
       go_wp2
       go_ret
       exact⟨ret_bool' (rgt_false (by omega) (HA.out.trans (by simp ;omega))).symm,by have:=Hf.out;(repeat first|exact Fr.refl _ _|assumption|apply Fr.n|apply Fr.d|apply Fr.a|refine Fr.s ?_ (.inr (by simp;try omega)) _)⟩
      ·have hd8:decide (st ≥ 8)=false:=by simpa using h8
       cases be with
       | true =>
        go_wp2
        (refine wRT (by kernel_rfl) (by kernel_rfl) ?_)
        go_wp2_with fail
        refine (HPL.out _).mono ?_
        rintro e w1 ⟨rfl,rfl⟩
        go_wp2_with fail
        refine (HOR.out _).mono ?_
        rintro e w3 ⟨rfl,hf3⟩
        have Hf:=Lib.hid (Fr.trans0 (by have:=Hf.out;(repeat first|exact Fr.refl _ _|assumption|apply Fr.n|apply Fr.d|apply Fr.a|refine Fr.s ?_ (.inr (by simp;try omega)) _)) hf3:Fr [] w w3)
        clear hf3
        go_wp2
        refine Strict.intro rfl ?_
        go_wp2
        go_roundw
        case rel =>
         refine⟨k+1+1,by go_num,by omega,fun j hj=>?_,by have:=Hf.out;(repeat first|exact Fr.refl _ _|assumption|apply Fr.n|apply Fr.d|apply Fr.a|refine Fr.s ?_ (.inr (by simp;try omega)) _)⟩
         rcases Nat.lt_or_ge j (k+1) with h|h
         ·exact Hk.out j h
         ·obtain rfl:j=k+1:=by omega
          exact HA.out.trans (by simp ;omega)
        case measure=>simp [intOf];omega
       | false =>
        go_wp2
        (refine wRT (by kernel_rfl) (by kernel_rfl) ?_)
        go_wp2_with fail
        refine (HPL.out _).mono ?_
        rintro e w1 ⟨rfl,rfl⟩
        go_wp2_with fail
        refine (HOR.out _).mono ?_
        rintro e w3 ⟨rfl,hf3⟩
        have Hf:=Lib.hid (Fr.trans0 (by have:=Hf.out;(repeat first|exact Fr.refl _ _|assumption|apply Fr.n|apply Fr.d|apply Fr.a|refine Fr.s ?_ (.inr (by simp;try omega)) _)) hf3:Fr [] w w3)
        clear hf3
        go_wp2
        refine Strict.intro rfl ?_
        go_wp2
        go_ret
        exact⟨ret_bool' (rgt_false (by omega) (HA.out.trans (by simp ))).symm,by have:=Hf.out;(repeat first|exact Fr.refl _ _|assumption|apply Fr.n|apply Fr.d|apply Fr.a|refine Fr.s ?_ (.inr (by simp;try omega)) _)⟩
  ·obtain rfl:k=l.length:=by omega
   by_cases h5:l.length≤5000
   ·have hd5:decide (((l.length:Nat):Int)≤5000)=true:=by simp;omega
    have HT:=Lib.hid (rgt_true h5 Hk.out)
    go_wp2
    go_ret
    exact⟨ret_bool' HT.out.symm,Hf.out⟩
   ·have hd5:decide (((l.length:Nat):Int)≤5000)=false:=by simp;omega
    have HT:=Lib.hid (show rightP l=false by unfold rightP;rw [decide_eq_false h5,Bool.false_and])
    go_wp2
    go_ret
    exact⟨ret_bool' HT.out.symm,Hf.out⟩
end Go.Proofs.YtdanghnadbkhfaaGreat
end
