/- Own texts of this claim, part 30: no condition. -/
import Derived.Shelf.SlSortCmp.InsertionK
import Derived.Shelf.SlSortCmp.PdqK
import Derived.Shelf.Small.Bits
import Derived.Test.YtebolidfbflkmaaGreatProg
import Derived.Shelf.SlSortCmp.NoneTotal
import Derived.Test.YtebolidfbflkmaaGreatZN27
import Derived.Test.YtebolidfbflkmaaGreatZN17
import Derived.Test.YtebolidfbflkmaaGreatZN2
import Derived.Test.YtebolidfbflkmaaGreatZN20
import Derived.Test.YtebolidfbflkmaaGreatZN22
set_option linter.unusedVariables false
set_option linter.unusedSimpArgs false
set_option maxHeartbeats 16000000
section
namespace Go.Proofs.Hp
open Go Go.RowKit
structure Gr (w w':World):Prop where
 fr:Fr [] w w'
 dr:w.drawn≤w'.drawn
theorem Gr.refl (w:World):Gr w w:=⟨Fr.refl [] w,Nat.le_refl _⟩
theorem Gr.trans {a b c:World} (h:Gr a b) (k:Gr b c):Gr a c:=⟨h.fr.trans0 k.fr,Nat.le_trans h.dr k.dr⟩
theorem Gr.drew {a w:World} (h:Gr a w):Gr a w.drew:=⟨h.fr.drew,Nat.le_succ_of_le h.dr⟩
theorem Gr.drewN {a w:World} (h:Gr a w) (n:Nat):Gr a (w.drewN n):=⟨h.fr.drewN n,Nat.le_trans h.dr (Nat.le_add_right _ _)⟩
theorem Gr.alloc {a w:World} (h:Gr a w) (o:Obj):Gr a (w.alloc o):=⟨h.fr.alloc o,h.dr⟩
theorem drawn_setCell (w:World) (p:Addr) (u:Value):(w.setCell p u).drawn=w.drawn:=by
 unfold World.setCell
 repeat' split
 all_goals rfl
theorem Gr.setCell {a w:World} (h:Gr a w) {p:Addr} (hp:a.heap.size≤p.block) (u:Value):Gr a (w.setCell p u):=⟨h.fr.setCell (.inr hp) u,by rw [drawn_setCell];exact h.dr⟩
theorem Gr.grow {w w':World} (h:Gr w w'):∃ q os,w'=Go.Sort.grow (w.drewN q) os:=by
 refine⟨w'.drawn - w.drawn,w'.heap.extract w.heap.size w'.heap.size,?_⟩;have hp:w'.heap=w.heap++w'.heap.extract w.heap.size w'.heap.size:=by
  apply Array.ext';rw [Array.toList_append,Array.toList_extract];have hl:=h.fr.size;apply List.ext_getElem?;intro i;by_cases hi:i<w.heap.size;·
   rw [List.getElem?_append_left (by simpa using hi),Array.getElem?_toList,Array.getElem?_toList];exact h.fr.block i hi i_
  ·rw [List.getElem?_append_right (by simpa using hi)];simp only [Array.length_toList,List.extract_eq_take_drop,List.getElem?_take,List.getElem?_drop];by_cases hi2:i<w'.heap.size;·rw [if_pos o_,show w.heap.size+(i - w.heap.size)=i by omega]
   ·rw [if_neg o_,List.getElem?_eq_none (by simp;omega)]
 obtain⟨hh,ht,hd,ho,hu⟩:=w';obtain⟨gh,gt,gd,go,gu⟩:=w;have h1:=h.fr.os;have h2:=h.fr.tape;have h3:=h.fr.output;have h4:=h.dr;simp only at h1 h2 h3 h4 hp;subst h1;subst h2;subst h3;simp only [Go.Sort.grow,World.drewN];rw [← hp];congr 1;omega
end Go.Proofs.Hp
namespace Go.Proofs.YtebolidfbflkmaaGreat
open Go Go.RowKit Rg Hp Pt
def cmpJ (a b:Int):Int:=if a<b then -1 else if b<a then 1 else 0
def cmpQ (p q:PC):Int:=if cmpJ p.y q.y≠0 then cmpJ p.y q.y else cmpJ p.x q.x
theorem cmpJ_calls (a b:Int) (w:World):Calls Tryz.prog 145 #[.int .i64 a,.int .i64 b] w fun e w'=>e=.returned (.int .i64 (cmpJ a b))∧w=w':=by
 have h1:(a != a)=false:=by simp
 have h2:(b != b)=false:=by simp
 unfold cmpJ;by_cases h:a<b;·
  rw [if_pos h];go_enter Tryz.func145,Tryz.ntmps145;go_wp2;go_ret;exact⟨rfl,rfl⟩
 ·rw [if_neg h];by_cases h':b<a;·
   rw [if_pos h'];go_enter Tryz.func145,Tryz.ntmps145;go_wp2;go_ret;exact⟨rfl,rfl⟩
  ·rw [if_neg h'];go_enter Tryz.func145,Tryz.ntmps145;go_wp2;go_ret;exact⟨rfl,rfl⟩
theorem or_callsY {a b:Int} {g:Nat} {w:World} (h:w.heap[g]?=some (.cells #[.int .i64 a,.int .i64 b] 3 (0,0))) :
  Calls Tryz.prog 144 #[.slice (some ⟨g,0,none⟩) 2 2] w fun e w'=>e=.returned (.int .i64 (orI a b))∧Gr w w':=by
 obtain⟨c0,c1⟩:=e2_ h;simp at c0 c1;have H:=q_ h;clear h;go_enter Tryz.func144,Tryz.ntmps144;go_wp2;go_loopw [8] (fun i wr=>∃ z:Int,i=.int .i64 z∧(z=0∨z=1∧a=0∨z=2∧a=0∧b=0)∧w=wr) (fun i _=>2 - (intOf i).toNat);case atStart=>exact⟨0,rfl,.inl rfl,rfl⟩
 case round =>
  obtain⟨z,rfl,h,rfl⟩:=hrel;rcases h with rfl|⟨rfl,rfl⟩|⟨rfl,rfl,rfl⟩
  ·by_cases h0:a=0;·
    subst h0;go_wp2;go_roundw;case rel=>refine⟨1,?_⟩;simp
    case measure=>simp [intOf]
   ·have hn:(a != 0)=true:=(by simpa using h0);go_wp2;go_ret;exact⟨ret_int' (orI_pos h0).symm,by (repeat (first|exact Gr.refl _|assumption|apply Gr.drewN|apply Gr.drew|apply Gr.alloc|refine Gr.setCell ?_ (by simp;try omega) _))⟩
  ·by_cases h0:b=0;·
    subst h0;go_wp2;go_roundw;case rel=>refine⟨2,?_⟩;simp
    case measure=>simp [intOf]
   ·have hn:(b != 0)=true:=(by simpa using h0);go_wp2;go_ret;exact⟨ret_int' (orI_zero b).symm,by (repeat (first|exact Gr.refl _|assumption|apply Gr.drewN|apply Gr.drew|apply Gr.alloc|refine Gr.setCell ?_ (by simp;try omega) _))⟩
  ·go_wp2;go_ret;exact⟨rfl,by (repeat (first|exact Gr.refl _|assumption|apply Gr.drewN|apply Gr.drew|apply Gr.alloc|refine Gr.setCell ?_ (by simp;try omega) _))⟩
theorem cmpQ_calls (p q:PC) (w:World):Calls Tryz.prog 124 #[.agg #[.int .i64 p.x,.int .i64 p.y],.agg #[.int .i64 q.x,.int .i64 q.y]] w fun e w'=>e=.returned (.int .i64 (cmpQ p q))∧Gr w w':=by
 obtain⟨px,py,ps⟩:=p;obtain⟨qx,qy,qs⟩:=q;show Calls _ _ _ w fun e w'=>e=.returned (.int .i64 (orI (cmpJ py qy) (cmpJ px qx)))∧Gr w w';have h1:=fun w=>cmpJ_calls py qy w;have h2:=fun w=>cmpJ_calls px qx w;generalize cmpJ py qy=a at h1 ⊢;generalize cmpJ px qx=b at h2 ⊢;have H1:=q_ h1;have H2:=q_ h2;clear h1 h2;go_enter Tryz.func124,Tryz.ntmps124;go_wp2;refine wS [([0,1,2,3,5,6,7,8,4],[6,8]),([9,10,11,12],[])] ?_;(simp only [wpSegs,pick,aq_,bq_,cq_,dq_,eq_]);go_wp2_with fail;refine (H1.out _).mono ?_;rintro e w' ⟨rfl,rfl⟩;go_wp2;refine mD_ ⟨⟨ac_ (T:=3) rfl rfl rfl Tryz.underlying3 rfl (by simp [go_sem]) rfl,ac_ (T:=3) rfl rfl rfl Tryz.underlying3 rfl (by simp [go_sem]) rfl,trivial⟩,?_⟩;go_wp2_with fail;refine (H2.out _).mono ?_;rintro e w' ⟨rfl,rfl⟩;go_wp2_with fail;refine (or_callsY (a:=a) (b:=b) ?hb).mono ?_;case hb=>(repeat first|rw [if_pos o_]|rw [if_neg o_]|rw [hDR]|rw [hDN]|rw [hAz]|rw [hSz]|rw [hAC]|rw [hSC]|rw [oMS]|rw [uPC]|rw [lSZ]|rw [lSS]|rfl)
 rintro e w' ⟨rfl,hf⟩;have Hf:=q_ hf;clear hf;go_wp2;refine mD_ ⟨trivial,sT_ rfl ?_⟩;go_wp2;go_ret;exact⟨rfl,Gr.trans (by (repeat (first|exact Gr.refl _|assumption|apply Gr.drewN|apply Gr.drew|apply Gr.alloc|refine Gr.setCell ?_ (by simp;try omega) _))) Hf.out⟩
def pcV (c:PC):Value:=.agg #[.int .i64 c.x,.int .i64 c.y,.int .i64 c.st]
theorem point_result1 {fn:Func} {p:Tmp} (h:fn.results=#[.cell p 116]) {tmps:Array Value} {b:Nat} {w':World} {x y:Value} (h4:tmps.getD p undef=.pointer (some ⟨b,0,none⟩)) (hb:w'.heap[b]?=some (.cells #[x,y] 116 (0,0))) :
  (results fn tmps).run Tryz.prog w'=.ok (.agg #[x,y]) w':=by
 rw [results_cell1 h,h4];simp only [asAddr,Sem.run_pure,Result.andThen];rw [run_loadVar_row w' b _ _ _ _ _ hb Tryz.underlying116 rfl k_]
theorem at_p (c:PC) (w:World):Calls Tryz.prog 86 #[pcV c] w fun e w'=>e=.returned (.agg #[.int .i64 c.x,.int .i64 c.y])∧Gr w w':=by
 unfold pcV;go_enter Tryz.func86,Tryz.ntmps86;go_wp2;refine bodyPost_ret (point_result1 rfl (b:=w.heap.size+1) (x:=.int .i64 c.x) (y:=.int .i64 c.y) rfl ?_) rfl ⟨rfl,?_⟩;·exact hpT
 ·(repeat (first|exact Gr.refl _|assumption|apply Gr.drewN|apply Gr.drew|apply Gr.alloc|refine Gr.setCell ?_ (by simp;try omega) _))
theorem order_p (c d:PC) (w:World):Calls Tryz.prog 87 #[pcV c,pcV d] w fun e w'=>e=.returned (.int .i64 (cmpQ c d))∧Gr w w':=by
 have HC:=q_ (at_p c);have HD:=q_ (at_p d);have HQ:=q_ (cmpQ_calls c d);unfold pcV at HC HD ⊢;generalize cmpQ c d=r at HQ ⊢;go_enter Tryz.func87,Tryz.ntmps87;go_wp2;refine wS [([0,2,1],[2]),([3,4,5],[])] ?_;(simp only [wpSegs,pick,aq_,bq_,cq_,dq_,eq_]);go_wp2_with fail;refine (HC.out _).mono ?_;rintro e w3 ⟨rfl,hg⟩;have hf:=hg.fr;have hd_:=(hf.block (w.heap.size+1) (by first|(simp;done)|(simp;omega)) i_).trans (show _=some (.cells #[.int .i64 d.x,.int .i64 d.y,.int .i64 d.st] 41 (0,0)) from hpT);obtain⟨d0,d1,d2,dl⟩:=l3_ hd_;have Hd:=q_ hd_;clear hd_;have Hg:=q_ (Gr.trans (by (repeat (first|exact Gr.refl _|assumption|apply Gr.drewN|apply Gr.drew|apply Gr.alloc|refine Gr.setCell ?_ (by simp;try omega) _))) hg:Gr w w3);clear hf hg;go_wp2;refine mD_ ⟨⟨aGR (T:=41) (cs:=[.int .i64 d.x,.int .i64 d.y,.int .i64 d.st]) rfl rfl rfl Tryz.underlying41 rfl k_ (fun j v hj=>?rng) rfl,trivial⟩,?_⟩;case rng =>rw [Nat.zero_add,hEC Hd.out,← hj];exact (Array.getElem?_toList (xs:=#[Value.int .i64 d.x,.int .i64 d.y,.int .i64 d.st])).symm
 go_wp2_with fail;refine (HD.out _).mono ?_;rintro e w4 ⟨rfl,hg⟩;have Hg:=q_ (Hg.out.trans hg);clear hg;go_wp2_with fail;refine (HQ.out _).mono ?_;rintro e w5 ⟨rfl,hg⟩;have Hg:=q_ (Hg.out.trans hg);clear hg;go_wp2;refine mD_ ⟨trivial,sT_ rfl ?_⟩;go_wp2;go_ret;exact⟨rfl,by have:=Hg.out;(repeat (first|exact Gr.refl _|assumption|apply Gr.drewN|apply Gr.drew|apply Gr.alloc|refine Gr.setCell ?_ (by simp;try omega) _))⟩
theorem placed_p (c:PC) (w:World):Calls Tryz.prog 85 #[.agg #[.int .i64 c.x,.int .i64 c.y]] w fun e w'=>e=.returned (.bool (placeB c.x c.y))∧Gr w w':=by
 have hb:placeB c.x c.y=(decide (max c.x c.y≤1048576) && decide (min c.x c.y ≥ -1048576)):=by unfold placeB;rw [Bool.eq_iff_iff];simp only [Bool.and_eq_true,decide_eq_true_eq];omega
 rw [hb];obtain⟨x,y,st⟩:=c;simp only;clear hb;cases h1:decide (max x y≤1048576) with
 | true =>obtain⟨r,h2⟩:∃ r,decide (min x y ≥ -1048576)=r:=⟨_,rfl⟩;rw [h2];go_enter Tryz.func85,Tryz.ntmps85;go_wp2;go_ret;exact⟨i_,by (repeat (first|exact Gr.refl _|assumption|apply Gr.drewN|apply Gr.drew|apply Gr.alloc|refine Gr.setCell ?_ (by simp;try omega) _))⟩
 | false =>go_enter Tryz.func85,Tryz.ntmps85;go_wp2;go_ret;exact⟨i_,by (repeat (first|exact Gr.refl _|assumption|apply Gr.drewN|apply Gr.drew|apply Gr.alloc|refine Gr.setCell ?_ (by simp;try omega) _))⟩
end Go.Proofs.YtebolidfbflkmaaGreat
end
section
namespace Go.Proofs.Pt
def z3:PC:=⟨0,0,0⟩
def rgtAt (l:List PC) (k:Nat):Bool:=cellB (l.getD k z3) && (decide (k=0) || pBef (l.getD (k - 1) z3) (l.getD k z3))
theorem strict_at:∀ {l:List PC} {k:Nat},strictB l=true→k+1<l.length→pBef (l.getD k z3) (l.getD (k+1) z3)=true
 | [],k,_,h=>by simp at h
 | [_],k,_,h=>by simp at h
 | a::b::l,0,h,_=>by simp only [strictB,Bool.and_eq_true] at h;exact h.1
 | a::b::l,k+1,h,hk=>by simp only [strictB,Bool.and_eq_true] at h;have:=strict_at (k:=k) h.2 (by simpa using hk);simpa using this
theorem strict_mk:∀ {l:List PC},(∀ k,k+1<l.length→pBef (l.getD k z3) (l.getD (k+1) z3)=true)→strictB l=true
 | [],_=>rfl
 | [_],_=>rfl
 | a::b::l,h=>by simp only [strictB,Bool.and_eq_true];refine⟨by simpa using h 0 i_,strict_mk fun k hk=>?_⟩;have:=h (k+1) (by simpa using hk);simpa using this
theorem rgt_false {l:List PC} {k:Nat} (hk:k<l.length) (h:rgtAt l k=false):rightP l=false:=by
 cases hr:rightP l with
 | false=>rfl
 | true =>
  unfold rightP at hr;simp only [Bool.and_eq_true,decide_eq_true_eq,List.all_eq_true] at hr;obtain⟨_,h2,h3⟩:=hr;unfold rgtAt at h;have e:l.getD k z3=l[k]:=by rw [List.getD_eq_getElem?_getD,List.getElem?_eq_getElem hk];rfl
  rw [e,h2 _ (List.getElem_mem hk),Bool.true_and] at h;cases k with
  | zero=>simp at h
  | succ k =>
   have:=strict_at (k:=k) h3 hk;rw [e,Nat.add_sub_cancel] at *
   rw [this] at h;simp at h
theorem rgt_true {l:List PC} (h5:l.length≤5000) (h:∀ k,k<l.length→rgtAt l k=true):rightP l=true:=by
 unfold rightP;simp only [Bool.and_eq_true,decide_eq_true_eq,List.all_eq_true];refine⟨h5,fun c hc=>?_,strict_mk fun k hk=>?_⟩;·
  obtain⟨i,hi,rfl⟩:=List.mem_iff_getElem.1 hc;have:=h i hi;unfold rgtAt at this;rw [Bool.and_eq_true,List.getD_eq_getElem?_getD,List.getElem?_eq_getElem hi] at this;exact this.1
 ·have:=h (k+1) hk;unfold rgtAt at this;simp only [Bool.and_eq_true,Nat.add_sub_cancel,Bool.or_eq_true,decide_eq_true_eq] at this;rcases this.2 with h|h
  ·omega
  ·exact h
theorem rgt_zero {l:List PC} {c:PC} (h:l[0]?=some c):rgtAt l 0=cellB c:=by unfold rgtAt;rw [List.getD_eq_getElem?_getD,h];simp
theorem rgt_succ {l:List PC} {k:Nat} {c d:PC} (h:l[k+1]?=some c) (h':l[k]?=some d):rgtAt l (k+1)=(cellB c && pBef d c):=by unfold rgtAt;rw [List.getD_eq_getElem?_getD,h,Nat.add_sub_cancel,List.getD_eq_getElem?_getD,h'];simp
end Go.Proofs.Pt
namespace Go.Proofs.YtebolidfbflkmaaGreat
open Go Go.RowKit Rg Hp Pt
def pcs (l:List PC):List Value:=l.flatMap fun c=>[.int .i64 c.x,.int .i64 c.y,.int .i64 c.st]
theorem pcs_len (l:List PC):(pcs l).length=l.length*3:=by
 induction l with
 | nil=>rfl
 | cons c l ih=>simp only [pcs,List.flatMap_cons,List.length_append,List.length_cons,List.length_nil] at *;omega
theorem pcs_get:∀ {l:List PC} {i:Nat} {c:PC},l[i]?=some c→(pcs l)[i*3]?=some (.int .i64 c.x)∧(pcs l)[i*3+1]?=some (.int .i64 c.y)∧(pcs l)[i*3+2]?=some (.int .i64 c.st)
 | [],i,c,h=>by simp at h
 | d::l,0,c,h=>by simp only [List.getElem?_cons_zero,Option.some.injEq] at h;subst h;exact⟨rfl,rfl,rfl⟩
 | d::l,i+1,c,h=>by
  have:=pcs_get (l:=l) (i:=i) (by simpa using h);have e:pcs (d::l)=[.int .i64 d.x,.int .i64 d.y,.int .i64 d.st]++pcs l:=rfl;rw [e];have f:∀ j,([Value.int .i64 d.x,.int .i64 d.y,.int .i64 d.st]++pcs l)[3+j]?=(pcs l)[j]?:=fun j=>by rw [List.getElem?_append_right i_];simp
  rw [show (i+1)*3=3+i*3 by omega,show 3+i*3+1=3+(i*3+1) by omega,show 3+i*3+2=3+(i*3+2) by omega,f,f,f];exact this
def CellsAt (w:World) (v:Value) (l:List PC):Prop:=Reads w v l.length 3 (pcs l)
theorem CellsAt.fr {w w':World} {v:Value} {l:List PC} (h:CellsAt w v l) (hf:Fr [] w w'):CellsAt w' v l:=Reads.fr h hf
theorem CellsAt.cell {w:World} {a:Option Addr} {n c:Nat} {l:List PC} (h:CellsAt w (.slice a n c) l) {i:Nat} {p:PC} (hi:l[i]?=some p) :
  ∃ g off,a=some ⟨g,off,none⟩∧g<w.heap.size∧w.cell? ⟨g,off+i*3,none⟩=some (.int .i64 p.x)∧w.cell? ⟨g,off+i*3+1,none⟩=some (.int .i64 p.y)∧w.cell? ⟨g,off+i*3+2,none⟩=some (.int .i64 p.st):=by
 obtain⟨_,a',c',he,h2⟩:=h;cases he;obtain⟨g,off,rfl,hg,hc⟩:=h2 (by have:=(List.getElem?_eq_some_iff.1 hi).1;omega);obtain⟨h0,h1,h2⟩:=pcs_get hi;exact⟨g,off,rfl,hg,hc _ _ h0,by have:=hc _ _ h1;rwa [← Nat.add_assoc] at this,by have:=hc _ _ h2;rwa [← Nat.add_assoc] at this⟩
theorem cmpQ_bef (p q:PC):decide (cmpQ p q ≥ 0)=!pBef p q:=by
 unfold cmpQ cmpJ pBef;rw [Bool.eq_iff_iff];simp only [decide_eq_true_eq,Bool.not_eq_true',decide_eq_false_iff_not];by_cases h1:p.y<q.y;·simp [h1]
 ·by_cases h2:q.y<p.y;·simp [h1,h2];omega
  ·by_cases h3:p.x<q.x;·simp [h1,h2,h3];omega
   ·by_cases h4:q.x<p.x;·simp [h1,h2,h3,h4]
    ·simp [h1,h2,h3,h4]
theorem PRight_calls {w:World} {l:List PC} {a:Option Addr} {c:Nat} (hl:CellsAt w (.slice a l.length c) l) (hlen:l.length≤4000000000000000000) :
  Calls Tryz.prog 41 #[.slice a l.length c] w fun e w'=>e=.returned (.bool (rightP l))∧Fr [] w w':=by
 have Hl:=q_ hl;clear hl;by_cases h5:l.length≤5000;·
  have hd5:decide (((l.length:Nat):Int) > 5000)=false:=by simp;omega
  go_enter Tryz.func41,Tryz.ntmps41;go_wp2;go_loopw [10] (fun x wr=>∃ k:Nat,x=.int .i64 k∧k≤l.length∧(∀ j,j<k→rgtAt l j=true)∧Fr [] w wr) (fun x _=>l.length - (intOf x).toNat);case atStart=>exact⟨0,rfl,o_,o_,Fr.refl _ _⟩
  case round =>
   obtain⟨k,rfl,hk,hn,hf⟩:=hrel;have Hk:=q_ hn;have Hf:=q_ hf;clear hn hf;by_cases hlt:k<l.length;·
    obtain⟨⟨x,y,st⟩,hp⟩:∃ p,l[k]?=some p:=⟨_,List.getElem?_eq_getElem hlt⟩;obtain⟨g,off,rfl,hg,e0,e1,e2⟩:=(Hl.out.fr Hf.out).cell hp;simp only at e0 e1 e2;have HAT:=q_ (at_p ⟨x,y,st⟩);have HPL:=q_ (placed_p ⟨x,y,st⟩);unfold pcV at HAT;simp only at HAT HPL;cases k with
    | zero =>
     have HA:=q_ (rgt_zero hp);clear hp;simp only [Nat.zero_mul,Nat.add_zero] at e0 e1 e2;unfold cellB at HA;simp only at HA;generalize placeB x y=pl at HA HPL;cases pl with
     | false =>go_wp2;(refine wT ?_);go_wp2_with fail;refine (HAT.out _).mono ?_;rintro e w1 ⟨rfl,hg1⟩;have hf:=hg1.fr;have hm_:=(hf.block (wr.heap.size) (by first|(simp;done)|(simp;omega)) i_).trans (show _=some (.cells #[.int .i64 x,.int .i64 y,.int .i64 st] 41 (0,0)) from hpT);obtain⟨m0,m1,m2,ml⟩:=l3_ hm_;have Hm:=q_ hm_;clear hm_;have Hf1:=q_ (Fr.trans0 (by have:=Hf.out;exact Fr.t) hf:Fr [] w w1);clear hf hg1;go_wp2_with fail;refine (HPL.out _).mono ?_;rintro e w2 ⟨rfl,hg2⟩;have hf:=hg2.fr;(try clear m0 m1 m2 ml);have hm_:=tk hf Hm;clear Hm;obtain⟨m0,m1,m2,ml⟩:=l3_ hm_;have Hm:=q_ hm_;clear hm_;have Hf2:=q_ (Hf1.out.trans0 hf);clear hf hg2 Hf1 e0 e1 e2;go_wp2;refine sT_ rfl ?_;go_wp2;go_ret;exact⟨ret_bool' (rgt_false hlt (HA.out.trans (by simp ))).symm,by have:=Hf2.out;exact Fr.t⟩
     | true =>
      by_cases h1:st<1;·
       have hd1:decide (st<1)=true:=(by simpa using h1);go_wp2;(refine wT ?_);go_wp2_with fail;refine (HAT.out _).mono ?_;rintro e w1 ⟨rfl,hg1⟩;have hf:=hg1.fr;have hm_:=(hf.block (wr.heap.size) (by first|(simp;done)|(simp;omega)) i_).trans (show _=some (.cells #[.int .i64 x,.int .i64 y,.int .i64 st] 41 (0,0)) from hpT);obtain⟨m0,m1,m2,ml⟩:=l3_ hm_;have Hm:=q_ hm_;clear hm_;have Hf1:=q_ (Fr.trans0 (by have:=Hf.out;exact Fr.t) hf:Fr [] w w1);clear hf hg1;go_wp2_with fail;refine (HPL.out _).mono ?_;rintro e w2 ⟨rfl,hg2⟩;have hf:=hg2.fr;(try clear m0 m1 m2 ml);have hm_:=tk hf Hm;clear Hm;obtain⟨m0,m1,m2,ml⟩:=l3_ hm_;have Hm:=q_ hm_;clear hm_;have Hf2:=q_ (Hf1.out.trans0 hf);clear hf hg2 Hf1 e0 e1 e2;go_wp2;refine sT_ rfl ?_;go_wp2;go_ret;exact⟨ret_bool' (rgt_false hlt (HA.out.trans (by simp ;omega))).symm,by have:=Hf2.out;exact Fr.t⟩
      ·have hd1:decide (st<1)=false:=(by simpa using h1);by_cases h8:st ≥ 8;·
        have hd8:decide (st ≥ 8)=true:=(by simpa using h8);go_wp2;(refine wT ?_);go_wp2_with fail;refine (HAT.out _).mono ?_;rintro e w1 ⟨rfl,hg1⟩;have hf:=hg1.fr;have hm_:=(hf.block (wr.heap.size) (by first|(simp;done)|(simp;omega)) i_).trans (show _=some (.cells #[.int .i64 x,.int .i64 y,.int .i64 st] 41 (0,0)) from hpT);obtain⟨m0,m1,m2,ml⟩:=l3_ hm_;have Hm:=q_ hm_;clear hm_;have Hf1:=q_ (Fr.trans0 (by have:=Hf.out;exact Fr.t) hf:Fr [] w w1);clear hf hg1;go_wp2_with fail;refine (HPL.out _).mono ?_;rintro e w2 ⟨rfl,hg2⟩;have hf:=hg2.fr;(try clear m0 m1 m2 ml);have hm_:=tk hf Hm;clear Hm;obtain⟨m0,m1,m2,ml⟩:=l3_ hm_;have Hm:=q_ hm_;clear hm_;have Hf2:=q_ (Hf1.out.trans0 hf);clear hf hg2 Hf1 e0 e1 e2;go_wp2;refine sT_ rfl ?_;go_wp2;go_ret;exact⟨ret_bool' (rgt_false hlt (HA.out.trans (by simp ;omega))).symm,by have:=Hf2.out;exact Fr.t⟩
       ·have hd8:decide (st ≥ 8)=false:=(by simpa using h8);go_wp2;(refine wT ?_);go_wp2_with fail;refine (HAT.out _).mono ?_;rintro e w1 ⟨rfl,hg1⟩;have hf:=hg1.fr;have hm_:=(hf.block (wr.heap.size) (by first|(simp;done)|(simp;omega)) i_).trans (show _=some (.cells #[.int .i64 x,.int .i64 y,.int .i64 st] 41 (0,0)) from hpT);obtain⟨m0,m1,m2,ml⟩:=l3_ hm_;have Hm:=q_ hm_;clear hm_;have Hf1:=q_ (Fr.trans0 (by have:=Hf.out;exact Fr.t) hf:Fr [] w w1);clear hf hg1;go_wp2_with fail;refine (HPL.out _).mono ?_;rintro e w2 ⟨rfl,hg2⟩;have hf:=hg2.fr;(try clear m0 m1 m2 ml);have hm_:=tk hf Hm;clear Hm;obtain⟨m0,m1,m2,ml⟩:=l3_ hm_;have Hm:=q_ hm_;clear hm_;have Hf2:=q_ (Hf1.out.trans0 hf);clear hf hg2 Hf1 e0 e1 e2;go_wp2;refine sT_ rfl ?_;go_wp2;go_roundw;case rel =>
         refine⟨0+1,by go_num,o_,fun j hj=>?_,by have:=Hf2.out;exact Fr.t⟩;rcases Nat.lt_or_ge j (0) with h|h
         ·exact Hk.out j h
         ·obtain rfl:j=0:=o_;exact HA.out.trans (by simp ;omega)
        case measure=>simp [intOf];omega
    | succ k =>
     obtain⟨⟨u,v,su⟩,hq⟩:∃ p,l[k]?=some p:=⟨_,List.getElem?_eq_getElem o_⟩;have HA:=q_ (rgt_succ hp hq);have HOR:=q_ (order_p ⟨u,v,su⟩ ⟨x,y,st⟩);have hcb:=cmpQ_bef ⟨u,v,su⟩ ⟨x,y,st⟩;have Hq:=q_ hq;unfold cellB at HA;unfold pcV at HOR;simp only at HA HOR;generalize placeB x y=pl at HA HPL;generalize pBef ⟨u,v,su⟩ ⟨x,y,st⟩=be at HA hcb;generalize cmpQ ⟨u,v,su⟩ ⟨x,y,st⟩=z at HOR hcb;clear hp hq;cases pl with
     | false =>go_wp2;(refine wT ?_);go_wp2_with fail;refine (HAT.out _).mono ?_;rintro e w1 ⟨rfl,hg1⟩;have hf:=hg1.fr;have hm_:=(hf.block (wr.heap.size) (by first|(simp;done)|(simp;omega)) i_).trans (show _=some (.cells #[.int .i64 x,.int .i64 y,.int .i64 st] 41 (0,0)) from hpT);obtain⟨m0,m1,m2,ml⟩:=l3_ hm_;have Hm:=q_ hm_;clear hm_;have Hf1:=q_ (Fr.trans0 (by have:=Hf.out;exact Fr.t) hf:Fr [] w w1);clear hf hg1;go_wp2_with fail;refine (HPL.out _).mono ?_;rintro e w2 ⟨rfl,hg2⟩;have hf:=hg2.fr;(try clear m0 m1 m2 ml);have hm_:=tk hf Hm;clear Hm;obtain⟨m0,m1,m2,ml⟩:=l3_ hm_;have Hm:=q_ hm_;clear hm_;have Hf2:=q_ (Hf1.out.trans0 hf);clear hf hg2 Hf1 e0 e1 e2;go_wp2;refine sT_ rfl ?_;go_wp2;go_ret;exact⟨ret_bool' (rgt_false hlt (HA.out.trans (by simp ))).symm,by have:=Hf2.out;exact Fr.t⟩
     | true =>
      by_cases h1:st<1;·
       have hd1:decide (st<1)=true:=(by simpa using h1);go_wp2;(refine wT ?_);go_wp2_with fail;refine (HAT.out _).mono ?_;rintro e w1 ⟨rfl,hg1⟩;have hf:=hg1.fr;have hm_:=(hf.block (wr.heap.size) (by first|(simp;done)|(simp;omega)) i_).trans (show _=some (.cells #[.int .i64 x,.int .i64 y,.int .i64 st] 41 (0,0)) from hpT);obtain⟨m0,m1,m2,ml⟩:=l3_ hm_;have Hm:=q_ hm_;clear hm_;have Hf1:=q_ (Fr.trans0 (by have:=Hf.out;exact Fr.t) hf:Fr [] w w1);clear hf hg1;go_wp2_with fail;refine (HPL.out _).mono ?_;rintro e w2 ⟨rfl,hg2⟩;have hf:=hg2.fr;(try clear m0 m1 m2 ml);have hm_:=tk hf Hm;clear Hm;obtain⟨m0,m1,m2,ml⟩:=l3_ hm_;have Hm:=q_ hm_;clear hm_;have Hf2:=q_ (Hf1.out.trans0 hf);clear hf hg2 Hf1 e0 e1 e2;go_wp2;refine sT_ rfl ?_;go_wp2;go_ret;exact⟨ret_bool' (rgt_false hlt (HA.out.trans (by simp ;omega))).symm,by have:=Hf2.out;exact Fr.t⟩
      ·have hd1:decide (st<1)=false:=(by simpa using h1);by_cases h8:st ≥ 8;·
        have hd8:decide (st ≥ 8)=true:=(by simpa using h8);go_wp2;(refine wT ?_);go_wp2_with fail;refine (HAT.out _).mono ?_;rintro e w1 ⟨rfl,hg1⟩;have hf:=hg1.fr;have hm_:=(hf.block (wr.heap.size) (by first|(simp;done)|(simp;omega)) i_).trans (show _=some (.cells #[.int .i64 x,.int .i64 y,.int .i64 st] 41 (0,0)) from hpT);obtain⟨m0,m1,m2,ml⟩:=l3_ hm_;have Hm:=q_ hm_;clear hm_;have Hf1:=q_ (Fr.trans0 (by have:=Hf.out;exact Fr.t) hf:Fr [] w w1);clear hf hg1;go_wp2_with fail;refine (HPL.out _).mono ?_;rintro e w2 ⟨rfl,hg2⟩;have hf:=hg2.fr;(try clear m0 m1 m2 ml);have hm_:=tk hf Hm;clear Hm;obtain⟨m0,m1,m2,ml⟩:=l3_ hm_;have Hm:=q_ hm_;clear hm_;have Hf2:=q_ (Hf1.out.trans0 hf);clear hf hg2 Hf1 e0 e1 e2;go_wp2;refine sT_ rfl ?_;go_wp2;go_ret;exact⟨ret_bool' (rgt_false hlt (HA.out.trans (by simp ;omega))).symm,by have:=Hf2.out;exact Fr.t⟩
       ·have hd8:decide (st ≥ 8)=false:=(by simpa using h8);cases be with
        | true =>
         simp only [Bool.not_true] at hcb;go_wp2;(refine wT ?_);go_wp2_with fail;refine (HAT.out _).mono ?_;rintro e w1 ⟨rfl,hg1⟩;have hf:=hg1.fr;have hm_:=(hf.block (wr.heap.size) (by first|(simp;done)|(simp;omega)) i_).trans (show _=some (.cells #[.int .i64 x,.int .i64 y,.int .i64 st] 41 (0,0)) from hpT);obtain⟨m0,m1,m2,ml⟩:=l3_ hm_;have Hm:=q_ hm_;clear hm_;have Hf1:=q_ (Fr.trans0 (by have:=Hf.out;exact Fr.t) hf:Fr [] w w1);clear hf hg1;go_wp2_with fail;refine (HPL.out _).mono ?_;rintro e w2 ⟨rfl,hg2⟩;have hf:=hg2.fr;(try clear m0 m1 m2 ml);have hm_:=tk hf Hm;clear Hm;obtain⟨m0,m1,m2,ml⟩:=l3_ hm_;have Hm:=q_ hm_;clear hm_;have Hf2:=q_ (Hf1.out.trans0 hf);clear hf hg2 Hf1 e0 e1 e2;obtain⟨g',off',he,_,e3,e4,e5⟩:=(Hl.out.fr Hf2.out).cell Hq.out;cases he;simp only at e3 e4 e5;go_wp2_with fail;refine (HOR.out _).mono ?_;rintro e w3 ⟨rfl,hg3⟩;have Hf2:=q_ (Fr.trans0 (by have:=Hf2.out;exact Fr.t) hg3.fr:Fr [] w w3);clear hg3;go_wp2;refine sT_ rfl ?_;go_wp2;go_roundw;case rel =>
          refine⟨k+1+1,by go_num,o_,fun j hj=>?_,by have:=Hf2.out;exact Fr.t⟩;rcases Nat.lt_or_ge j (k+1) with h|h
          ·exact Hk.out j h
          ·obtain rfl:j=k+1:=o_;exact HA.out.trans (by simp ;omega)
         case measure=>simp [intOf];omega
        | false =>simp only [Bool.not_false] at hcb;go_wp2;(refine wT ?_);go_wp2_with fail;refine (HAT.out _).mono ?_;rintro e w1 ⟨rfl,hg1⟩;have hf:=hg1.fr;have hm_:=(hf.block (wr.heap.size) (by first|(simp;done)|(simp;omega)) i_).trans (show _=some (.cells #[.int .i64 x,.int .i64 y,.int .i64 st] 41 (0,0)) from hpT);obtain⟨m0,m1,m2,ml⟩:=l3_ hm_;have Hm:=q_ hm_;clear hm_;have Hf1:=q_ (Fr.trans0 (by have:=Hf.out;exact Fr.t) hf:Fr [] w w1);clear hf hg1;go_wp2_with fail;refine (HPL.out _).mono ?_;rintro e w2 ⟨rfl,hg2⟩;have hf:=hg2.fr;(try clear m0 m1 m2 ml);have hm_:=tk hf Hm;clear Hm;obtain⟨m0,m1,m2,ml⟩:=l3_ hm_;have Hm:=q_ hm_;clear hm_;have Hf2:=q_ (Hf1.out.trans0 hf);clear hf hg2 Hf1 e0 e1 e2;obtain⟨g',off',he,_,e3,e4,e5⟩:=(Hl.out.fr Hf2.out).cell Hq.out;cases he;simp only at e3 e4 e5;go_wp2_with fail;refine (HOR.out _).mono ?_;rintro e w3 ⟨rfl,hg3⟩;have Hf2:=q_ (Fr.trans0 (by have:=Hf2.out;exact Fr.t) hg3.fr:Fr [] w w3);clear hg3;go_wp2;refine sT_ rfl ?_;go_wp2;go_ret;exact⟨ret_bool' (rgt_false hlt (HA.out.trans (by simp ))).symm,by have:=Hf2.out;exact Fr.t⟩
   ·obtain rfl:k=l.length:=o_;go_wp2;go_ret;exact⟨ret_bool' (rgt_true h5 Hk.out).symm,Hf.out⟩
 ·have hr:rightP l=false:=by unfold rightP;rw [decide_eq_false h5,Bool.false_and]
  rw [hr];have hd5:decide (((l.length:Nat):Int) > 5000)=true:=by simp;omega
  go_enter Tryz.func41,Tryz.ntmps41;go_wp2;go_ret;exact⟨rfl,Fr.t⟩
end Go.Proofs.YtebolidfbflkmaaGreat
end
section
namespace Go.Proofs
open Go.Shelf
def Tryz.pdqCell_ren:Go.Shelf.Ren:=⟨fun|14=>133|20=>150|21=>151|22=>152|23=>153|24=>154|25=>155|26=>156|27=>157|46=>163|47=>164|48=>165|49=>166|50=>167|15=>134|57=>168|28=>158|29=>159|n=>n,fun|24=>41|22=>26|3=>3|25=>143|4=>4|0=>0|46=>225|45=>224|50=>33|66=>234|39=>148|55=>71|70=>238|76=>240|77=>241|53=>75|5=>5|9=>9|n=>n,fun|n=>n⟩
theorem Tryz.pdqCell:Go.Proofs.SlLaysF0.n14 Tryz.prog Tryz.pdqCell_ren:={
 mixed:=by kernel_rfl
 f14:=⟨Tryz.f133.name,by decide,Tryz.func133.trans (congrArg some k_)⟩
 f15:=Tryz.func134.trans (congrArg some k_)
 f20:=⟨Tryz.f150.name,by decide,Tryz.func150.trans (congrArg some k_)⟩
 f21:=⟨Tryz.f151.name,by decide,Tryz.func151.trans (congrArg some k_)⟩
 f22:=⟨Tryz.f152.name,by decide,Tryz.func152.trans (congrArg some k_)⟩
 f23:=⟨Tryz.f153.name,by decide,Tryz.func153.trans (congrArg some k_)⟩
 f24:=⟨Tryz.f154.name,by decide,Tryz.func154.trans (congrArg some k_)⟩
 f25:=⟨Tryz.f155.name,by decide,Tryz.func155.trans (congrArg some k_)⟩
 f26:=⟨Tryz.f156.name,by decide,Tryz.func156.trans (congrArg some k_)⟩
 f27:=⟨Tryz.f157.name,by decide,Tryz.func157.trans (congrArg some k_)⟩
 f28:=Tryz.func158.trans (congrArg some k_)
 f29:=Tryz.func159.trans (congrArg some k_)
 f46:=⟨Tryz.f163.name,by decide,Tryz.func163.trans (congrArg some k_)⟩
 f47:=Tryz.func164.trans (congrArg some k_)
 f48:=Tryz.func165.trans (congrArg some k_)
 f49:=⟨Tryz.f166.name,by decide,Tryz.func166.trans (congrArg some k_)⟩
 f50:=⟨Tryz.f167.name,by decide,Tryz.func167.trans (congrArg some k_)⟩
 f57:=⟨Tryz.f168.name,by decide,Tryz.func168.trans (congrArg some k_)⟩
 t0:=Tryz.underlying0
 a0:=Tryz.isAgg0
 z0:=Tryz.sizeOf0
 v0:=Tryz.zeroValue0
 t3:=Tryz.underlying3
 a3:=Tryz.isAgg3
 z3:=Tryz.sizeOf3
 v3:=Tryz.zeroValue3
 t4:=Tryz.underlying4
 a4:=Tryz.isAgg4
 z4:=Tryz.sizeOf4
 v4:=Tryz.zeroValue4
 t5:=Tryz.underlying5
 a5:=Tryz.isAgg5
 z5:=Tryz.sizeOf5
 v5:=Tryz.zeroValue5
 t9:=Tryz.underlying9
 a9:=Tryz.isAgg9
 z9:=Tryz.sizeOf9
 v9:=Tryz.zeroValue9
 t22:=Tryz.underlying26
 a22:=Tryz.isAgg26
 z22:=Tryz.sizeOf26
 v22:=Tryz.zeroValue26
 t25:=Tryz.underlying143
 a25:=Tryz.isAgg143
 z25:=Tryz.sizeOf143
 v25:=Tryz.zeroValue143
 t39:=Tryz.underlying148
 a39:=Tryz.isAgg148
 z39:=Tryz.sizeOf148
 v39:=Tryz.zeroValue148
 t45:=Tryz.underlying224
 a45:=Tryz.isAgg224
 z45:=Tryz.sizeOf224
 v45:=Tryz.zeroValue224
 t46:=Tryz.underlying225
 a46:=Tryz.isAgg225
 z46:=Tryz.sizeOf225
 v46:=Tryz.zeroValue225
 t50:=Tryz.underlying33
 a50:=Tryz.isAgg33
 z50:=Tryz.sizeOf33
 v50:=Tryz.zeroValue33
 t53:=Tryz.underlying75
 a53:=Tryz.isAgg75
 z53:=Tryz.sizeOf75
 v53:=Tryz.zeroValue75
 t55:=Tryz.underlying71
 a55:=Tryz.isAgg71
 z55:=Tryz.sizeOf71
 v55:=Tryz.zeroValue71
 t66:=Tryz.underlying234
 a66:=Tryz.isAgg234
 z66:=Tryz.sizeOf234
 v66:=Tryz.zeroValue234
 t70:=Tryz.underlying238
 a70:=Tryz.isAgg238
 z70:=Tryz.sizeOf238
 v70:=Tryz.zeroValue238
 t76:=Tryz.underlying240
 a76:=Tryz.isAgg240
 z76:=Tryz.sizeOf240
 v76:=Tryz.zeroValue240
 t77:=Tryz.underlying241
 a77:=Tryz.isAgg241
 z77:=Tryz.sizeOf241
 v77:=Tryz.zeroValue241 }
def Tryz.lays125_ren:Go.Shelf.Ren:=⟨fun|125=>134|128=>158|129=>159|n=>n,fun|46=>148|3=>3|51=>75|53=>71|4=>4|5=>5|9=>9|n=>n,fun|n=>n⟩
theorem Tryz.lays125:Go.Proofs.Lays.n125 Tryz.prog Tryz.lays125_ren:={
 mixed:=by kernel_rfl
 f125:=Tryz.func134.trans (congrArg some k_)
 f128:=Tryz.func158.trans (congrArg some k_)
 f129:=Tryz.func159.trans (congrArg some k_)
 t3:=Tryz.underlying3
 a3:=Tryz.isAgg3
 z3:=Tryz.sizeOf3
 v3:=Tryz.zeroValue3
 t4:=Tryz.underlying4
 a4:=Tryz.isAgg4
 z4:=Tryz.sizeOf4
 v4:=Tryz.zeroValue4
 t5:=Tryz.underlying5
 a5:=Tryz.isAgg5
 z5:=Tryz.sizeOf5
 v5:=Tryz.zeroValue5
 t9:=Tryz.underlying9
 a9:=Tryz.isAgg9
 z9:=Tryz.sizeOf9
 v9:=Tryz.zeroValue9
 t46:=Tryz.underlying148
 a46:=Tryz.isAgg148
 z46:=Tryz.sizeOf148
 v46:=Tryz.zeroValue148
 t51:=Tryz.underlying75
 a51:=Tryz.isAgg75
 z51:=Tryz.sizeOf75
 v51:=Tryz.zeroValue75
 t53:=Tryz.underlying71
 a53:=Tryz.isAgg71
 z53:=Tryz.sizeOf71
 v53:=Tryz.zeroValue71 }
end Go.Proofs
end
section
namespace Go.Proofs.Pt
open Go.Sort Go.Shelf
instance:Inhabited PC:=⟨z3⟩
end Go.Proofs.Pt
namespace Go.Proofs.YtebolidfbflkmaaGreat
open Go Go.RowKit Rg Hp Pt Go.Sort Go.Shelf
def pcE (c:PC):List Value:=[.int .i64 c.x,.int .i64 c.y,.int .i64 c.st]
theorem lt_bef (a b:PC):ltOf cmpQ a b=pBef a b:=by
 unfold ltOf cmpQ cmpJ pBef;rw [Bool.eq_iff_iff];simp only [decide_eq_true_eq];by_cases h1:a.y<b.y;·simp [h1]
 ·by_cases h2:b.y<a.y;·simp [h1,h2];omega
  ·by_cases h3:a.x<b.x;·simp [h1,h2,h3];omega
   ·by_cases h4:b.x<a.x;·simp [h1,h2,h3,h4]
    ·simp [h1,h2,h3,h4]
theorem swo_bef:SWO (ltOf cmpQ) where
 irrefl x:=by rw [lt_bef];simp [pBef]
 trans x y z h1 h2:=by rw [lt_bef] at *;exact pBef_trans h1 h2
 ntrans x y z h1 h2:=by rw [lt_bef] at *;exact pBef_weak h2 h1
theorem flatP_get {q:List PC} {t:Nat} (h:t<q.length*3):(pcs q)[t]?=some ((flatK pcE 3 q.toArray)[t]!):=by
 rw [get_flatK _ _ _ _ (by simpa using h)];have hi:t / 3<q.length:=o_
 have hq:q[t / 3]?=some q[t / 3]:=List.getElem?_eq_getElem hi;have e:q.toArray[t / 3]! = q[t / 3]:=by simp [hi]
 rw [e];obtain⟨h0,h1,h2⟩:=pcs_get hq;generalize q[t / 3]=c at h0 h1 h2 ⊢;have:t % 3=0∨t % 3=1∨t % 3=2:=o_
 rcases this with r|r|r<;>rw [r]
 ·rw [show t / 3*3=t by omega] at h0;exact h0
 ·rw [show t / 3*3+1=t by omega] at h1;exact h1
 ·rw [show t / 3*3+2=t by omega] at h2;exact h2
theorem put_size (c:Array Value) (d:Array Value) (off:Nat):(putCells id off d c).size=c.size:=by simp [putCells]
theorem put_take {q:List PC} {c:Array Value} (h:q.length*3≤c.size):(putCells id 0 (flatK pcE 3 q.toArray) c).toList.take (q.length*3)=pcs q:=by
 apply List.ext_getElem?;intro t;rw [List.getElem?_take];by_cases ht:t<q.length*3;·
  rw [if_pos ht,flatP_get ht,Array.getElem?_toList];unfold putCells;rw [Array.getElem?_mapIdx,Array.getElem?_eq_getElem o_];simp [ht]
 ·rw [if_neg ht,List.getElem?_eq_none (by rw [pcs_len];omega)]
theorem put_heap {w:World} {g:Nat} {cur:Array Value} {e:TypeId} {fr:Nat×Nat} (d:Array PC) (n:Nat) (os:Array Obj) (h:w.heap[g]?=some (.cells cur e fr)) :
  (sortWorldK pcE 3 w g 0 n d os).heap[g]?=some (.cells (putCells id 0 (flatK pcE 3 d) cur) e fr)∧Fr [g] w (sortWorldK pcE 3 w g 0 n d os):=by
 have hg:=(Array.getElem?_eq_some_iff.1 h).1;have hh:∀ k,k<w.heap.size→(sortWorldK pcE 3 w g 0 n d os).heap[k]?=(w.heap.modify g (onCells (putCells id 0 (flatK pcE 3 d))))[k]?:=by intro k hk;show ((w.heap.modify g (onCells (putCells id 0 (flatK pcE 3 d))))++os)[k]?=_;rw [Array.getElem?_append_left (by simpa using hk)]
 constructor;·
  rw [hh g hg,Array.getElem?_modify,if_pos rfl,h];rfl
 ·refine⟨rfl,rfl,rfl,?_,fun k hk hn=>?_⟩;·
   show w.heap.size≤((w.heap.modify g (onCells (putCells id 0 (flatK pcE 3 d))))++os).size;simp
  ·rw [hh k hk,Array.getElem?_modify,if_neg (by simp at hn;exact fun e=>hn e.symm)]
theorem cmpLays_p (blk off size:Nat) (w:World):CmpLays Tryz.prog 87 #[] pcE 3 cmpQ blk off size w :=
 fun _ _ _ _ x y=>(order_p x y _).mono fun _ _ ⟨he,hg⟩=>⟨he,hg.grow⟩
theorem sort_calls {w:World} {base:Nat} {v:Value} {m:List PC} (h:w.ownsRow base 41 3 v m.length (pcs m)) (hm:m.length<4611686018427387904) :
  Calls Tryz.prog 108 #[v,.func (.func 87) #[] #[]] w fun e w'=>e=.returned (.tuple #[])∧∃ q:List PC,q.Perm m∧Weak q∧w'.ownsRow base 41 3 v q.length (pcs q)∧Fr v.ownBlock.toList w w':=by
 have eg:∀ args w,(callFunc 87 args).run Tryz.prog w=.ok (.enter 87 args) w:=enters_of Tryz.func87 k_ rfl;have hL:∀ (n:Nat) (w:World),n<4611686018427387904→Calls Tryz.prog 134 #[.int .u64 (n:Int)] w fun e w'=>e=.returned (.int .i64 (Lib.bitLen n:Nat))∧w'=w:=by intro n w hn;have h:=Any.bits_Len Tryz.lays125 (n:Int) w o_ o_;rwa [Int.toNat_natCast] at h
 have wr:∀ n:Nat,n<4611686018427387904→IntKind.u64.wrap (n:Int)=n:=by intro n hn;simp [IntKind.wrap,IntKind.bits,IntKind.signed];omega
 rcases h.2 with ⟨rfl,hn⟩|⟨g,cap,cur,rfl,hb,hg,hnc,hcm,hcs,ht⟩
 ·obtain rfl:=List.eq_nil_of_length_eq_zero hn;have hp:∀ lim:Int,Calls Tryz.prog 133 #[.slice none 0 0,.int .i64 0,.int .i64 0,.int .i64 lim,.func (.func 87) #[] #[]] w fun e w'=>e=.returned (.tuple #[])∧w'=w:=fun lim=>AnyF.pdqsortCmpFunc_none { Tryz.pdqCell with } none 0 lim (.func (.func 87) #[] #[]) w;have HP:=q_ hp;have HL:=q_ (hL 0 w o_);have HO:=q_ h;clear hp hL wr h hn hm;go_enter Tryz.func108,Tryz.ntmps108;go_wp2_with (first|(go_at_call 134;refine HL.out.mono ?_;rintro e w' ⟨rfl,rfl⟩)|(go_at_call 133;refine (HP.out _).mono ?_;rintro e w' ⟨rfl,rfl⟩));go_end0;exact⟨rfl,[],List.Perm.refl _,List.Pairwise.nil,HO.out,Fr.refl _ _⟩
 ·have hlt:=(Array.getElem?_eq_some_iff.1 hg).1;have hsz:m.length*3≤cur.size:=by rw [hcs];exact Nat.mul_le_mul_right _ hnc
  have hH:HoldsK pcE 3 w g 0 m.toArray:=by
   intro j hj;rw [size_flatK] at hj;have hj:j<m.length*3:=by simpa using hj
   rw [Nat.zero_add];have h1:=flatP_get hj;rw [← ht,List.getElem?_take,if_pos hj,Array.getElem?_toList] at h1;exact⟨by rw [hEC hg j];exact h1,hEF hg j⟩
  have hlim:Lib.bitLen m.length<4611686018427387904:=Nat.lt_of_le_of_lt (Lib.bitLen_le m.length 62 o_ o_) o_;have hp:Calls Tryz.prog 133 #[.slice (some ⟨g,0,none⟩) m.length cap,.int .i64 0,.int .i64 m.length,.int .i64 (Lib.bitLen m.length:Nat),.func (.func 87) #[] #[]] w fun e w'=>e=.returned (.tuple #[])∧SWK pcE 3 w g 0 (pdq (ltOf cmpQ) m.toArray 0 m.length (Lib.bitLen m.length) true true) w' :=
   AnyQ.pdqsortCmpFunc_all Tryz.pdqCell 3 Tryz.isAgg41 Tryz.sizeOf41 pcE cmpQ 87 #[] swo_bef g 0 cap m.toArray w eg (cmpLays_p g 0 _ w) ⟨fun _=>rfl,fun x v hv=>by simp [pcE] at hv;rcases hv with rfl|rfl|rfl<;>rfl,hH,hlt⟩ (m.toArray.size+1) 0 m.length (Lib.bitLen m.length) m.toArray w i_ rfl (SWK.start hH) (Nat.zero_le _) i_ (by simpa using hm) hlim (Or.inl rfl)
  have hcon:Calls Tryz.prog 108 #[.slice (some ⟨g,0,none⟩) m.length cap,.func (.func 87) #[] #[]] w fun e w'=>e=.returned (.tuple #[])∧∃ d' n os,PermIn 0 m.toArray.size m.toArray d'∧SortedIn (ltOf cmpQ) 0 m.toArray.size d'∧w'=sortWorldK pcE 3 w g 0 n d' os:=by have h5:=pdq_sorts (ltOf cmpQ) swo_bef m.toArray 0 m.toArray.size (Lib.bitLen m.length) true true (Nat.zero_le _) (Nat.le_refl _) (Or.inl rfl);have H5:=q_ h5;have HP:=q_ hp;have HL:=q_ (hL m.length w hm);have hw:=wr m.length hm;clear hp hL wr h5 hH eg h hlim hsz hlt hg hcs ht hnc hcm hb;go_enter Tryz.func108,Tryz.ntmps108;go_wp2_with (first|(go_at_call 134;refine HL.out.mono ?_;rintro e w' ⟨rfl,rfl⟩)|(go_at_call 133;refine HP.out.mono ?_;rintro e w' ⟨rfl,n,os,rfl⟩));go_end0;have h6:=H5.out;rw [show m.toArray.size=m.length by simp] at h6;exact⟨rfl,_,n,os,by simpa using h6.1,by simpa using h6.2,rfl⟩
  refine Calls.mono hcon ?_;rintro e w' ⟨rfl,d',n,os,hp,hs,rfl⟩;obtain⟨p1,_,p3⟩:=hp;have hl:d'.toList.length=m.length:=by simpa using p1
  have hperm:d'.toList.Perm m:=by have:=p3;rw [Array.extract_eq_self_of_le o_,Array.extract_eq_self_of_le o_] at this;simpa using this
  obtain⟨hh,hf⟩:=put_heap (e:=41) d' n os hg;refine⟨rfl,d'.toList,hperm,?_,?_,?_⟩;·
   refine List.pairwise_iff_getElem.2 fun i j hi hj hij=>?_;have:=hs i j o_ hij (by simpa [hl] using hj);rw [lt_bef] at this;simp only [Array.length_toList] at hi hj;rw [getElem!_pos d' i hi,getElem!_pos d' j hj] at this;simpa using this
  ·refine⟨pcs_len _,.inr ⟨g,cap,_,by rw [hl],hb,hh,o_,hcm,by rw [put_size,hcs],?_⟩⟩;have:=put_take (q:=d'.toList) (c:=cur) (by rw [hl];exact hsz);simpa using this
  ·exact hf.mono fun x hx=>by simp at hx;subst hx;simp [Value.ownBlock]
end Go.Proofs.YtebolidfbflkmaaGreat
end
