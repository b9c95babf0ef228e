/- Own texts of this claim, part 14: no condition. -/
import Derived.Shelf.SlSortCmp.InsertionK
import Derived.Shelf.SlSortCmp.PdqK
import Derived.Shelf.Small.Bits
import Derived.Test.YtebolidfbflkmaaGreatProg
import Derived.Shelf.SlSortCmp.NoneTotal
import Derived.Test.YtebolidfbflkmaaGreatZE12
set_option linter.unusedVariables false
set_option linter.unusedSimpArgs false
set_option maxHeartbeats 16000000
set_option maxRecDepth 100000
namespace Go.Proofs.Hp
open Go Go.RowKit
structure Gr (w w':World):Prop where
 fr:Fr [] w w'
 dr:w.drawn≤w'.drawn
theorem Gr.refl (w:World):Gr w w:=⟨Fr.refl [] w,Nat.le_refl _⟩
theorem Gr.trans {a b c:World} (h:Gr a b) (k:Gr b c):Gr a c:=⟨h.fr.trans0 k.fr,Nat.le_trans h.dr k.dr⟩
theorem Gr.drew {a w:World} (h:Gr a w):Gr a w.drew:=⟨h.fr.drew,Nat.le_succ_of_le h.dr⟩
theorem Gr.drewN {a w:World} (h:Gr a w) (n:Nat):Gr a (w.drewN n):=⟨h.fr.drewN n,Nat.le_trans h.dr (Nat.le_add_right _ _)⟩
theorem Gr.alloc {a w:World} (h:Gr a w) (o:Obj):Gr a (w.alloc o):=⟨h.fr.alloc o,h.dr⟩
theorem drawn_setCell (w:World) (p:Addr) (u:Value):(w.setCell p u).drawn=w.drawn:=by
 unfold World.setCell
 repeat' split
 all_goals rfl
theorem Gr.setCell {a w:World} (h:Gr a w) {p:Addr} (hp:a.heap.size≤p.block) (u:Value):Gr a (w.setCell p u):=⟨h.fr.setCell (.inr hp) u,by rw [drawn_setCell];exact h.dr⟩
theorem Gr.grow {w w':World} (h:Gr w w'):∃ q os,w'=Go.Sort.grow (w.drewN q) os:=by
 refine⟨w'.drawn - w.drawn,w'.heap.extract w.heap.size w'.heap.size,?_⟩;have hp:w'.heap=w.heap++w'.heap.extract w.heap.size w'.heap.size:=by
  apply Array.ext';rw [Array.toList_append,Array.toList_extract];have hl:=h.fr.size;apply List.ext_getElem?;intro i;by_cases hi:i<w.heap.size;·
   rw [List.getElem?_append_left (by simpa using hi),Array.getElem?_toList,Array.getElem?_toList];exact h.fr.block i hi i_
  ·rw [List.getElem?_append_right (by simpa using hi)];simp only [Array.length_toList,List.extract_eq_take_drop,List.getElem?_take,List.getElem?_drop];by_cases hi2:i<w'.heap.size;·rw [if_pos o_,show w.heap.size+(i - w.heap.size)=i by omega]
   ·rw [if_neg o_,List.getElem?_eq_none u_']
 obtain⟨hh,ht,hd,ho,hu⟩:=w';obtain⟨gh,gt,gd,go,gu⟩:=w;have h1:=h.fr.os;have h2:=h.fr.tape;have h3:=h.fr.output;have h4:=h.dr;simp only at h1 h2 h3 h4 hp;subst h1;subst h2;subst h3;simp only [Go.Sort.grow,World.drewN];rw [← hp];congr 1;omega
end Go.Proofs.Hp
namespace Go.Proofs.YtebolidfbflkmaaGreat
open Go Go.RowKit Rg Hp Pt
def Ga (a b:Int):Int:=if a<b then -1 else if b<a then 1 else 0
def Mg (p q:PC):Int:=if Ga p.y q.y≠0 then Ga p.y q.y else Ga p.x q.x
theorem Q3 (a b:Int) (w:World):Calls Tryz.prog 145 #[.int .i64 a,.int .i64 b] w fun e w'=>e=.returned (.int .i64 (Ga a b))∧w=w':=by
 have h1:(a != a)=false:=by simp
 have h2:(b != b)=false:=by simp
 unfold Ga;by_cases h:a<b;·
  rw [if_pos h];go_enter Tryz.func145,Tryz.ntmps145;go_wp2;go_ret;exact⟨rfl,rfl⟩
 ·rw [if_neg h];by_cases h':b<a;·
   rw [if_pos h'];go_enter Tryz.func145,Tryz.ntmps145;go_wp2;go_ret;exact⟨rfl,rfl⟩
  ·rw [if_neg h'];go_enter Tryz.func145,Tryz.ntmps145;go_wp2;go_ret;exact⟨rfl,rfl⟩
theorem or_callsY {a b:Int} {g:Nat} {w:World} (h:w.heap[g]?=some (.cells #[.int .i64 a,.int .i64 b] 3 (0,0))) :
  Calls Tryz.prog 144 #[.slice (some ⟨g,0,none⟩) 2 2] w fun e w'=>e=.returned (.int .i64 (orI a b))∧Gr w w':=by
 obtain⟨c0,c1⟩:=e2_ h;simp at c0 c1;have H:=q_ h;clear h;go_enter Tryz.func144,Tryz.ntmps144;go_wp2;go_loopw [8] (fun i wr=>∃ z:Int,i=.int .i64 z∧(z=0∨z=1∧a=0∨z=2∧a=0∧b=0)∧w=wr) (fun i _=>2 - (intOf i).toNat);case atStart=>exact⟨0,rfl,.inl rfl,rfl⟩
 case round =>
  obtain⟨z,rfl,h,rfl⟩:=hrel;rcases h with rfl|⟨rfl,rfl⟩|⟨rfl,rfl,rfl⟩
  ·by_cases h0:a=0;·
    subst h0;go_wp2;go_roundw;case rel=>refine⟨1,?_⟩;simp
    case measure=>simp [intOf]
   ·have hn:(a != 0)=true:=(by simpa using h0);go_wp2;go_ret;exact⟨Dy (Vh h0).symm,by (repeat (first|exact Gr.refl _|assumption|apply Gr.drewN|apply Gr.drew|apply Gr.alloc|refine Gr.setCell ?_ t_ _))⟩
  ·by_cases h0:b=0;·
    subst h0;go_wp2;go_roundw;case rel=>refine⟨2,?_⟩;simp
    case measure=>simp [intOf]
   ·have hn:(b != 0)=true:=(by simpa using h0);go_wp2;go_ret;exact⟨Dy (Tg b).symm,by (repeat (first|exact Gr.refl _|assumption|apply Gr.drewN|apply Gr.drew|apply Gr.alloc|refine Gr.setCell ?_ t_ _))⟩
  ·go_wp2;go_ret;exact⟨rfl,by (repeat (first|exact Gr.refl _|assumption|apply Gr.drewN|apply Gr.drew|apply Gr.alloc|refine Gr.setCell ?_ t_ _))⟩
theorem cmpQ_calls (p q:PC) (w:World):Calls Tryz.prog 124 #[.agg #[.int .i64 p.x,.int .i64 p.y],.agg #[.int .i64 q.x,.int .i64 q.y]] w fun e w'=>e=.returned (.int .i64 (Mg p q))∧Gr w w':=by
 obtain⟨px,py,ps⟩:=p;obtain⟨qx,qy,qs⟩:=q;show Calls _ _ _ w fun e w'=>e=.returned (.int .i64 (orI (Ga py qy) (Ga px qx)))∧Gr w w';have h1:=fun w=>Q3 py qy w;have h2:=fun w=>Q3 px qx w;generalize Ga py qy=a at h1 ⊢;generalize Ga px qx=b at h2 ⊢;have H1:=q_ h1;have H2:=q_ h2;clear h1 h2;go_enter Tryz.func124,Tryz.ntmps124;go_wp2;refine wS [([0,1,2,3,5,6,7,8,4],[6,8]),([9,10,11,12],[])] ?_;(simp only [A2,pick,aq_,bq_,cq_,dq_,eq_]);go_wp2_with fail;refine (H1.o _).mono ?_;rintro e w' ⟨rfl,rfl⟩;go_wp2;refine mD_ ⟨⟨ac_ (T:=3) rfl rfl rfl Tryz.underlying3 rfl (by simp [go_sem]) rfl,ac_ (T:=3) rfl rfl rfl Tryz.underlying3 rfl (by simp [go_sem]) rfl,trivial⟩,?_⟩;go_wp2_with fail;refine (H2.o _).mono ?_;rintro e w' ⟨rfl,rfl⟩;go_wp2_with fail;refine (or_callsY (a:=a) (b:=b) ?hb).mono ?_;case hb=>(repeat first|rw [if_pos o_]|rw [if_neg o_]|rw [hDR]|rw [hDN]|rw [hAz]|rw [hSz]|rw [hAC]|rw [hSC]|rw [oMS]|rw [uPC]|rw [lSZ]|rw [lSS]|rfl)
 rintro e w' ⟨rfl,hf⟩;have Hf:=q_ hf;clear hf;go_wp2;refine mD_ ⟨trivial,sT_ rfl ?_⟩;go_wp2;go_ret;exact⟨rfl,Gr.trans (by (repeat (first|exact Gr.refl _|assumption|apply Gr.drewN|apply Gr.drew|apply Gr.alloc|refine Gr.setCell ?_ t_ _))) Hf.o⟩
def pcV (c:PC):Value:=.agg #[.int .i64 c.x,.int .i64 c.y,.int .i64 c.st]
theorem point_result1 {fn:Func} {p:Tmp} (h:fn.results=#[.cell p 116]) {tmps:Array Value} {b:Nat} {w':World} {x y:Value} (h4:tmps.getD p undef=.pointer (some ⟨b,0,none⟩)) (hb:w'.heap[b]?=some (.cells #[x,y] 116 (0,0))) :
  (results fn tmps).run Tryz.prog w'=.ok (.agg #[x,y]) w':=by
 rw [Et h,h4];simp only [asAddr,Sem.run_pure,Result.andThen];rw [run_loadVar_row w' b _ _ _ _ _ hb Tryz.underlying116 rfl k_]
theorem Xc (c:PC) (w:World):Calls Tryz.prog 86 #[pcV c] w fun e w'=>e=.returned (.agg #[.int .i64 c.x,.int .i64 c.y])∧Gr w w':=by
 unfold pcV;go_enter Tryz.func86,Tryz.ntmps86;go_wp2;refine bodyPost_ret (point_result1 rfl (b:=w.heap.size+1) (x:=.int .i64 c.x) (y:=.int .i64 c.y) rfl ?_) rfl ⟨rfl,?_⟩;·exact hpT
 ·(repeat (first|exact Gr.refl _|assumption|apply Gr.drewN|apply Gr.drew|apply Gr.alloc|refine Gr.setCell ?_ t_ _))
theorem Vg (c d:PC) (w:World):Calls Tryz.prog 87 #[pcV c,pcV d] w fun e w'=>e=.returned (.int .i64 (Mg c d))∧Gr w w':=by
 have HC:=q_ (Xc c);have HD:=q_ (Xc d);have HQ:=q_ (cmpQ_calls c d);unfold pcV at HC HD ⊢;generalize Mg c d=r at HQ ⊢;go_enter Tryz.func87,Tryz.ntmps87;go_wp2;refine wS [([0,2,1],[2]),([3,4,5],[])] ?_;(simp only [A2,pick,aq_,bq_,cq_,dq_,eq_]);go_wp2_with fail;refine (HC.o _).mono ?_;rintro e w3 ⟨rfl,hg⟩;have hf:=hg.fr;have hd_:=(hf.block (w.heap.size+1) f_' i_).trans (show _=some (.cells #[.int .i64 d.x,.int .i64 d.y,.int .i64 d.st] 41 (0,0)) from hpT);obtain⟨d0,d1,d2,dl⟩:=l3_ hd_;have Hd:=q_ hd_;clear hd_;have Hg:=q_ (Gr.trans (by (repeat (first|exact Gr.refl _|assumption|apply Gr.drewN|apply Gr.drew|apply Gr.alloc|refine Gr.setCell ?_ t_ _))) hg:Gr w w3);clear hf hg;go_wp2;refine mD_ ⟨⟨aGR (T:=41) (cs:=[.int .i64 d.x,.int .i64 d.y,.int .i64 d.st]) rfl rfl rfl Tryz.underlying41 rfl k_ (fun j v hj=>?rng) rfl,trivial⟩,?_⟩;case rng =>rw [Nat.zero_add,hEC Hd.o,← hj];exact (Array.getElem?_toList (xs:=#[Value.int .i64 d.x,.int .i64 d.y,.int .i64 d.st])).symm
 go_wp2_with fail;refine (HD.o _).mono ?_;rintro e w4 ⟨rfl,hg⟩;have Hg:=q_ (Hg.o.trans hg);clear hg;go_wp2_with fail;refine (HQ.o _).mono ?_;rintro e w5 ⟨rfl,hg⟩;have Hg:=q_ (Hg.o.trans hg);clear hg;go_wp2;refine mD_ ⟨trivial,sT_ rfl ?_⟩;go_wp2;go_ret;exact⟨rfl,by have:=Hg.o;(repeat (first|exact Gr.refl _|assumption|apply Gr.drewN|apply Gr.drew|apply Gr.alloc|refine Gr.setCell ?_ t_ _))⟩
theorem T9 (c:PC) (w:World):Calls Tryz.prog 85 #[.agg #[.int .i64 c.x,.int .i64 c.y]] w fun e w'=>e=.returned (.bool (Ir c.x c.y))∧Gr w w':=by
 have hb:Ir c.x c.y=(decide (max c.x c.y≤1048576) && decide (min c.x c.y ≥ -1048576)):=by unfold Ir;rw [Bool.eq_iff_iff];simp only [Bool.and_eq_true,decide_eq_true_eq];omega
 rw [hb];obtain⟨x,y,st⟩:=c;simp only;clear hb;cases h1:decide (max x y≤1048576) with
 | true =>obtain⟨r,h2⟩:∃ r,decide (min x y ≥ -1048576)=r:=⟨_,rfl⟩;rw [h2];go_enter Tryz.func85,Tryz.ntmps85;go_wp2;go_ret;exact⟨i_,by (repeat (first|exact Gr.refl _|assumption|apply Gr.drewN|apply Gr.drew|apply Gr.alloc|refine Gr.setCell ?_ t_ _))⟩
 | false =>go_enter Tryz.func85,Tryz.ntmps85;go_wp2;go_ret;exact⟨i_,by (repeat (first|exact Gr.refl _|assumption|apply Gr.drewN|apply Gr.drew|apply Gr.alloc|refine Gr.setCell ?_ t_ _))⟩
end Go.Proofs.YtebolidfbflkmaaGreat
namespace Go.Proofs.Pt
def z3:PC:=⟨0,0,0⟩
def Kw (l:List PC) (k:Nat):Bool:=Ig (l.getD k z3) && (decide (k=0) || Cf (l.getD (k - 1) z3) (l.getD k z3))
theorem Mw:∀ {l:List PC} {k:Nat},Al l=true→k+1<l.length→Cf (l.getD k z3) (l.getD (k+1) z3)=true
 | [],k,_,h=>by simp at h
 | [_],k,_,h=>by simp at h
 | a::b::l,0,h,_=>by simp only [Al,Bool.and_eq_true] at h;exact h.1
 | a::b::l,k+1,h,hk=>by simp only [Al,Bool.and_eq_true] at h;have:=Mw (k:=k) h.2 (by simpa using hk);simpa using this
theorem Mv:∀ {l:List PC},(∀ k,k+1<l.length→Cf (l.getD k z3) (l.getD (k+1) z3)=true)→Al l=true
 | [],_=>rfl
 | [_],_=>rfl
 | a::b::l,h=>by simp only [Al,Bool.and_eq_true];refine⟨by simpa using h 0 i_,Mv fun k hk=>?_⟩;have:=h (k+1) (by simpa using hk);simpa using this
variable {l:List PC}{k:Nat}
theorem Eb (hk:k<l.length) (h:Kw l k=false):Cn l=false:=by
 cases hr:Cn l with
 | false=>rfl
 | true =>
  unfold Cn at hr;simp only [Bool.and_eq_true,decide_eq_true_eq,List.all_eq_true] at hr;obtain⟨_,h2,h3⟩:=hr;unfold Kw at h;have e:l.getD k z3=l[k]:=by rw [List.getD_eq_getElem?_getD,List.getElem?_eq_getElem hk];rfl
  rw [e,h2 _ (List.getElem_mem hk),Bool.true_and] at h;cases k with
  | zero=>simp at h
  | succ k =>
   have:=Mw (k:=k) h3 hk;rw [e,Nat.add_sub_cancel] at *
   rw [this] at h;simp at h
theorem rgt_true (h5:l.length≤5000) (h:∀ k,k<l.length→Kw l k=true):Cn l=true:=by
 unfold Cn;simp only [Bool.and_eq_true,decide_eq_true_eq,List.all_eq_true];refine⟨h5,fun c hc=>?_,Mv fun k hk=>?_⟩;·
  obtain⟨i,hi,rfl⟩:=List.mem_iff_getElem.1 hc;have:=h i hi;unfold Kw at this;rw [Bool.and_eq_true,List.getD_eq_getElem?_getD,List.getElem?_eq_getElem hi] at this;exact this.1
 ·have:=h (k+1) hk;unfold Kw at this;simp only [Bool.and_eq_true,Nat.add_sub_cancel,Bool.or_eq_true,decide_eq_true_eq] at this;rcases this.2 with h|h
  ·omega
  ·exact h
variable {c:PC}
theorem rgt_zero (h:l[0]?=some c):Kw l 0=Ig c:=by unfold Kw;rw [List.getD_eq_getElem?_getD,h];simp
theorem rgt_succ {d:PC} (h:l[k+1]?=some c) (h':l[k]?=some d):Kw l (k+1)=(Ig c && Cf d c):=by unfold Kw;rw [List.getD_eq_getElem?_getD,h,Nat.add_sub_cancel,List.getD_eq_getElem?_getD,h'];simp
end Go.Proofs.Pt
namespace Go.Proofs.YtebolidfbflkmaaGreat
open Go Go.RowKit Rg Hp Pt
def pcs (l:List PC):List Value:=l.flatMap fun c=>[.int .i64 c.x,.int .i64 c.y,.int .i64 c.st]
theorem V9 (l:List PC):(pcs l).length=l.length*3:=by
 induction l with
 | nil=>rfl
 | cons c l ih=>simp only [pcs,List.flatMap_cons,List.length_append,List.length_cons,List.length_nil] at *;omega
theorem Ry:∀ {l:List PC} {i:Nat} {c:PC},l[i]?=some c→(pcs l)[i*3]?=some (.int .i64 c.x)∧(pcs l)[i*3+1]?=some (.int .i64 c.y)∧(pcs l)[i*3+2]?=some (.int .i64 c.st)
 | [],i,c,h=>by simp at h
 | d::l,0,c,h=>by simp only [List.getElem?_cons_zero,Option.some.injEq] at h;subst h;exact⟨rfl,rfl,rfl⟩
 | d::l,i+1,c,h=>by
  have:=Ry (l:=l) (i:=i) (by simpa using h);have e:pcs (d::l)=[.int .i64 d.x,.int .i64 d.y,.int .i64 d.st]++pcs l:=rfl;rw [e];have f:∀ j,([Value.int .i64 d.x,.int .i64 d.y,.int .i64 d.st]++pcs l)[3+j]?=(pcs l)[j]?:=fun j=>by rw [List.getElem?_append_right i_];simp
  rw [show (i+1)*3=3+i*3 by omega,show 3+i*3+1=3+(i*3+1) by omega,show 3+i*3+2=3+(i*3+2) by omega,f,f,f];exact this
def CellsAt (w:World) (v:Value) (l:List PC):Prop:=Reads w v l.length 3 (pcs l)
theorem CellsAt.fr {w w':World} {v:Value} {l:List PC} (h:CellsAt w v l) (hf:Fr [] w w'):CellsAt w' v l:=Reads.fr h hf
theorem CellsAt.cell {w:World} {a:Option Addr} {n c:Nat} {l:List PC} (h:CellsAt w (.slice a n c) l) {i:Nat} {p:PC} (hi:l[i]?=some p) :
  ∃ g off,a=some ⟨g,off,none⟩∧g<w.heap.size∧w.cell? ⟨g,off+i*3,none⟩=some (.int .i64 p.x)∧w.cell? ⟨g,off+i*3+1,none⟩=some (.int .i64 p.y)∧w.cell? ⟨g,off+i*3+2,none⟩=some (.int .i64 p.st):=by
 obtain⟨_,a',c',he,h2⟩:=h;cases he;obtain⟨g,off,rfl,hg,hc⟩:=h2 (by have:=(List.getElem?_eq_some_iff.1 hi).1;omega);obtain⟨h0,h1,h2⟩:=Ry hi;exact⟨g,off,rfl,hg,hc _ _ h0,by have:=hc _ _ h1;rwa [← Nat.add_assoc] at this,by have:=hc _ _ h2;rwa [← Nat.add_assoc] at this⟩
theorem cmpQ_bef (p q:PC):decide (Mg p q ≥ 0)=!Cf p q:=by
 unfold Mg Ga Cf;rw [Bool.eq_iff_iff];simp only [decide_eq_true_eq,Bool.not_eq_true',decide_eq_false_iff_not];by_cases h1:p.y<q.y;·simp [h1]
 ·by_cases h2:q.y<p.y;·simp [h1,h2];omega
  ·by_cases h3:p.x<q.x;·simp [h1,h2,h3];omega
   ·by_cases h4:q.x<p.x;·simp [h1,h2,h3,h4]
    ·simp [h1,h2,h3,h4]
theorem PRight_calls {w:World} {l:List PC} {a:Option Addr} {c:Nat} (hl:CellsAt w (.slice a l.length c) l) (hlen:l.length≤4000000000000000000) :
  Calls Tryz.prog 41 #[.slice a l.length c] w fun e w'=>e=.returned (.bool (Cn l))∧Fr [] w w':=by
 have Hl:=q_ hl;clear hl;by_cases h5:l.length≤5000;·
  have hd5:decide (((l.length:Nat):Int) > 5000)=false:=by simp;omega
  go_enter Tryz.func41,Tryz.ntmps41;go_wp2;go_loopw [10] (fun x wr=>∃ k:Nat,x=.int .i64 k∧k≤l.length∧(∀ j,j<k→Kw l j=true)∧Fr [] w wr) (fun x _=>l.length - (intOf x).toNat);case atStart=>exact⟨0,rfl,o_,o_,Fr.refl _ _⟩
  case round =>
   obtain⟨k,rfl,hk,hn,hf⟩:=hrel;have Hk:=q_ hn;have Hf:=q_ hf;clear hn hf;by_cases hlt:k<l.length;·
    obtain⟨⟨x,y,st⟩,hp⟩:∃ p,l[k]?=some p:=⟨_,List.getElem?_eq_getElem hlt⟩;obtain⟨g,off,rfl,hg,e0,e1,e2⟩:=(Hl.o.fr Hf.o).cell hp;simp only at e0 e1 e2;have HAT:=q_ (Xc ⟨x,y,st⟩);have HPL:=q_ (T9 ⟨x,y,st⟩);unfold pcV at HAT;simp only at HAT HPL;cases k with
    | zero =>
     have HA:=q_ (rgt_zero hp);clear hp;simp only [Nat.zero_mul,Nat.add_zero] at e0 e1 e2;unfold Ig at HA;simp only at HA;generalize Ir x y=pl at HA HPL;cases pl with
     | false =>go_wp2;(refine wT ?_);go_wp2_with fail;refine (HAT.o _).mono ?_;rintro e w1 ⟨rfl,hg1⟩;have hf:=hg1.fr;have hm_:=(hf.block (wr.heap.size) f_' i_).trans (show _=some (.cells #[.int .i64 x,.int .i64 y,.int .i64 st] 41 (0,0)) from hpT);obtain⟨m0,m1,m2,ml⟩:=l3_ hm_;have Hm:=q_ hm_;clear hm_;have Hf1:=q_ (Fr.trans0 (by have:=Hf.o;exact Fr.t) hf:Fr [] w w1);clear hf hg1;go_wp2_with fail;refine (HPL.o _).mono ?_;rintro e w2 ⟨rfl,hg2⟩;have hf:=hg2.fr;(try clear m0 m1 m2 ml);have hm_:=tk hf Hm;clear Hm;obtain⟨m0,m1,m2,ml⟩:=l3_ hm_;have Hm:=q_ hm_;clear hm_;have Hf2:=q_ (Hf1.o.trans0 hf);clear hf hg2 Hf1 e0 e1 e2;go_wp2;refine sT_ rfl ?_;go_wp2;go_ret;exact⟨Ag (Eb hlt (HA.o.trans (by simp ))).symm,by have:=Hf2.o;exact Fr.t⟩
     | true =>
      by_cases h1:st<1;·
       have hd1:decide (st<1)=true:=(by simpa using h1);go_wp2;(refine wT ?_);go_wp2_with fail;refine (HAT.o _).mono ?_;rintro e w1 ⟨rfl,hg1⟩;have hf:=hg1.fr;have hm_:=(hf.block (wr.heap.size) f_' i_).trans (show _=some (.cells #[.int .i64 x,.int .i64 y,.int .i64 st] 41 (0,0)) from hpT);obtain⟨m0,m1,m2,ml⟩:=l3_ hm_;have Hm:=q_ hm_;clear hm_;have Hf1:=q_ (Fr.trans0 (by have:=Hf.o;exact Fr.t) hf:Fr [] w w1);clear hf hg1;go_wp2_with fail;refine (HPL.o _).mono ?_;rintro e w2 ⟨rfl,hg2⟩;have hf:=hg2.fr;(try clear m0 m1 m2 ml);have hm_:=tk hf Hm;clear Hm;obtain⟨m0,m1,m2,ml⟩:=l3_ hm_;have Hm:=q_ hm_;clear hm_;have Hf2:=q_ (Hf1.o.trans0 hf);clear hf hg2 Hf1 e0 e1 e2;go_wp2;refine sT_ rfl ?_;go_wp2;go_ret;exact⟨Ag (Eb hlt (HA.o.trans (by simp ;omega))).symm,by have:=Hf2.o;exact Fr.t⟩
      ·have hd1:decide (st<1)=false:=(by simpa using h1);by_cases h8:st ≥ 8;·
        have hd8:decide (st ≥ 8)=true:=(by simpa using h8);go_wp2;(refine wT ?_);go_wp2_with fail;refine (HAT.o _).mono ?_;rintro e w1 ⟨rfl,hg1⟩;have hf:=hg1.fr;have hm_:=(hf.block (wr.heap.size) f_' i_).trans (show _=some (.cells #[.int .i64 x,.int .i64 y,.int .i64 st] 41 (0,0)) from hpT);obtain⟨m0,m1,m2,ml⟩:=l3_ hm_;have Hm:=q_ hm_;clear hm_;have Hf1:=q_ (Fr.trans0 (by have:=Hf.o;exact Fr.t) hf:Fr [] w w1);clear hf hg1;go_wp2_with fail;refine (HPL.o _).mono ?_;rintro e w2 ⟨rfl,hg2⟩;have hf:=hg2.fr;(try clear m0 m1 m2 ml);have hm_:=tk hf Hm;clear Hm;obtain⟨m0,m1,m2,ml⟩:=l3_ hm_;have Hm:=q_ hm_;clear hm_;have Hf2:=q_ (Hf1.o.trans0 hf);clear hf hg2 Hf1 e0 e1 e2;go_wp2;refine sT_ rfl ?_;go_wp2;go_ret;exact⟨Ag (Eb hlt (HA.o.trans (by simp ;omega))).symm,by have:=Hf2.o;exact Fr.t⟩
       ·have hd8:decide (st ≥ 8)=false:=(by simpa using h8);go_wp2;(refine wT ?_);go_wp2_with fail;refine (HAT.o _).mono ?_;rintro e w1 ⟨rfl,hg1⟩;have hf:=hg1.fr;have hm_:=(hf.block (wr.heap.size) f_' i_).trans (show _=some (.cells #[.int .i64 x,.int .i64 y,.int .i64 st] 41 (0,0)) from hpT);obtain⟨m0,m1,m2,ml⟩:=l3_ hm_;have Hm:=q_ hm_;clear hm_;have Hf1:=q_ (Fr.trans0 (by have:=Hf.o;exact Fr.t) hf:Fr [] w w1);clear hf hg1;go_wp2_with fail;refine (HPL.o _).mono ?_;rintro e w2 ⟨rfl,hg2⟩;have hf:=hg2.fr;(try clear m0 m1 m2 ml);have hm_:=tk hf Hm;clear Hm;obtain⟨m0,m1,m2,ml⟩:=l3_ hm_;have Hm:=q_ hm_;clear hm_;have Hf2:=q_ (Hf1.o.trans0 hf);clear hf hg2 Hf1 e0 e1 e2;go_wp2;refine sT_ rfl ?_;go_wp2;go_roundw;case rel =>
         refine⟨0+1,by go_num,o_,fun j hj=>?_,by have:=Hf2.o;exact Fr.t⟩;rcases Nat.lt_or_ge j (0) with h|h
         ·exact Hk.o j h
         ·obtain rfl:j=0:=o_;exact HA.o.trans (by simp ;omega)
        case measure=>simp [intOf];omega
    | succ k =>
     obtain⟨⟨u,v,su⟩,hq⟩:∃ p,l[k]?=some p:=⟨_,List.getElem?_eq_getElem o_⟩;have HA:=q_ (rgt_succ hp hq);have HOR:=q_ (Vg ⟨u,v,su⟩ ⟨x,y,st⟩);have hcb:=cmpQ_bef ⟨u,v,su⟩ ⟨x,y,st⟩;have Hq:=q_ hq;unfold Ig at HA;unfold pcV at HOR;simp only at HA HOR;generalize Ir x y=pl at HA HPL;generalize Cf ⟨u,v,su⟩ ⟨x,y,st⟩=be at HA hcb;generalize Mg ⟨u,v,su⟩ ⟨x,y,st⟩=z at HOR hcb;clear hp hq;cases pl with
     | false =>go_wp2;(refine wT ?_);go_wp2_with fail;refine (HAT.o _).mono ?_;rintro e w1 ⟨rfl,hg1⟩;have hf:=hg1.fr;have hm_:=(hf.block (wr.heap.size) f_' i_).trans (show _=some (.cells #[.int .i64 x,.int .i64 y,.int .i64 st] 41 (0,0)) from hpT);obtain⟨m0,m1,m2,ml⟩:=l3_ hm_;have Hm:=q_ hm_;clear hm_;have Hf1:=q_ (Fr.trans0 (by have:=Hf.o;exact Fr.t) hf:Fr [] w w1);clear hf hg1;go_wp2_with fail;refine (HPL.o _).mono ?_;rintro e w2 ⟨rfl,hg2⟩;have hf:=hg2.fr;(try clear m0 m1 m2 ml);have hm_:=tk hf Hm;clear Hm;obtain⟨m0,m1,m2,ml⟩:=l3_ hm_;have Hm:=q_ hm_;clear hm_;have Hf2:=q_ (Hf1.o.trans0 hf);clear hf hg2 Hf1 e0 e1 e2;go_wp2;refine sT_ rfl ?_;go_wp2;go_ret;exact⟨Ag (Eb hlt (HA.o.trans (by simp ))).symm,by have:=Hf2.o;exact Fr.t⟩
     | true =>
      by_cases h1:st<1;·
       have hd1:decide (st<1)=true:=(by simpa using h1);go_wp2;(refine wT ?_);go_wp2_with fail;refine (HAT.o _).mono ?_;rintro e w1 ⟨rfl,hg1⟩;have hf:=hg1.fr;have hm_:=(hf.block (wr.heap.size) f_' i_).trans (show _=some (.cells #[.int .i64 x,.int .i64 y,.int .i64 st] 41 (0,0)) from hpT);obtain⟨m0,m1,m2,ml⟩:=l3_ hm_;have Hm:=q_ hm_;clear hm_;have Hf1:=q_ (Fr.trans0 (by have:=Hf.o;exact Fr.t) hf:Fr [] w w1);clear hf hg1;go_wp2_with fail;refine (HPL.o _).mono ?_;rintro e w2 ⟨rfl,hg2⟩;have hf:=hg2.fr;(try clear m0 m1 m2 ml);have hm_:=tk hf Hm;clear Hm;obtain⟨m0,m1,m2,ml⟩:=l3_ hm_;have Hm:=q_ hm_;clear hm_;have Hf2:=q_ (Hf1.o.trans0 hf);clear hf hg2 Hf1 e0 e1 e2;go_wp2;refine sT_ rfl ?_;go_wp2;go_ret;exact⟨Ag (Eb hlt (HA.o.trans (by simp ;omega))).symm,by have:=Hf2.o;exact Fr.t⟩
      ·have hd1:decide (st<1)=false:=(by simpa using h1);by_cases h8:st ≥ 8;·
        have hd8:decide (st ≥ 8)=true:=(by simpa using h8);go_wp2;(refine wT ?_);go_wp2_with fail;refine (HAT.o _).mono ?_;rintro e w1 ⟨rfl,hg1⟩;have hf:=hg1.fr;have hm_:=(hf.block (wr.heap.size) f_' i_).trans (show _=some (.cells #[.int .i64 x,.int .i64 y,.int .i64 st] 41 (0,0)) from hpT);obtain⟨m0,m1,m2,ml⟩:=l3_ hm_;have Hm:=q_ hm_;clear hm_;have Hf1:=q_ (Fr.trans0 (by have:=Hf.o;exact Fr.t) hf:Fr [] w w1);clear hf hg1;go_wp2_with fail;refine (HPL.o _).mono ?_;rintro e w2 ⟨rfl,hg2⟩;have hf:=hg2.fr;(try clear m0 m1 m2 ml);have hm_:=tk hf Hm;clear Hm;obtain⟨m0,m1,m2,ml⟩:=l3_ hm_;have Hm:=q_ hm_;clear hm_;have Hf2:=q_ (Hf1.o.trans0 hf);clear hf hg2 Hf1 e0 e1 e2;go_wp2;refine sT_ rfl ?_;go_wp2;go_ret;exact⟨Ag (Eb hlt (HA.o.trans (by simp ;omega))).symm,by have:=Hf2.o;exact Fr.t⟩
       ·have hd8:decide (st ≥ 8)=false:=(by simpa using h8);cases be with
        | true =>
         simp only [Bool.not_true] at hcb;go_wp2;(refine wT ?_);go_wp2_with fail;refine (HAT.o _).mono ?_;rintro e w1 ⟨rfl,hg1⟩;have hf:=hg1.fr;have hm_:=(hf.block (wr.heap.size) f_' i_).trans (show _=some (.cells #[.int .i64 x,.int .i64 y,.int .i64 st] 41 (0,0)) from hpT);obtain⟨m0,m1,m2,ml⟩:=l3_ hm_;have Hm:=q_ hm_;clear hm_;have Hf1:=q_ (Fr.trans0 (by have:=Hf.o;exact Fr.t) hf:Fr [] w w1);clear hf hg1;go_wp2_with fail;refine (HPL.o _).mono ?_;rintro e w2 ⟨rfl,hg2⟩;have hf:=hg2.fr;(try clear m0 m1 m2 ml);have hm_:=tk hf Hm;clear Hm;obtain⟨m0,m1,m2,ml⟩:=l3_ hm_;have Hm:=q_ hm_;clear hm_;have Hf2:=q_ (Hf1.o.trans0 hf);clear hf hg2 Hf1 e0 e1 e2;obtain⟨g',off',he,_,e3,e4,e5⟩:=(Hl.o.fr Hf2.o).cell Hq.o;cases he;simp only at e3 e4 e5;go_wp2_with fail;refine (HOR.o _).mono ?_;rintro e w3 ⟨rfl,hg3⟩;have Hf2:=q_ (Fr.trans0 (by have:=Hf2.o;exact Fr.t) hg3.fr:Fr [] w w3);clear hg3;go_wp2;refine sT_ rfl ?_;go_wp2;go_roundw;case rel =>
          refine⟨k+1+1,by go_num,o_,fun j hj=>?_,by have:=Hf2.o;exact Fr.t⟩;rcases Nat.lt_or_ge j (k+1) with h|h
          ·exact Hk.o j h
          ·obtain rfl:j=k+1:=o_;exact HA.o.trans (by simp ;omega)
         case measure=>simp [intOf];omega
        | false =>simp only [Bool.not_false] at hcb;go_wp2;(refine wT ?_);go_wp2_with fail;refine (HAT.o _).mono ?_;rintro e w1 ⟨rfl,hg1⟩;have hf:=hg1.fr;have hm_:=(hf.block (wr.heap.size) f_' i_).trans (show _=some (.cells #[.int .i64 x,.int .i64 y,.int .i64 st] 41 (0,0)) from hpT);obtain⟨m0,m1,m2,ml⟩:=l3_ hm_;have Hm:=q_ hm_;clear hm_;have Hf1:=q_ (Fr.trans0 (by have:=Hf.o;exact Fr.t) hf:Fr [] w w1);clear hf hg1;go_wp2_with fail;refine (HPL.o _).mono ?_;rintro e w2 ⟨rfl,hg2⟩;have hf:=hg2.fr;(try clear m0 m1 m2 ml);have hm_:=tk hf Hm;clear Hm;obtain⟨m0,m1,m2,ml⟩:=l3_ hm_;have Hm:=q_ hm_;clear hm_;have Hf2:=q_ (Hf1.o.trans0 hf);clear hf hg2 Hf1 e0 e1 e2;obtain⟨g',off',he,_,e3,e4,e5⟩:=(Hl.o.fr Hf2.o).cell Hq.o;cases he;simp only at e3 e4 e5;go_wp2_with fail;refine (HOR.o _).mono ?_;rintro e w3 ⟨rfl,hg3⟩;have Hf2:=q_ (Fr.trans0 (by have:=Hf2.o;exact Fr.t) hg3.fr:Fr [] w w3);clear hg3;go_wp2;refine sT_ rfl ?_;go_wp2;go_ret;exact⟨Ag (Eb hlt (HA.o.trans (by simp ))).symm,by have:=Hf2.o;exact Fr.t⟩
   ·obtain rfl:k=l.length:=o_;go_wp2;go_ret;exact⟨Ag (rgt_true h5 Hk.o).symm,Hf.o⟩
 ·have hr:Cn l=false:=by unfold Cn;rw [decide_eq_false h5,Bool.false_and]
  rw [hr];have hd5:decide (((l.length:Nat):Int) > 5000)=true:=by simp;omega
  go_enter Tryz.func41,Tryz.ntmps41;go_wp2;go_ret;exact⟨rfl,Fr.t⟩
end Go.Proofs.YtebolidfbflkmaaGreat
namespace Go.Proofs
open Go.Shelf
def Tryz.pdqCell_ren:Go.Shelf.Ren:=⟨fun|14=>133|20=>150|21=>151|22=>152|23=>153|24=>154|25=>155|26=>156|27=>157|46=>163|47=>164|48=>165|49=>166|50=>167|15=>134|57=>168|28=>158|29=>159|n=>n,fun|24=>41|22=>26|3=>3|25=>143|4=>4|0=>0|46=>225|45=>224|50=>33|66=>234|39=>148|55=>71|70=>238|76=>240|77=>241|53=>75|5=>5|9=>9|n=>n,fun|n=>n⟩
theorem Tryz.pdqCell:Go.Proofs.SlLaysF0.n14 Tryz.prog Tryz.pdqCell_ren:={
 mixed:=by kernel_rfl
 f14:=⟨Tryz.f133.name,by decide,Tryz.func133.trans (congrArg some k_)⟩
 f15:=Tryz.func134.trans (congrArg some k_)
 f20:=⟨Tryz.f150.name,by decide,Tryz.func150.trans (congrArg some k_)⟩
 f21:=⟨Tryz.f151.name,by decide,Tryz.func151.trans (congrArg some k_)⟩
 f22:=⟨Tryz.f152.name,by decide,Tryz.func152.trans (congrArg some k_)⟩
 f23:=⟨Tryz.f153.name,by decide,Tryz.func153.trans (congrArg some k_)⟩
 f24:=⟨Tryz.f154.name,by decide,Tryz.func154.trans (congrArg some k_)⟩
 f25:=⟨Tryz.f155.name,by decide,Tryz.func155.trans (congrArg some k_)⟩
 f26:=⟨Tryz.f156.name,by decide,Tryz.func156.trans (congrArg some k_)⟩
 f27:=⟨Tryz.f157.name,by decide,Tryz.func157.trans (congrArg some k_)⟩
 f28:=Tryz.func158.trans (congrArg some k_)
 f29:=Tryz.func159.trans (congrArg some k_)
 f46:=⟨Tryz.f163.name,by decide,Tryz.func163.trans (congrArg some k_)⟩
 f47:=Tryz.func164.trans (congrArg some k_)
 f48:=Tryz.func165.trans (congrArg some k_)
 f49:=⟨Tryz.f166.name,by decide,Tryz.func166.trans (congrArg some k_)⟩
 f50:=⟨Tryz.f167.name,by decide,Tryz.func167.trans (congrArg some k_)⟩
 f57:=⟨Tryz.f168.name,by decide,Tryz.func168.trans (congrArg some k_)⟩
 t0:=Tryz.underlying0
 a0:=Tryz.isAgg0
 z0:=Tryz.sizeOf0
 v0:=Tryz.zeroValue0
 t3:=Tryz.underlying3
 a3:=Tryz.isAgg3
 z3:=Tryz.sizeOf3
 v3:=Tryz.zeroValue3
 t4:=Tryz.underlying4
 a4:=Tryz.isAgg4
 z4:=Tryz.sizeOf4
 v4:=Tryz.zeroValue4
 t5:=Tryz.underlying5
 a5:=Tryz.isAgg5
 z5:=Tryz.sizeOf5
 v5:=Tryz.zeroValue5
 t9:=Tryz.underlying9
 a9:=Tryz.isAgg9
 z9:=Tryz.sizeOf9
 v9:=Tryz.zeroValue9
 t22:=Tryz.underlying26
 a22:=Tryz.isAgg26
 z22:=Tryz.sizeOf26
 v22:=Tryz.zeroValue26
 t25:=Tryz.underlying143
 a25:=Tryz.isAgg143
 z25:=Tryz.sizeOf143
 v25:=Tryz.zeroValue143
 t39:=Tryz.underlying148
 a39:=Tryz.isAgg148
 z39:=Tryz.sizeOf148
 v39:=Tryz.zeroValue148
 t45:=Tryz.underlying224
 a45:=Tryz.isAgg224
 z45:=Tryz.sizeOf224
 v45:=Tryz.zeroValue224
 t46:=Tryz.underlying225
 a46:=Tryz.isAgg225
 z46:=Tryz.sizeOf225
 v46:=Tryz.zeroValue225
 t50:=Tryz.underlying33
 a50:=Tryz.isAgg33
 z50:=Tryz.sizeOf33
 v50:=Tryz.zeroValue33
 t53:=Tryz.underlying75
 a53:=Tryz.isAgg75
 z53:=Tryz.sizeOf75
 v53:=Tryz.zeroValue75
 t55:=Tryz.underlying71
 a55:=Tryz.isAgg71
 z55:=Tryz.sizeOf71
 v55:=Tryz.zeroValue71
 t66:=Tryz.underlying234
 a66:=Tryz.isAgg234
 z66:=Tryz.sizeOf234
 v66:=Tryz.zeroValue234
 t70:=Tryz.underlying238
 a70:=Tryz.isAgg238
 z70:=Tryz.sizeOf238
 v70:=Tryz.zeroValue238
 t76:=Tryz.underlying240
 a76:=Tryz.isAgg240
 z76:=Tryz.sizeOf240
 v76:=Tryz.zeroValue240
 t77:=Tryz.underlying241
 a77:=Tryz.isAgg241
 z77:=Tryz.sizeOf241
 v77:=Tryz.zeroValue241 }
def Tryz.lays125_ren:Go.Shelf.Ren:=⟨fun|125=>134|128=>158|129=>159|n=>n,fun|46=>148|3=>3|51=>75|53=>71|4=>4|5=>5|9=>9|n=>n,fun|n=>n⟩
theorem Tryz.lays125:Go.Proofs.Lays.n125 Tryz.prog Tryz.lays125_ren:={
 mixed:=by kernel_rfl
 f125:=Tryz.func134.trans (congrArg some k_)
 f128:=Tryz.func158.trans (congrArg some k_)
 f129:=Tryz.func159.trans (congrArg some k_)
 t3:=Tryz.underlying3
 a3:=Tryz.isAgg3
 z3:=Tryz.sizeOf3
 v3:=Tryz.zeroValue3
 t4:=Tryz.underlying4
 a4:=Tryz.isAgg4
 z4:=Tryz.sizeOf4
 v4:=Tryz.zeroValue4
 t5:=Tryz.underlying5
 a5:=Tryz.isAgg5
 z5:=Tryz.sizeOf5
 v5:=Tryz.zeroValue5
 t9:=Tryz.underlying9
 a9:=Tryz.isAgg9
 z9:=Tryz.sizeOf9
 v9:=Tryz.zeroValue9
 t46:=Tryz.underlying148
 a46:=Tryz.isAgg148
 z46:=Tryz.sizeOf148
 v46:=Tryz.zeroValue148
 t51:=Tryz.underlying75
 a51:=Tryz.isAgg75
 z51:=Tryz.sizeOf75
 v51:=Tryz.zeroValue75
 t53:=Tryz.underlying71
 a53:=Tryz.isAgg71
 z53:=Tryz.sizeOf71
 v53:=Tryz.zeroValue71 }
end Go.Proofs
namespace Go.Proofs.Pt
open Go.Sort Go.Shelf
instance:Inhabited PC:=⟨z3⟩
end Go.Proofs.Pt
namespace Go.Proofs.YtebolidfbflkmaaGreat
open Go Go.RowKit Rg Hp Pt Go.Sort Go.Shelf
def pcE (c:PC):List Value:=[.int .i64 c.x,.int .i64 c.y,.int .i64 c.st]
theorem S2 (a b:PC):ltOf Mg a b=Cf a b:=by
 unfold ltOf Mg Ga Cf;rw [Bool.eq_iff_iff];simp only [decide_eq_true_eq];by_cases h1:a.y<b.y;·simp [h1]
 ·by_cases h2:b.y<a.y;·simp [h1,h2];omega
  ·by_cases h3:a.x<b.x;·simp [h1,h2,h3];omega
   ·by_cases h4:b.x<a.x;·simp [h1,h2,h3,h4]
    ·simp [h1,h2,h3,h4]
theorem Uy:SWO (ltOf Mg) where
 irrefl x:=by rw [S2];simp [Cf]
 trans x y z h1 h2:=by rw [S2] at *;exact P7 h1 h2
 ntrans x y z h1 h2:=by rw [S2] at *;exact Qv h2 h1
variable {q:List PC}
theorem Re {t:Nat} (h:t<q.length*3):(pcs q)[t]?=some ((flatK pcE 3 q.toArray)[t]!):=by
 rw [get_flatK _ _ _ _ (by simpa using h)];have hi:t / 3<q.length:=o_
 have hq:q[t / 3]?=some q[t / 3]:=List.getElem?_eq_getElem hi;have e:q.toArray[t / 3]! = q[t / 3]:=by simp [hi]
 rw [e];obtain⟨h0,h1,h2⟩:=Ry hq;generalize q[t / 3]=c at h0 h1 h2 ⊢;have:t % 3=0∨t % 3=1∨t % 3=2:=o_
 rcases this with r|r|r<;>rw [r]
 ·rw [show t / 3*3=t by omega] at h0;exact h0
 ·rw [show t / 3*3+1=t by omega] at h1;exact h1
 ·rw [show t / 3*3+2=t by omega] at h2;exact h2
theorem put_size (c:Array Value) (d:Array Value) (off:Nat):(putCells id off d c).size=c.size:=by simp [putCells]
theorem put_take {c:Array Value} (h:q.length*3≤c.size):(putCells id 0 (flatK pcE 3 q.toArray) c).toList.take (q.length*3)=pcs q:=by
 apply List.ext_getElem?;intro t;rw [List.getElem?_take];by_cases ht:t<q.length*3;·
  rw [if_pos ht,Re ht,Array.getElem?_toList];unfold putCells;rw [Array.getElem?_mapIdx,Array.getElem?_eq_getElem o_];simp [ht]
 ·rw [if_neg ht,List.getElem?_eq_none (by rw [V9];omega)]
variable {w:World}
theorem put_heap {g:Nat} {cur:Array Value} {e:TypeId} {fr:Nat×Nat} (d:Array PC) (n:Nat) (os:Array Obj) (h:w.heap[g]?=some (.cells cur e fr)) :
  (sortWorldK pcE 3 w g 0 n d os).heap[g]?=some (.cells (putCells id 0 (flatK pcE 3 d) cur) e fr)∧Fr [g] w (sortWorldK pcE 3 w g 0 n d os):=by
 have hg:=(Array.getElem?_eq_some_iff.1 h).1;have hh:∀ k,k<w.heap.size→(sortWorldK pcE 3 w g 0 n d os).heap[k]?=(w.heap.modify g (onCells (putCells id 0 (flatK pcE 3 d))))[k]?:=by intro k hk;show ((w.heap.modify g (onCells (putCells id 0 (flatK pcE 3 d))))++os)[k]?=_;rw [Array.getElem?_append_left (by simpa using hk)]
 constructor;·
  rw [hh g hg,Array.getElem?_modify,if_pos rfl,h];rfl
 ·refine⟨rfl,rfl,rfl,?_,fun k hk hn=>?_⟩;·
   show w.heap.size≤((w.heap.modify g (onCells (putCells id 0 (flatK pcE 3 d))))++os).size;simp
  ·rw [hh k hk,Array.getElem?_modify,if_neg (by simp at hn;exact fun e=>hn e.symm)]
theorem cmpLays_p (blk off size:Nat) (w:World):CmpLays Tryz.prog 87 #[] pcE 3 Mg blk off size w :=
 fun _ _ _ _ x y=>(Vg x y _).mono fun _ _ ⟨he,hg⟩=>⟨he,hg.grow⟩
theorem sort_calls {base:Nat} {v:Value} {m:List PC} (h:w.ownsRow base 41 3 v m.length (pcs m)) (hm:m.length<4611686018427387904) :
  Calls Tryz.prog 108 #[v,.func (.func 87) #[] #[]] w fun e w'=>e=.returned (.tuple #[])∧∃ q:List PC,q.Perm m∧Ll q∧w'.ownsRow base 41 3 v q.length (pcs q)∧Fr v.ownBlock.toList w w':=by
 have eg:∀ args w,(callFunc 87 args).run Tryz.prog w=.ok (.enter 87 args) w:=enters_of Tryz.func87 k_ rfl;have hL:∀ (n:Nat) (w:World),n<4611686018427387904→Calls Tryz.prog 134 #[.int .u64 (n:Int)] w fun e w'=>e=.returned (.int .i64 (Lib.bitLen n:Nat))∧w'=w:=by intro n w hn;have h:=Any.bits_Len Tryz.lays125 (n:Int) w o_ o_;rwa [Int.toNat_natCast] at h
 have wr:∀ n:Nat,n<4611686018427387904→IntKind.u64.wrap (n:Int)=n:=by intro n hn;simp [IntKind.wrap,IntKind.bits,IntKind.signed];omega
 rcases h.2 with ⟨rfl,hn⟩|⟨g,cap,cur,rfl,hb,hg,hnc,hcm,hcs,ht⟩
 ·obtain rfl:=List.eq_nil_of_length_eq_zero hn;have hp:∀ lim:Int,Calls Tryz.prog 133 #[.slice none 0 0,.int .i64 0,.int .i64 0,.int .i64 lim,.func (.func 87) #[] #[]] w fun e w'=>e=.returned (.tuple #[])∧w'=w:=fun lim=>AnyF.pdqsortCmpFunc_none { Tryz.pdqCell with } none 0 lim (.func (.func 87) #[] #[]) w;have HP:=q_ hp;have HL:=q_ (hL 0 w o_);have HO:=q_ h;clear hp hL wr h hn hm;go_enter Tryz.func108,Tryz.ntmps108;go_wp2_with (first|(go_at_call 134;refine HL.o.mono ?_;rintro e w' ⟨rfl,rfl⟩)|(go_at_call 133;refine (HP.o _).mono ?_;rintro e w' ⟨rfl,rfl⟩));go_end0;exact⟨rfl,[],List.Perm.refl _,List.Pairwise.nil,HO.o,Fr.refl _ _⟩
 ·have hlt:=(Array.getElem?_eq_some_iff.1 hg).1;have hsz:m.length*3≤cur.size:=by rw [hcs];exact Nat.mul_le_mul_right _ hnc
  have hH:HoldsK pcE 3 w g 0 m.toArray:=by
   intro j hj;rw [size_flatK] at hj;have hj:j<m.length*3:=by simpa using hj
   rw [Nat.zero_add];have h1:=Re hj;rw [← ht,List.getElem?_take,if_pos hj,Array.getElem?_toList] at h1;exact⟨by rw [hEC hg j];exact h1,hEF hg j⟩
  have hlim:Lib.bitLen m.length<4611686018427387904:=Nat.lt_of_le_of_lt (Lib.bitLen_le m.length 62 o_ o_) o_;have hp:Calls Tryz.prog 133 #[.slice (some ⟨g,0,none⟩) m.length cap,.int .i64 0,.int .i64 m.length,.int .i64 (Lib.bitLen m.length:Nat),.func (.func 87) #[] #[]] w fun e w'=>e=.returned (.tuple #[])∧SWK pcE 3 w g 0 (pdq (ltOf Mg) m.toArray 0 m.length (Lib.bitLen m.length) true true) w' :=
   AnyQ.pdqsortCmpFunc_all Tryz.pdqCell 3 Tryz.isAgg41 Tryz.sizeOf41 pcE Mg 87 #[] Uy g 0 cap m.toArray w eg (cmpLays_p g 0 _ w) ⟨fun _=>rfl,fun x v hv=>by simp [pcE] at hv;rcases hv with rfl|rfl|rfl<;>rfl,hH,hlt⟩ (m.toArray.size+1) 0 m.length (Lib.bitLen m.length) m.toArray w i_ rfl (SWK.start hH) (Nat.zero_le _) i_ (by simpa using hm) hlim (Or.inl rfl)
  have hcon:Calls Tryz.prog 108 #[.slice (some ⟨g,0,none⟩) m.length cap,.func (.func 87) #[] #[]] w fun e w'=>e=.returned (.tuple #[])∧∃ d' n os,PermIn 0 m.toArray.size m.toArray d'∧SortedIn (ltOf Mg) 0 m.toArray.size d'∧w'=sortWorldK pcE 3 w g 0 n d' os:=by have h5:=pdq_sorts (ltOf Mg) Uy m.toArray 0 m.toArray.size (Lib.bitLen m.length) true true (Nat.zero_le _) (Nat.le_refl _) (Or.inl rfl);have H5:=q_ h5;have HP:=q_ hp;have HL:=q_ (hL m.length w hm);have hw:=wr m.length hm;clear hp hL wr h5 hH eg h hlim hsz hlt hg hcs ht hnc hcm hb;go_enter Tryz.func108,Tryz.ntmps108;go_wp2_with (first|(go_at_call 134;refine HL.o.mono ?_;rintro e w' ⟨rfl,rfl⟩)|(go_at_call 133;refine HP.o.mono ?_;rintro e w' ⟨rfl,n,os,rfl⟩));go_end0;have h6:=H5.o;rw [show m.toArray.size=m.length by simp] at h6;exact⟨rfl,_,n,os,by simpa using h6.1,by simpa using h6.2,rfl⟩
  refine Calls.mono hcon ?_;rintro e w' ⟨rfl,d',n,os,hp,hs,rfl⟩;obtain⟨p1,_,p3⟩:=hp;have hl:d'.toList.length=m.length:=by simpa using p1
  have hperm:d'.toList.Perm m:=by have:=p3;rw [Array.extract_eq_self_of_le o_,Array.extract_eq_self_of_le o_] at this;simpa using this
  obtain⟨hh,hf⟩:=put_heap (e:=41) d' n os hg;refine⟨rfl,d'.toList,hperm,?_,?_,?_⟩;·
   refine List.pairwise_iff_getElem.2 fun i j hi hj hij=>?_;have:=hs i j o_ hij (by simpa [hl] using hj);rw [S2] at this;simp only [Array.length_toList] at hi hj;rw [getElem!_pos d' i hi,getElem!_pos d' j hj] at this;simpa using this
  ·refine⟨V9 _,.inr ⟨g,cap,_,by rw [hl],hb,hh,o_,hcm,by rw [put_size,hcs],?_⟩⟩;have:=put_take (q:=d'.toList) (c:=cur) (by rw [hl];exact hsz);simpa using this
  ·exact hf.mono fun x hx=>by simp at hx;subst hx;simp [Value.ownBlock]
end Go.Proofs.YtebolidfbflkmaaGreat
namespace Go.Proofs.Pt
variable {l:List PC}{k:Nat}{c:PC}
theorem bad_here (h0:Dg (l.take k)=0) (hc:l[k]?=some c) (hb:Dg [c]≠0):Dg l=Dg [c]:=by
 have e:l=(l.take k++[c])++l.drop (k+1):=by rw [← List.take_append_drop k l,List.take_append_drop];have hk:=(List.getElem?_eq_some_iff.1 hc);obtain⟨hk,rfl⟩:=hk;rw [List.append_assoc,List.singleton_append,← List.drop_eq_getElem_cons hk,List.take_append_drop]
 have h1:Dg (l.take k++[c])=Dg [c]:=by rw [Nj,h0];simp
 rw [e,badP_app (by rw [h1];exact hb),h1]
theorem bad_next (h0:Dg (l.take k)=0) (hc:l[k]?=some c) (hb:Dg [c]=0):Dg (l.take (k+1))=0:=by rw [List.take_add_one,hc];show Dg (l.take k++[c])=0;rw [Nj,h0];simpa using hb
theorem some_next (hc:l[k]?=some c):Ez (l.take (k+1))=Ez (l.take k)++if c.st≠0 then [c] else []:=by rw [List.take_add_one,hc];show Ez (l.take k++[c])=_;unfold Ez;rw [List.filter_append];by_cases h:c.st=0<;>simp [h]
theorem N9 (h:Dg l≠0):Ky l=([],Dg l):=by unfold Ky;rw [if_pos h]
variable {q:List PC}{i:Nat}
theorem Sq (hw:Ll q) (hi:i+1<q.length):Cp (q.getD i z3) (q.getD (i+1) z3)=!Cf (q.getD i z3) (q.getD (i+1) z3):=by apply Nm;have:=List.pairwise_iff_getElem.1 hw i (i+1) o_ hi o_;rw [List.getD_eq_getElem?_getD,List.getD_eq_getElem?_getD,List.getElem?_eq_getElem hi,List.getElem?_eq_getElem o_];exact this
theorem weak_twice (hw:Ll q) (hi:i+1<q.length) (h:Cp (q.getD i z3) (q.getD (i+1) z3)=true):Al q=false:=by
 rw [Sq hw hi] at h;cases hs:Al q with
 | false=>rfl
 | true=>rw [Mw hs hi] at h;cases h
theorem weak_once (hw:Ll q) (h:∀ i,i+1<q.length→Cp (q.getD i z3) (q.getD (i+1) z3)=false):Al q=true :=
 Mv fun i hi=>by have:=h i hi;rw [Sq hw hi] at this;simpa using this
end Go.Proofs.Pt
namespace Go.Proofs.YtebolidfbflkmaaGreat
open Go Go.RowKit Rg Hp Pt
theorem info_cell:(Tryz.prog.info? 41).map (fun i=>(i.zero,i.size,i.bytes))=some (some (.agg #[.int .i64 0,.int .i64 0,.int .i64 0]),3,24):=by kernel_rfl
variable {ops:Array Oper}{rest:List Oper}{o:Oper}{a:Act}{W:World}{Q:Exit→Act→World→Prop}{base n nb c:Nat}{v:Value}{xs:List Value}
theorem Rk (hgd:o.guard=none) {s x:Operand} {t1:TypeId} (ho:o.op=.call { callee:=.builtin .append,args:=#[s,x],argTypes:=#[t1,t1] }) (ht:Tryz.prog.underlying t1=some (.slice 41))
 (hs:a.eval s=v) (hown:W.ownsRow base 41 3 v n xs) {y:PC} (hx:a.eval x=.slice (some ⟨nb,0,none⟩) 1 c)
  (hnb:W.heap[nb]?=some (.cells #[.int .i64 y.x,.int .i64 y.y,.int .i64 y.st] 41 (0,0))) (hn:n≤4000000000000) (hbase:base≤W.heap.size)
  (h:∀ g cap w',w'.ownsRow base 41 3 (.slice (some ⟨g,0,none⟩) (n+1) cap) (n+1) (xs++[.int .i64 y.x,.int .i64 y.y,.int .i64 y.st])→(∀ b,b<W.heap.size→v.ownBlock≠some b→w'.heap[b]?=W.heap[b]?)→Fr v.ownBlock.toList W w'→(v.ownBlock=some g∨g=W.heap.size)→g<w'.heap.size →
   wpList Tryz.prog ops Q rest (a.put o.dst (.slice (some ⟨g,0,none⟩) (n+1) cap)) w'):wpList Tryz.prog ops Q (o::rest) a W :=
 Lk hgd ho ht info_cell rfl (by decide) hs hown hx (news:=[.int .i64 y.x,.int .i64 y.y,.int .i64 y.st]) hnb rfl (by intro u hu;simp at hu;rcases hu with rfl|rfl|rfl<;>rfl) (by unfold maxLen;omega) o_ hbase h
theorem Ta (l:List PC) (c:PC):pcs l++[.int .i64 c.x,.int .i64 c.y,.int .i64 c.st]=pcs (l++[c]):=by simp [pcs]
theorem append_pp (hgd:o.guard=none) {s x:Operand} (ho:o.op=.call { callee:=.builtin .append,args:=#[s,x],argTypes:=#[27,27] })
 (hs:a.eval s=v) (hown:W.ownsRow base 41 3 v n xs) {y:PC} (hx:a.eval x=.slice (some ⟨nb,0,none⟩) 1 c)
  (hnb:W.heap[nb]?=some (.cells #[.int .i64 y.x,.int .i64 y.y,.int .i64 y.st] 41 (0,0))) (hn:n≤4000000000000) (hbase:base≤W.heap.size)
  (h:∀ g cap w',w'.ownsRow base 41 3 (.slice (some ⟨g,0,none⟩) (n+1) cap) (n+1) (xs++[.int .i64 y.x,.int .i64 y.y,.int .i64 y.st])→(∀ b,b<W.heap.size→v.ownBlock≠some b→w'.heap[b]?=W.heap[b]?)→Fr v.ownBlock.toList W w'→(v.ownBlock=some g∨g=W.heap.size)→g<w'.heap.size →
   wpList Tryz.prog ops Q rest (a.put o.dst (.slice (some ⟨g,0,none⟩) (n+1) cap)) w'):wpList Tryz.prog ops Q (o::rest) a W :=
 Rk hgd ho Tryz.underlying27 hs hown hx hnb hn hbase h
def Ff (w:World) (l:List PC) (e:Ending) (w':World):Prop :=
 ∃ v,e=.returned (.tuple #[v,.int .i64 (Ky l).2])∧w'.ownsRow w.heap.size 41 3 v (Ky l).1.length (pcs (Ky l).1)∧Fr [] w w'
theorem Ee (w:World) (base e size:Nat):w.ownsRow base e size (.slice none 0 0) 0 []:=⟨i_,.inl ⟨rfl,rfl⟩⟩
theorem PFrom_calls {w:World} {l:List PC} {a:Option Addr} (hl:CellsAt w (.slice a l.length c) l) (hlen:l.length≤60000) :
  Calls Tryz.prog 64 #[.slice a l.length c] w (Ff w l):=by
 have Hl:=q_ hl;have HLEN:=q_ hlen;clear hl;go_enter Tryz.func64,Tryz.ntmps64;go_wp2;go_loopw [4,10] (fun x4 x wr=>∃ k:Nat,x=.int .i64 k∧k≤l.length∧Dg (l.take k)=0∧Fr [] w wr∧wr.ownsRow w.heap.size 41 3 x4 (Ez (l.take k)).length (pcs (Ez (l.take k)))) (fun _ x _=>l.length - (intOf x).toNat);case atStart=>exact⟨0,rfl,o_,rfl,Fr.refl _ _,Ee _ _ _ _⟩
 case round =>
  obtain⟨k,rfl,hk,hb,hf,ho⟩:=hrel;have Hb:=q_ hb;have Hf:=q_ hf;have Ho:=q_ ho;clear hb hf ho;by_cases hlt:k<l.length;·
   obtain⟨⟨x,y,st⟩,hp⟩:∃ p,l[k]?=some p:=⟨_,List.getElem?_eq_getElem hlt⟩;obtain⟨g,off,rfl,hg,e0,e1,e2⟩:=(Hl.o.fr Hf.o).cell hp;simp only at e0 e1 e2;have HAT:=q_ (Xc ⟨x,y,st⟩);have HPL:=q_ (T9 ⟨x,y,st⟩);unfold pcV at HAT;simp only at HAT HPL;have HX:=q_ (And.intro (bad_here Hb.o hp) (And.intro (bad_next Hb.o hp) (some_next hp)));have hsl:(Ez (l.take k)).length≤k:=Nat.le_trans (List.length_filter_le _ _) u_';have HSL:=q_ hsl;clear hp hsl;simp only [Dg] at HX;generalize Ir x y=pl at HX HPL;cases pl with
   | false =>have HR:=q_ (N9 (l:=l) (by rw [HX.o.1 i_];simp));have HR2:=q_ (HX.o.1 i_);go_wp2_with fail;refine (HAT.o _).mono ?_;rintro e w1 ⟨rfl,hg1⟩;have hf:=hg1.fr;have hm_:=(hf.block (wr.heap.size) f_' i_).trans (show _=some (.cells #[.int .i64 x,.int .i64 y,.int .i64 st] 41 (0,0)) from hpT);obtain⟨m0,m1,m2,ml⟩:=l3_ hm_;have Hm:=q_ hm_;clear hm_;have Hf1:=q_ (Fr.trans0 (by have:=Hf.o;exact Fr.t) hf:Fr [] w w1);have Ho1:=q_ (oOB (w':=w1) Ho.o fun g hg=>(hf.block g (by have:=oLT Ho.o hg;simp;omega) i_).trans (by have:=oLT Ho.o hg;(repeat first|rw [if_pos o_]|rw [if_neg o_]|rw [hDR]|rw [hDN]|rw [hAz]|rw [hSz]|rw [hAC]|rw [hSC]|rw [oMS]|rw [uPC]|rw [lSZ]|rw [lSS]|rfl)));clear hf hg1;go_wp2_with fail;refine (HPL.o _).mono ?_;rintro e w2 ⟨rfl,hg2⟩;have hf:=hg2.fr;(try clear m0 m1 m2 ml);have hm_:=tk hf Hm;clear Hm;obtain⟨m0,m1,m2,ml⟩:=l3_ hm_;have Hm:=q_ hm_;clear hm_;have Hf2:=q_ (Hf1.o.trans0 hf);have Ho2:=q_ (oOB (w':=w2) Ho1.o fun g hg=>hf.block g (oLT Ho1.o hg) i_);clear hf hg2 Hf1 e0 e1 e2 Ho1;go_wp2;go_ret2;unfold Ff;rw [HR.o,HR2.o];exact⟨_,rfl,Ee _ _ _ _,Hf2.o⟩
   | true =>
    by_cases h0:st<0;·
     have hd:decide (st<0)=true:=(by simpa using h0);have HR:=q_ (N9 (l:=l) (by rw [HX.o.1 (by simp [h0])];simp [h0]));have HR2:=q_ (HX.o.1 (by simp [h0]));go_wp2_with fail;refine (HAT.o _).mono ?_;rintro e w1 ⟨rfl,hg1⟩;have hf:=hg1.fr;have hm_:=(hf.block (wr.heap.size) f_' i_).trans (show _=some (.cells #[.int .i64 x,.int .i64 y,.int .i64 st] 41 (0,0)) from hpT);obtain⟨m0,m1,m2,ml⟩:=l3_ hm_;have Hm:=q_ hm_;clear hm_;have Hf1:=q_ (Fr.trans0 (by have:=Hf.o;exact Fr.t) hf:Fr [] w w1);have Ho1:=q_ (oOB (w':=w1) Ho.o fun g hg=>(hf.block g (by have:=oLT Ho.o hg;simp;omega) i_).trans (by have:=oLT Ho.o hg;(repeat first|rw [if_pos o_]|rw [if_neg o_]|rw [hDR]|rw [hDN]|rw [hAz]|rw [hSz]|rw [hAC]|rw [hSC]|rw [oMS]|rw [uPC]|rw [lSZ]|rw [lSS]|rfl)));clear hf hg1;go_wp2_with fail;refine (HPL.o _).mono ?_;rintro e w2 ⟨rfl,hg2⟩;have hf:=hg2.fr;(try clear m0 m1 m2 ml);have hm_:=tk hf Hm;clear Hm;obtain⟨m0,m1,m2,ml⟩:=l3_ hm_;have Hm:=q_ hm_;clear hm_;have Hf2:=q_ (Hf1.o.trans0 hf);have Ho2:=q_ (oOB (w':=w2) Ho1.o fun g hg=>hf.block g (oLT Ho1.o hg) i_);clear hf hg2 Hf1 e0 e1 e2 Ho1;go_wp2;go_ret2;unfold Ff;rw [HR.o,HR2.o];simp only [h0,true_or,if_true,Bool.true_eq_false,if_false];exact⟨_,rfl,Ee _ _ _ _,Hf2.o⟩
    ·have hd:decide (st<0)=false:=(by simpa using h0);by_cases h8:st ≥ 8;·
      have hd8:decide (st ≥ 8)=true:=(by simpa using h8);have h8':8≤st:=h8;have HR:=q_ (N9 (l:=l) (by rw [HX.o.1 (by simp [h8'])];simp [h8']));have HR2:=q_ (HX.o.1 (by simp [h8']));go_wp2_with fail;refine (HAT.o _).mono ?_;rintro e w1 ⟨rfl,hg1⟩;have hf:=hg1.fr;have hm_:=(hf.block (wr.heap.size) f_' i_).trans (show _=some (.cells #[.int .i64 x,.int .i64 y,.int .i64 st] 41 (0,0)) from hpT);obtain⟨m0,m1,m2,ml⟩:=l3_ hm_;have Hm:=q_ hm_;clear hm_;have Hf1:=q_ (Fr.trans0 (by have:=Hf.o;exact Fr.t) hf:Fr [] w w1);have Ho1:=q_ (oOB (w':=w1) Ho.o fun g hg=>(hf.block g (by have:=oLT Ho.o hg;simp;omega) i_).trans (by have:=oLT Ho.o hg;(repeat first|rw [if_pos o_]|rw [if_neg o_]|rw [hDR]|rw [hDN]|rw [hAz]|rw [hSz]|rw [hAC]|rw [hSC]|rw [oMS]|rw [uPC]|rw [lSZ]|rw [lSS]|rfl)));clear hf hg1;go_wp2_with fail;refine (HPL.o _).mono ?_;rintro e w2 ⟨rfl,hg2⟩;have hf:=hg2.fr;(try clear m0 m1 m2 ml);have hm_:=tk hf Hm;clear Hm;obtain⟨m0,m1,m2,ml⟩:=l3_ hm_;have Hm:=q_ hm_;clear hm_;have Hf2:=q_ (Hf1.o.trans0 hf);have Ho2:=q_ (oOB (w':=w2) Ho1.o fun g hg=>hf.block g (oLT Ho1.o hg) i_);clear hf hg2 Hf1 e0 e1 e2 Ho1;go_wp2;go_ret2;unfold Ff;rw [HR.o,HR2.o];simp only [h8',or_true,if_true,Bool.true_eq_false,if_false];exact⟨_,rfl,Ee _ _ _ _,Hf2.o⟩
     ·have hd8:decide (st ≥ 8)=false:=(by simpa using h8);have hbz:¬ (st<0∨8≤st):=o_;simp only [hbz,if_false,Bool.true_eq_false] at HX;by_cases hs:st > 0;·
       have hds:decide (st > 0)=true:=(by simpa using hs);have hst:st≠0:=o_;simp only [hst,ne_eq,not_false_eq_true,if_true] at HX;go_wp2_with fail;refine (HAT.o _).mono ?_;rintro e w1 ⟨rfl,hg1⟩;have hf:=hg1.fr;have hm_:=(hf.block (wr.heap.size) f_' i_).trans (show _=some (.cells #[.int .i64 x,.int .i64 y,.int .i64 st] 41 (0,0)) from hpT);obtain⟨m0,m1,m2,ml⟩:=l3_ hm_;have Hm:=q_ hm_;clear hm_;have Hf1:=q_ (Fr.trans0 (by have:=Hf.o;exact Fr.t) hf:Fr [] w w1);have Ho1:=q_ (oOB (w':=w1) Ho.o fun g hg=>(hf.block g (by have:=oLT Ho.o hg;simp;omega) i_).trans (by have:=oLT Ho.o hg;(repeat first|rw [if_pos o_]|rw [if_neg o_]|rw [hDR]|rw [hDN]|rw [hAz]|rw [hSz]|rw [hAC]|rw [hSC]|rw [oMS]|rw [uPC]|rw [lSZ]|rw [lSS]|rfl)));clear hf hg1;go_wp2_with fail;refine (HPL.o _).mono ?_;rintro e w2 ⟨rfl,hg2⟩;have hf:=hg2.fr;(try clear m0 m1 m2 ml);have hm_:=tk hf Hm;clear Hm;obtain⟨m0,m1,m2,ml⟩:=l3_ hm_;have Hm:=q_ hm_;clear hm_;have Hf2:=q_ (Hf1.o.trans0 hf);have Ho2:=q_ (oOB (w':=w2) Ho1.o fun g hg=>hf.block g (oLT Ho1.o hg) i_);clear hf hg2 Hf1 e0 e1 e2 Ho1;go_wp2_with (at_builtin;refine append_pp (n:=(Ez (l.take k)).length) (base:=w.heap.size) (xs:=(pcs (Ez (l.take k)))) (y:=(⟨x,y,st⟩:PC)) rfl rfl rfl ?e1 rfl ?e2 ?e3 ?e4 ?_);case e1=>exact oOB Ho2.o fun y hy=>hAE _ _ _ (oLT Ho2.o hy)
       case e2=>first|(first|(rw [hAC,if_pos rfl];done)|exact (Array.getElem?_eq_some_iff.1 ((hAC _ _ _).trans (if_pos rfl))).2|(simp only [hDR,hDN];rw [hAC,if_pos rfl];done))|(repeat first|rw [if_pos o_]|rw [if_neg o_]|rw [hDR]|rw [hDN]|rw [hAz]|rw [hSz]|rw [hAC]|rw [hSC]|rw [oMS]|rw [uPC]|rw [lSZ]|rw [lSS]|rfl)
       case e3=>(have:=HSL.o;have:=HLEN.o;omega)
       case e4=>have:=Hf2.o.size;(first|omega|(simp only [hDR,hDN,hAz];omega)|(simp;omega))
       intro g2 cap w9 hown1 hW1 hF1 hloc1 hg1;rw [(Ta _ ⟨x,y,st⟩)] at hown1;have Hown1:=q_ hown1;have Hf9:=q_ (Bs Hf2.o Ho2.o hF1);clear hown1 hW1 hF1 hloc1;go_wp2;go_roundw;case rel =>refine⟨k+1,by go_num,o_,HX.o.2.1 i_,Hf9.o,?_⟩;rw [HX.o.2.2,List.length_append];exact Hown1.o
       case measure=>simp [intOf];omega
      ·have hst0:st=0:=o_;have hds:decide (st > 0)=false:=(by simpa using hs);simp only [hst0,ne_eq,not_true_eq_false,if_false,List.append_nil] at HX;clear hst0;go_wp2_with fail;refine (HAT.o _).mono ?_;rintro e w1 ⟨rfl,hg1⟩;have hf:=hg1.fr;have hm_:=(hf.block (wr.heap.size) f_' i_).trans (show _=some (.cells #[.int .i64 x,.int .i64 y,.int .i64 st] 41 (0,0)) from hpT);obtain⟨m0,m1,m2,ml⟩:=l3_ hm_;have Hm:=q_ hm_;clear hm_;have Hf1:=q_ (Fr.trans0 (by have:=Hf.o;exact Fr.t) hf:Fr [] w w1);have Ho1:=q_ (oOB (w':=w1) Ho.o fun g hg=>(hf.block g (by have:=oLT Ho.o hg;simp;omega) i_).trans (by have:=oLT Ho.o hg;(repeat first|rw [if_pos o_]|rw [if_neg o_]|rw [hDR]|rw [hDN]|rw [hAz]|rw [hSz]|rw [hAC]|rw [hSC]|rw [oMS]|rw [uPC]|rw [lSZ]|rw [lSS]|rfl)));clear hf hg1;go_wp2_with fail;refine (HPL.o _).mono ?_;rintro e w2 ⟨rfl,hg2⟩;have hf:=hg2.fr;(try clear m0 m1 m2 ml);have hm_:=tk hf Hm;clear Hm;obtain⟨m0,m1,m2,ml⟩:=l3_ hm_;have Hm:=q_ hm_;clear hm_;have Hf2:=q_ (Hf1.o.trans0 hf);have Ho2:=q_ (oOB (w':=w2) Ho1.o fun g hg=>hf.block g (oLT Ho1.o hg) i_);clear hf hg2 Hf1 e0 e1 e2 Ho1;go_wp2;go_roundw;case rel =>refine⟨k+1,by go_num,o_,HX.o.2.1 i_,Hf2.o,?_⟩;rw [HX.o.2.2];exact Ho2.o
       case measure=>simp [intOf];omega
  ·obtain rfl:k=l.length:=o_;rw [List.take_length] at Ho Hb;have hbl:Dg l=0:=Hb.o;have hml:(Ez l).length≤l.length:=List.length_filter_le _ _;go_wp2_with fail;refine (sort_calls Ho.o (by have:=HLEN.o;omega)).mono ?_;rintro e w5 ⟨rfl,q,hperm,hweak,hown,hf⟩;have hfr:Fr [] w w5:=Hf.o.trans hf fun x hx=>.inr (B7 Ho.o (by simpa using hx));obtain⟨_,a5,c5,rfl,_⟩:=Reads.of_owns hown;have hfrom:=U4 hbl hweak hperm;have hql:q.length≤60000:=(by have:=hperm.length_eq;have:=HLEN.o;omega);have HFP:=q_ hfrom
   have HW:=q_ hweak;have HO5:=q_ hown;have Hf5:=q_ hfr;clear hbl hml hperm hweak hown hf hfr hfrom Ho Hb Hf hk hlt;go_wp2;go_loopw [7] (fun x wr=>∃ i:Nat,x=.int .i64 ((i:Int)+1)∧i≤q.length∧(i=0∨i+1≤q.length)∧(∀ j,j<i→Cp (q.getD j z3) (q.getD (j+1) z3)=false)∧Fr [] w5 wr) (fun x _=>q.length+1 - (intOf x).toNat);case atStart=>exact⟨0,i_,o_,.inl rfl,o_,Fr.refl _ _⟩
   case round =>
    obtain⟨i,rfl,hi,hi2,hn,hf⟩:=hrel;have Hf:=q_ hf;have Hn:=q_ hn;clear hf hn;by_cases hlt:i+1<q.length;·
     have hd:decide ((i:Int)+1<(q.length:Int))=true:=u_';obtain⟨⟨x,y,st⟩,hp⟩:∃ p,q[i]?=some p:=⟨_,List.getElem?_eq_getElem o_⟩;obtain⟨⟨u,v,su⟩,hq⟩:∃ p,q[i+1]?=some p:=⟨_,List.getElem?_eq_getElem hlt⟩;have hra:∀ w1,Fr [] w5 w1→CellsAt w1 (.slice a5 q.length c5) q:=fun w1 h=>CellsAt.fr (Reads.of_owns HO5.o) h;have HRA:=q_ hra;obtain⟨g,off,rfl,hg,e0,e1,e2⟩:=(hra _ Hf.o).cell hp;obtain⟨g',off',he,_,e3,e4,e5⟩:=(hra _ Hf.o).cell hq;cases he;simp only at e0 e1 e2 e3 e4 e5;have hAX:=Xc ⟨x,y,st⟩;have hAU:=Xc ⟨u,v,su⟩;unfold pcV at hAX hAU;have HAX:=q_ hAX;have HAU:=q_ hAU;have hsp:Cp (q.getD i z3) (q.getD (i+1) z3)=(x == u && y == v):=by rw [List.getD_eq_getElem?_getD,hp,List.getD_eq_getElem?_getD,hq];unfold Cp;rw [Bool.eq_iff_iff];simp
     have HSP:=q_ hsp;have Hq:=q_ hq;clear hp hq hsp hra hAX hAU;go_wp2;refine wS [([0,1,2,3,4,6,7,8,9,5],[9]),([10,11],[])] ?_;(simp only [A2,pick,aq_,bq_,cq_,dq_,eq_]);go_wp2_with fail;refine (HAX.o _).mono ?_;rintro e w6 ⟨rfl,hg6⟩;have hf6:=Hf.o.trans0 (Fr.trans0 (Fr.t) hg6.fr);have Hf6:=q_ hf6;clear hf6 hg6 e0 e1 e2 e3 e4 e5;obtain⟨g',off',he,_,e3,e4,e5⟩:=(HRA.o _ Hf6.o).cell Hq.o;cases he;simp only at e3 e4 e5;go_wp2;refine mD_ ⟨⟨aGR (T:=41) (cs:=[.int .i64 u,.int .i64 v,.int .i64 su]) rfl rfl rfl Tryz.underlying41 rfl k_ (fun j v hj=>?rng) rfl,trivial⟩,?_⟩;case rng =>
      rcases j with _|_|_|j
      ·simp only [List.getElem?_cons_zero,Option.some.injEq] at hj;subst hj;exact e3
      ·simp only [List.getElem?_cons_zero,List.getElem?_cons_succ,Option.some.injEq] at hj;subst hj;exact e4
      ·simp only [List.getElem?_cons_zero,List.getElem?_cons_succ,Option.some.injEq] at hj;subst hj;exact e5
      ·simp at hj
     go_wp2_with fail;refine (HAU.o _).mono ?_;rintro e w7 ⟨rfl,hg7⟩;have Hf7:=q_ (Hf6.o.trans0 hg7.fr);clear hg7 e3 e4 e5;by_cases hx:x=u;·
      subst hx;by_cases hy:y=v;·
       subst hy;have HT:=q_ (weak_twice HW.o hlt (HSP.o.trans i_));have hfrom:=HFP.o;rw [HT.o] at hfrom
       simp only [if_true] at hfrom
       have HFQ:=q_ hfrom
       clear hfrom
       go_wp2;refine mD_ ⟨trivial,sT_ rfl ?_⟩;go_wp2;go_ret2;unfold Ff;rw [HFQ.o];exact⟨_,rfl,Ee _ _ _ _,Hf5.o.trans0 Hf7.o⟩
      ·have hyb:(y == v)=false:=(by simpa using hy);have HSF:=q_ (HSP.o.trans (show (x == x && y == v)=false by simp [hy]));clear hy;go_wp2;refine mD_ ⟨trivial,sT_ rfl ?_⟩;go_wp2;go_roundw;case rel =>
        refine⟨i+1,by go_num,o_,.inr o_,fun j hj=>?_,Hf7.o⟩;rcases Nat.lt_or_ge j i with h|h
        ·exact Hn.o j h
        ·obtain rfl:j=i:=o_;exact HSF.o
       case measure=>simp [intOf];omega
     ·have hxb:(x == u)=false:=(by simpa using hx);have HSF:=q_ (HSP.o.trans (show (x == u && y == v)=false by simp [hx]));clear hx;go_wp2;refine mD_ ⟨trivial,sT_ rfl ?_⟩;go_wp2;go_roundw;case rel =>
       refine⟨i+1,by go_num,o_,.inr o_,fun j hj=>?_,Hf7.o⟩;rcases Nat.lt_or_ge j i with h|h
       ·exact Hn.o j h
       ·obtain rfl:j=i:=o_;exact HSF.o
      case measure=>simp [intOf];omega
    ·have hd:decide ((i:Int)+1<(q.length:Int))=false:=u_';have hst:=weak_once HW.o (fun j hj=>Hn.o j o_);have hfrom:=HFP.o;rw [hst] at hfrom
     simp only [Bool.true_eq_false,if_false] at hfrom
     by_cases h5:5000<q.length;·
      have hd5:decide ((q.length:Int) > 5000)=true:=u_';rw [if_pos h5] at hfrom
      have HFQ:=q_ hfrom
      clear hfrom hst;go_wp2;go_ret2;unfold Ff;rw [HFQ.o];exact⟨_,rfl,Ee _ _ _ _,Hf5.o.trans0 Hf.o⟩
     ·have hd5:decide ((q.length:Int) > 5000)=false:=u_';rw [if_neg h5] at hfrom
      have HFQ:=q_ hfrom
      clear hfrom hst;go_wp2;go_ret2;unfold Ff;rw [HFQ.o];exact⟨_,rfl,oOB HO5.o fun g hg=>Hf.o.block g (oLT HO5.o hg) i_,Hf5.o.trans0 Hf.o⟩
open Mp Qs Ev Bn Uni
theorem Ih:∀ t:Tr,El t=decide (B0 t=0)
 | .leaf v=>by unfold El B0;by_cases h:v=0<;>simp [h]
 | .node a b c d=>by unfold El B0;rw [Ih a,Ih b,Ih c,Ih d,Bool.eq_iff_iff];simp only [Bool.and_eq_true,decide_eq_true_eq];omega
structure VW where
 b:Nat
 rb:Nat
 vb:Nat
 s:Int
 ns:List K4
 x0:Value
 x1:Value
 y0:Value
 y1:Value
 bx:VB
def vcA (V:VW) (v:Value):Array Value:=#[.pointer (some ⟨V.b,0,none⟩),V.x0,V.x1,V.y0,V.y1,.int .i64 V.bx.w,.int .i64 V.bx.h,v,.map (some V.rb)]
theorem vcA_ok (V:VW) (v:Value):Xe V.b V.rb (vcA V v):=⟨rfl,rfl⟩
def vsL (V:VW) (mm:List (Int×Bool)) (v:Value) (C:List PC) (Ps:List Res):List Res :=
 viL V.b V.rb V.vb V.s V.ns (vcA V v) mm (Hp.row 41 3 v C.length (pcs C)::Ps)
def Rm (W:World) (V:VW) (C D:List PC) (Ps:List Res) (e:Ending) (w':World):Prop :=
 e=.returned (.tuple #[])∧∃ v' mm',Has W w' (vsL V mm' v' (C++D) Ps)∧BInv V.s V.ns mm'
def Fg (n:Nat) (X:Int):Prop:=-p2 200≤X∧X+p2 n≤p2 201
structure VOk (W:World) (V:VW) (Q:List Res):Prop where
 x:bZ_ W Q (.agg #[V.x0,V.x1]) V.bx.x
 y:bZ_ W Q (.agg #[V.y0,V.y1]) V.bx.y
 nx:∀ b n c,Value.agg #[V.x0,V.x1]=.agg #[b,.slice none n c]→c=0
 ny:∀ b n c,Value.agg #[V.y0,V.y1]=.agg #[b,.slice none n c]→c=0
 zx:-p2 201≤V.bx.x∧V.bx.x≤p2 200
 zy:-p2 201≤V.bx.y∧V.bx.y≤p2 200
 w:1≤V.bx.w∧V.bx.w≤256
 h:1≤V.bx.h∧V.bx.h≤256
def Oo (W:World) (V:VW) (Q:List Res) (n:Nat):Prop :=
 ∀ (w:World) (Ps:List Res) (mm:List (Int×Bool)) (v:Value) (C:List PC) (id:Int) (t:Tr) (X Y:Int) (vx vy:Value),Has W w (vsL V mm v C Ps)→(∀ P∈Q,P∈Ps)→BInv V.s V.ns mm→Is V.s V.ns n id t→bZ_ W Ps vx X→bZ_ W Ps vy Y→Fg n X→Fg n Y→C.length+(Bt V.bx n t X Y).length≤4000000 →
  Calls Tryz.prog 63 #[.pointer (some ⟨V.vb,0,none⟩),.int .i64 id,.int .i64 (n:Int),vx,vy] w (Rm W V C (Bt V.bx n t X Y) Ps)
theorem It:p2 201=p2 200+p2 200:=Ac 200
theorem Jo:p2 202=p2 200+p2 200+(p2 200+p2 200):=by rw [show p2 202=p2 201+p2 201 from Ac 201,It]
theorem Cg {z:Int} (h:-p2 202≤z∧z≤p2 202):Zok z:=by have h1:Zok (p2 202):=Bh (n:=202) o_;exact E7 h1 o_
theorem P8:256≤p2 200:=by show (256:Int)≤((2 ^ 200:Nat):Int);exact Int.ofNat_le.2 (Nat.pow_le_pow_right (n:=2) o_ (show 8≤200 by omega))
variable {Ps:List Res}
theorem K6 {Qs:List Res} {x:Int} (h:bZ_ W Ps v x) (hs:∀ P∈Ps,P∈Qs):bZ_ W Qs v x:=fun w Rs hw hm=>h w Rs hw fun P hP=>hm P (hs P hP)
theorem Ae {V:VW} {mm:List (Int×Bool)} {C:List PC} {P:Res} (h:P∈Ps):P∈vsL V mm v C Ps:=by simp [vsL,viL,h]
theorem On {Q:List Res} (hn:n≤201) {vx vb:Value} {X b wd:Int} (hx:bZ_ W Ps vx X) (hb:bZ_ W Q vb b) (hX:Fg n X) (hzb:-p2 201≤b∧b≤p2 200) (hw:1≤wd∧wd≤256) {w:World} {Rs:List Res} (h:Has W w Rs) (h1:∀ P∈Ps,P∈Rs) (h2:∀ P∈Q,P∈Rs) {A:Nat→Prop} {vs:Value} (hs:BigZ w A vs (p2 n)) :
  Calls Tryz.prog 105 #[vx,vs,vb,.int .i64 wd] w fun e w'=>e=.returned (.bool (Gb X (p2 n) b wd))∧Fr [] w w':=by
 have e1:=It;have e2:=Jo;have hp:=P8;have hpn:=C2 n;have hpl:p2 n≤p2 201:=Te hn;unfold Fg at hX;exact apart_z (hx w Rs h h1) hs (hb w Rs h h2) (Cg o_) (Cg o_) (Cg o_) (Cg o_) o_ o_ (Cg o_)
end Go.Proofs.YtebolidfbflkmaaGreat
namespace Go.Proofs.Hp
open Go Go.RowKit
theorem hAP {W w w9:World} {Ps:List Res} {T size n n' g:Nat} {v v':Value} {xs xs':List Value} (h:Has W w (Hp.row T size v n xs::Ps)) (hown:w9.ownsRow 0 T size v' n' xs') (hv:v'.ownBlock=some g) (hf:Fr v.ownBlock.toList w w9) (hg:v.ownBlock=some g∨w.heap.size≤g):Has W w9 (Hp.row T size v' n' xs'::Ps) :=
 h.turn fun F ⟨h1,h2⟩=>⟨[g],⟨hown,by rw [hv];rfl⟩,by rw [h2];exact hf,fun x hx=>by
  simp only [List.mem_singleton] at hx
  subst hx
  rcases hg with hg|hg
  ·left;rw [h2,hg];simp
  ·right;exact hg⟩
end Go.Proofs.Hp
namespace Go.Proofs.YtebolidfbflkmaaGreat
open Go Go.RowKit Rg Mp Hp Qs Ev Bn Uni Pt
theorem I9 {v:VB}:∀ {n:Nat} {t:Tr} {x y:Int},Dn v n t x y=true→Bt v n t x y=[]
 | 0,t,x,y,h=>by unfold Bt;rw [if_pos h]
 | n+1,t,x,y,h=>by unfold Bt;rw [if_pos h]
variable {W:World}{V:VW}
theorem Af {w:World} {mm:List (Int×Bool)} {v:Value} {C:List PC} {Qs:List Res} (h:Has W w (vsL V mm v C Qs)) {o:Nat} {xs ys:Bool} {xa ya:Option Addr} {xn xc yn yc:Nat} (hx:Hp.blk o (.cells #[.bool xs,.slice xa xn xc] 30 (0,0))∈Qs) (hy:Hp.blk (o+1) (.cells #[.bool ys,.slice ya yn yc] 30 (0,0))∈Qs) :
  w.cell? ⟨o,0,none⟩=some (.bool xs)∧w.cell? ⟨o,1,none⟩=some (.slice xa xn xc)∧o<w.heap.size∧w.cell? ⟨o+1,0,none⟩=some (.bool ys)∧w.cell? ⟨o+1,1,none⟩=some (.slice ya yn yc)∧o+1<w.heap.size ∧
  w.cell? ⟨V.vb,0,none⟩=some (.pointer (some ⟨V.b,0,none⟩))∧w.cell? ⟨V.vb,1,none⟩=some V.x0∧w.cell? ⟨V.vb,2,none⟩=some V.x1∧w.cell? ⟨V.vb,3,none⟩=some V.y0∧w.cell? ⟨V.vb,4,none⟩=some V.y1∧w.cell? ⟨V.vb,5,none⟩=some (.int .i64 V.bx.w)∧w.cell? ⟨V.vb,6,none⟩=some (.int .i64 V.bx.h)∧w.cell? ⟨V.vb,7,none⟩=some v∧V.vb<w.heap.size ∧
  Hid (w.heap[o]?=some (.cells #[.bool xs,.slice xa xn xc] 30 (0,0)))∧Hid (w.heap[o+1]?=some (.cells #[.bool ys,.slice ya yn yc] 30 (0,0)))∧Hid (w.heap[V.vb]?=some (.cells (vcA V v) 108 (0,0))):=by
 have hx_:=A5 h (Ae hx);have hy_:=A5 h (Ae hy);have hv_:w.heap[V.vb]?=some (.cells (vcA V v) 108 (0,0)):=A5 h (by simp [vsL,viL]);exact⟨hEC hx_ 0,hEC hx_ 1,lBk hx_,hEC hy_ 0,hEC hy_ 1,lBk hy_,hEC hv_ 0,hEC hv_ 1,hEC hv_ 2,hEC hv_ 3,hEC hv_ 4,hEC hv_ 5,hEC hv_ 6,hEC hv_ 7,lBk hv_,q_ hx_,q_ hy_,q_ hv_⟩
theorem visit_leaf {Q:List Res} (hV:VOk W V Q):Oo W V Q 0:=by
 intro w Ps mm v C id t X Y vx vy h hQ hI hi hx hy hX hY hlen;have hn:0≤201:=o_
 have HK:=q_ (fun w1 Qs (h1:Has W w1 (sTR V.b V.s V.ns::Qs))=>E6 h1 hi);have hleaf:t=.leaf id:=(hi.zero (A4 h)).2.2;have e201:=It;have e202:=Jo;have ebig:=P8;have hzX:Zok X:=Cg (by unfold Fg at hX;have:=C2 0;omega);have hzY:Zok Y:=Cg (by unfold Fg at hY;have:=C2 0;omega);have hbx1:=hV.zx;have hby1:=hV.zy;have hbw:=hV.w;have hbh:=hV.h;have hzbx:Zok V.bx.x:=Cg o_;have hzby:Zok V.bx.y:=Cg o_;have hznx:Zok (-V.bx.x):=Cg o_;have hzny:Zok (-V.bx.y):=Cg o_;have HNX:=q_ (fun w1 Rs (h1:Has W w1 Rs) (hm:∀ P∈Ps,P∈Rs)=>Qf (hV.x w1 Rs h1 fun P hP=>hm P (hQ P hP)) hzbx hV.nx);have HNY:=q_ (fun w1 Rs (h1:Has W w1 Rs) (hm:∀ P∈Ps,P∈Rs)=>Qf (hV.y w1 Rs h1 fun P hP=>hm P (hQ P hP)) hzby hV.ny);have HPX:=q_ (fun (hs:0≤X+-V.bx.x∧X+-V.bx.x<256) w1 Rs (h1:Has W w1 Rs) (hm:∀ P∈Ps,P∈Rs) A vn (hv:BigZ w1 A vn (-V.bx.x))=>Co (hx w1 Rs h1 hm) hv hzX hznx (Bb o_ o_));have HPY:=q_ (fun (hs:0≤Y+-V.bx.y∧Y+-V.bx.y<256) w1 Rs (h1:Has W w1 Rs) (hm:∀ P∈Ps,P∈Rs) A vn (hv:BigZ w1 A vn (-V.bx.y))=>Co (hy w1 Rs h1 hm) hv hzY hzny (Bb o_ o_));have HLEN:=q_ hlen;clear e201 e202 ebig hzX hzY hbx1 hby1 hbw hbh hzbx hzby hznx hzny;have hcx:=_root_.id (hx w _ h fun P hP=>Ae hP);have hcy:=_root_.id (hy w _ h fun P hP=>Ae hP);obtain⟨xs,xa,xn,xc,rfl⟩:∃ b a n c,vx=.agg #[.bool b,.slice a n c]:=by obtain⟨a,c,hv,_⟩:=hcx;exact⟨_,_,_,_,hv⟩
 obtain⟨ys,ya,yn,yc,rfl⟩:∃ b a n c,vy=.agg #[.bool b,.slice a n c]:=by obtain⟨a,c,hv,_⟩:=hcy;exact⟨_,_,_,_,hv⟩
 clear hcx hcy;have h0:Has W ((w.alloc (.cells #[.bool xs,.slice xa xn xc] 30 (0,0))).alloc (.cells #[.bool ys,.slice ya yn yc] 30 (0,0))) (vsL V mm v C (Hp.blk (w.heap.size+1) (.cells #[.bool ys,.slice ya yn yc] 30 (0,0))::Hp.blk w.heap.size (.cells #[.bool xs,.slice xa xn xc] 30 (0,0))::Ps)):=by have h1:=hAL (hAL h #[.bool xs,.slice xa xn xc] 30) #[.bool ys,.slice ya yn yc] 30;rw [hAz] at h1;exact h1.ord 6 [2,3,4,5,0,1]
 obtain⟨o,ho⟩:∃ o,w.heap.size=o:=⟨_,rfl⟩;rw [ho] at h0;have HB:=q_ (fun w1 Ps mm' (h1:Has W w1 (viL V.b V.rb V.vb V.s V.ns (vcA V v) mm' Ps)) (hI:BInv V.s V.ns mm')=>Q9 (W:=W) (vcA_ok V v) 0 w1 Ps mm' id t h1 hI hi);unfold Dr at HB;rw [Ih] at HB;have HPW:=q_ (fun w1=>Dz w1 (k:=0) (H:=2 ^ 0) rfl o_);have HAX:=q_ (fun w1 Rs (h1:Has W w1 Rs) (hm:∀ P∈Ps,P∈Rs) A vs (hs:BigZ w1 A vs (p2 0))=>On hn hx hV.x hX hV.zx hV.w h1 hm (fun P hP=>hm P (hQ P hP)) hs);have HAY:=q_ (fun w1 Rs (h1:Has W w1 Rs) (hm:∀ P∈Ps,P∈Rs) A vs (hs:BigZ w1 A vs (p2 0))=>On hn hy hV.y hY hV.zy hV.h h1 hm (fun P hP=>hm P (hQ P hP)) hs);have H:=q_ h0;have HI:=q_ hI;have HLF:=q_ hleaf;have HVV:=q_ hV;clear h hQ hI hi hx hy hX hY hlen hn h0 hleaf hV;go_enter Tryz.func63,Tryz.ntmps63;go_wp2;refine wS [([0,1,2],[]),([3,4,5,7,8,9,10,11,12,13,14,6],[4,10,14]),([15],[]),([16,17,18,19,21,22,23,24,25,26,27,28,20],[18,24,28]),([29,30],[])] ?_;(simp only [A2,pick,aq_,bq_,cq_,dq_,eq_]);go_wp2_with fail;refine (HB.o _ _ _ (H.o.step (Fr.t)) HI.o).mono ?_;rintro e w1 ⟨mm1,rfl,h1,hI1⟩;have H1:=q_ (show Has W w1 (vsL V mm1 v C _) from h1);have HI1:=q_ hI1;clear h1 hI1 H HI HB ho;obtain⟨g0,hg0⟩:∃ g,decide (B0 t=0)=g:=⟨_,rfl⟩;rw [hg0];have HG0:=q_ hg0;clear hg0;(try clear x0 x1 xl y0 y1 yl v0 v1 v2 v3 v4 v5 v6 v7 vl Hx Hy Hv);obtain⟨x0,x1,xl,y0,y1,yl,v0,v1,v2,v3,v4,v5,v6,v7,vl,Hx,Hy,Hv⟩:=Af H1.o (o:=o) (xs:=xs) (ys:=ys) (xa:=xa) (ya:=ya) (xn:=xn) (xc:=xc) (yn:=yn) (yc:=yc) i_ i_;go_wp2;refine mD_ ⟨trivial,?_⟩;cases g0 with
 | true =>have HD:=q_ (show Bt V.bx 0 t X Y=[] from I9 (by unfold Dn;rw [HG0.o];rfl));go_wp2;refine mD_ ⟨⟨fun o ho hw=>by obtain rfl:=Option.some.inj ho;exact absurd hw (by simp [Region.wanted,yielded]),fun o ho hw=>by obtain rfl:=Option.some.inj ho;exact absurd hw (by simp [Region.wanted,yielded]),fun o ho hw=>by obtain rfl:=Option.some.inj ho;exact absurd hw (by simp [Region.wanted,yielded]),trivial⟩,?_⟩;go_wp2;refine mD_ ⟨trivial,?_⟩;go_wp2;refine mD_ ⟨⟨fun o ho hw=>by obtain rfl:=Option.some.inj ho;exact absurd hw (by simp [Region.wanted,yielded]),fun o ho hw=>by obtain rfl:=Option.some.inj ho;exact absurd hw (by simp [Region.wanted,yielded]),fun o ho hw=>by obtain rfl:=Option.some.inj ho;exact absurd hw (by simp [Region.wanted,yielded]),trivial⟩,?_⟩;go_wp2;refine mD_ ⟨trivial,sT_ rfl ?_⟩;go_wp2;go_end0;refine⟨rfl,v,mm1,?_,HI1.o⟩;rw [HD.o,List.append_nil];exact (H1.o.step (Fr.t)).ord 6 [0,1,2,3]
 | false =>
  go_wp2_with fail;refine (HPW.o _).mono ?_;rintro e w2 ⟨vp,rfl,hb,hf⟩;have H2:=q_ ((H1.o.step (Fr.t)).step hf);have ha:=HAX.o w2 _ H2.o (fun P hP=>Ae (mem2 P hP)) _ vp hb;have HA2:=q_ ha;clear hb hf ha H1 HAX;(try clear x0 x1 xl y0 y1 yl v0 v1 v2 v3 v4 v5 v6 v7 vl Hx Hy Hv);obtain⟨x0,x1,xl,y0,y1,yl,v0,v1,v2,v3,v4,v5,v6,v7,vl,Hx,Hy,Hv⟩:=Af H2.o (o:=o) (xs:=xs) (ys:=ys) (xa:=xa) (ya:=ya) (xn:=xn) (xc:=xc) (yn:=yn) (yc:=yc) i_ i_;go_wp2;refine mD_ ⟨⟨ab_ (T:=30) rfl rfl rfl Tryz.underlying30 rfl k_ Hx.o rfl,ao_ (T:=30) rfl rfl rfl Tryz.underlying30 rfl k_ Hv.o rfl rfl rfl,ac_ (T:=3) rfl rfl rfl Tryz.underlying3 rfl v5 rfl,trivial⟩,?_⟩;go_wp2_with fail;refine (HA2.o).mono ?_;rintro e w3 ⟨rfl,hf⟩;have H3:=q_ (H2.o.step hf);clear hf H2 HA2;obtain⟨g1,hg1⟩:∃ g,Gb X (p2 0) V.bx.x V.bx.w=g:=⟨_,rfl⟩;rw [hg1];have HG1:=q_ hg1;clear hg1;(try clear x0 x1 xl y0 y1 yl v0 v1 v2 v3 v4 v5 v6 v7 vl Hx Hy Hv);obtain⟨x0,x1,xl,y0,y1,yl,v0,v1,v2,v3,v4,v5,v6,v7,vl,Hx,Hy,Hv⟩:=Af H3.o (o:=o) (xs:=xs) (ys:=ys) (xa:=xa) (ya:=ya) (xn:=xn) (xc:=xc) (yn:=yn) (yc:=yc) i_ i_;go_wp2;refine mD_ ⟨trivial,?_⟩;cases g1 with
  | true =>have HD:=q_ (show Bt V.bx 0 t X Y=[] from I9 (by unfold Dn;rw [HG0.o,HG1.o];rfl));go_wp2;refine mD_ ⟨⟨fun o ho hw=>by obtain rfl:=Option.some.inj ho;exact absurd hw (by simp [Region.wanted,yielded]),fun o ho hw=>by obtain rfl:=Option.some.inj ho;exact absurd hw (by simp [Region.wanted,yielded]),fun o ho hw=>by obtain rfl:=Option.some.inj ho;exact absurd hw (by simp [Region.wanted,yielded]),trivial⟩,?_⟩;go_wp2;refine mD_ ⟨trivial,sT_ rfl ?_⟩;go_wp2;go_end0;refine⟨rfl,v,mm1,?_,HI1.o⟩;rw [HD.o,List.append_nil];exact (H3.o.step (Fr.t)).ord 6 [0,1,2,3]
  | false =>
   go_wp2_with fail;refine (HPW.o _).mono ?_;rintro e w4 ⟨vq,rfl,hb,hf⟩;have H4:=q_ ((H3.o.step (Fr.t)).step hf);have ha:=HAY.o w4 _ H4.o (fun P hP=>Ae (mem2 P hP)) _ vq hb;have HA4:=q_ ha;clear hb hf ha H3 HAY;(try clear x0 x1 xl y0 y1 yl v0 v1 v2 v3 v4 v5 v6 v7 vl Hx Hy Hv);obtain⟨x0,x1,xl,y0,y1,yl,v0,v1,v2,v3,v4,v5,v6,v7,vl,Hx,Hy,Hv⟩:=Af H4.o (o:=o) (xs:=xs) (ys:=ys) (xa:=xa) (ya:=ya) (xn:=xn) (xc:=xc) (yn:=yn) (yc:=yc) i_ i_;go_wp2;refine mD_ ⟨⟨ab_ (T:=30) rfl rfl rfl Tryz.underlying30 rfl k_ Hy.o rfl,ao_ (T:=30) rfl rfl rfl Tryz.underlying30 rfl k_ Hv.o rfl rfl rfl,ac_ (T:=3) rfl rfl rfl Tryz.underlying3 rfl v6 rfl,trivial⟩,?_⟩;go_wp2_with fail;refine (HA4.o).mono ?_;rintro e w5 ⟨rfl,hf⟩;have H5:=q_ (H4.o.step hf);clear hf H4 HA4;obtain⟨g2,hg2⟩:∃ g,Gb Y (p2 0) V.bx.y V.bx.h=g:=⟨_,rfl⟩;rw [hg2];have HG2:=q_ hg2;clear hg2;(try clear x0 x1 xl y0 y1 yl v0 v1 v2 v3 v4 v5 v6 v7 vl Hx Hy Hv);obtain⟨x0,x1,xl,y0,y1,yl,v0,v1,v2,v3,v4,v5,v6,v7,vl,Hx,Hy,Hv⟩:=Af H5.o (o:=o) (xs:=xs) (ys:=ys) (xa:=xa) (ya:=ya) (xn:=xn) (xc:=xc) (yn:=yn) (yc:=yc) i_ i_;go_wp2;refine mD_ ⟨trivial,sT_ rfl ?_⟩;cases g2 with
   | true =>have HD:=q_ (show Bt V.bx 0 t X Y=[] from I9 (by unfold Dn;rw [HG0.o,HG1.o,HG2.o];rfl));go_wp2;go_end0;refine⟨rfl,v,mm1,?_,HI1.o⟩;rw [HD.o,List.append_nil];exact H5.o.ord 6 [0,1,2,3]
   | false =>
    have HNG:=q_ (show Dn V.bx 0 t X Y=false by unfold Dn;rw [HG0.o,HG1.o,HG2.o];rfl);have hsx:0≤X+-V.bx.x∧X+-V.bx.x<256:=by have h1:=HG1.o;have h2:=HVV.o.w;simp only [Gb,decide_eq_false_iff_not,show p2 0=1 from rfl] at h1;omega
    have hsy:0≤Y+-V.bx.y∧Y+-V.bx.y<256:=by have h1:=HG2.o;have h2:=HVV.o.h;simp only [Gb,decide_eq_false_iff_not,show p2 0=1 from rfl] at h1;omega
    have HPX2:=q_ (HPX.o hsx);have HPY2:=q_ (HPY.o hsy);obtain⟨i,hi⟩:∃ i,X+-V.bx.x=i:=⟨_,rfl⟩;obtain⟨j,hj⟩:∃ j,Y+-V.bx.y=j:=⟨_,rfl⟩;rw [hi] at HPX2 hsx;rw [hj] at HPY2 hsy;have HIT:=q_ (fun w1 (A:Nat→Prop) v (hv:BigZ w1 A v i)=>Int_z hv (Bb o_ o_) o_ o_);have HJT:=q_ (fun w1 (A:Nat→Prop) v (hv:BigZ w1 A v j)=>Int_z hv (Bb o_ o_) o_ o_);have hD:Bt V.bx 0 t X Y=[⟨i,j,id⟩]:=by rw [HLF.o] at HNG ⊢;have:=HNG.o;unfold Bt;rw [this,← hi,← hj,Int.sub_eq_add_neg,Int.sub_eq_add_neg];rfl
    rw [hD] at HLEN;have HDD:=q_ hD;clear HPX HPY hi hj hsx hsy hD HG0 HG1 HG2 HNG HLF HPW;go_wp2_with fail;refine (HK.o _ _ H5.o).mono ?_;rintro e w6 ⟨rfl,h6,hf⟩;have H6:=q_ (show Has W w6 (vsL V mm1 v C _) from h6);clear h6 hf H5 HK;(try clear x0 x1 xl y0 y1 yl v0 v1 v2 v3 v4 v5 v6 v7 vl Hx Hy Hv);obtain⟨x0,x1,xl,y0,y1,yl,v0,v1,v2,v3,v4,v5,v6,v7,vl,Hx,Hy,Hv⟩:=Af H6.o (o:=o) (xs:=xs) (ys:=ys) (xa:=xa) (ya:=ya) (xn:=xn) (xc:=xc) (yn:=yn) (yc:=yc) i_ i_;go_wp2;refine wS [([0,1,2,3,4,5],[0]),([6],[]),([7,8,9,10,11,12],[])] ?_;(simp only [A2,pick,aq_,bq_,cq_,dq_,eq_]);go_wp2_with fail;refine (HNX.o _ _ (H6.o.step (Fr.t)) (fun P hP=>Ae (mem2 P hP))).mono ?_;rintro e wa ⟨vn,rfl,hb,hf⟩;have HA:=q_ ((H6.o.step (Fr.t)).step hf);have hp:=HPX2.o wa _ HA.o (fun P hP=>Ae (mem2 P hP)) _ vn hb;have HP:=q_ hp;clear hb hf hp H6;(try clear x0 x1 xl y0 y1 yl v0 v1 v2 v3 v4 v5 v6 v7 vl Hx Hy Hv);obtain⟨x0,x1,xl,y0,y1,yl,v0,v1,v2,v3,v4,v5,v6,v7,vl,Hx,Hy,Hv⟩:=Af HA.o (o:=o) (xs:=xs) (ys:=ys) (xa:=xa) (ya:=ya) (xn:=xn) (xc:=xc) (yn:=yn) (yc:=yc) i_ i_;go_wp2;refine mD_ ⟨⟨ab_ (T:=30) rfl rfl rfl Tryz.underlying30 rfl k_ Hx.o rfl,trivial⟩,?_⟩;go_wp2_with fail;refine (HP.o).mono ?_;rintro e wb ⟨vs,rfl,hb,hf⟩;have HB:=q_ (HA.o.step hf);have hp:=HIT.o wb _ _ hb;have HT:=q_ hp;clear hb hf hp HA HP;go_wp2;refine mD_ ⟨trivial,?_⟩;go_wp2_with fail;refine (HT.o).mono ?_;rintro e w7 ⟨rfl,hf⟩;have H7:=q_ (HB.o.step hf);clear hf HB HT;(try clear x0 x1 xl y0 y1 yl v0 v1 v2 v3 v4 v5 v6 v7 vl Hx Hy Hv);obtain⟨x0,x1,xl,y0,y1,yl,v0,v1,v2,v3,v4,v5,v6,v7,vl,Hx,Hy,Hv⟩:=Af H7.o (o:=o) (xs:=xs) (ys:=ys) (xa:=xa) (ya:=ya) (xn:=xn) (xc:=xc) (yn:=yn) (yc:=yc) i_ i_;go_wp2;refine mD_ ⟨trivial,sT_ rfl ?_⟩;go_wp2
    refine wS [([0,1,2,3,4,5],[0]),([6],[]),([7,8,9,10,11,12],[])] ?_;(simp only [A2,pick,aq_,bq_,cq_,dq_,eq_]);go_wp2_with fail;refine (HNY.o _ _ (H7.o.step (Fr.t)) (fun P hP=>Ae (mem2 P hP))).mono ?_;rintro e wa ⟨vn,rfl,hb,hf⟩;have HA:=q_ ((H7.o.step (Fr.t)).step hf);have hp:=HPY2.o wa _ HA.o (fun P hP=>Ae (mem2 P hP)) _ vn hb;have HP:=q_ hp;clear hb hf hp H7;(try clear x0 x1 xl y0 y1 yl v0 v1 v2 v3 v4 v5 v6 v7 vl Hx Hy Hv);obtain⟨x0,x1,xl,y0,y1,yl,v0,v1,v2,v3,v4,v5,v6,v7,vl,Hx,Hy,Hv⟩:=Af HA.o (o:=o) (xs:=xs) (ys:=ys) (xa:=xa) (ya:=ya) (xn:=xn) (xc:=xc) (yn:=yn) (yc:=yc) i_ i_;go_wp2;refine mD_ ⟨⟨ab_ (T:=30) rfl rfl rfl Tryz.underlying30 rfl k_ Hy.o rfl,trivial⟩,?_⟩;go_wp2_with fail;refine (HP.o).mono ?_;rintro e wb ⟨vs,rfl,hb,hf⟩;have HB:=q_ (HA.o.step hf);have hp:=HJT.o wb _ _ hb;have HT:=q_ hp;clear hb hf hp HA HP;go_wp2;refine mD_ ⟨trivial,?_⟩;go_wp2_with fail;refine (HT.o).mono ?_;rintro e w8 ⟨rfl,hf⟩;have H8:=q_ (HB.o.step hf);clear hf HB HT;(try clear x0 x1 xl y0 y1 yl v0 v1 v2 v3 v4 v5 v6 v7 vl Hx Hy Hv);obtain⟨x0,x1,xl,y0,y1,yl,v0,v1,v2,v3,v4,v5,v6,v7,vl,Hx,Hy,Hv⟩:=Af H8.o (o:=o) (xs:=xs) (ys:=ys) (xa:=xa) (ya:=ya) (xn:=xn) (xc:=xc) (yn:=yn) (yc:=yc) i_ i_;go_wp2;refine mD_ ⟨trivial,sT_ rfl ?_⟩;have Ho:=q_ (H8.o.f3.row);go_wp2_with (at_builtin;refine Rk (n:=C.length) (base:=0) (xs:=pcs C) (y:=⟨i,j,id⟩) rfl rfl Tryz.underlying26 rfl ?e1 rfl ?e2 ?e3 ?e4 ?_);case e1=>exact oOB Ho.o fun g hg=>hAE _ _ _ (oLT Ho.o hg)
    case e2=>refine (Array.getElem?_eq_some_iff.1 ?_).2;(repeat first|rw [if_pos o_]|rw [if_neg o_]|rw [hDR]|rw [hDN]|rw [hAz]|rw [hSz]|rw [hAC]|rw [hSC]|rw [oMS]|rw [uPC]|rw [lSZ]|rw [lSS]|rfl)
    case e3=>have:=HLEN.o;simp at this;omega
    case e4=>omega
    intro g2 cap w9 hown1 hW1 hF1 hloc1 hg1;rw [Ta C ⟨i,j,id⟩] at hown1;have hA:=H8.o.f3.step ((Fr.refl [] _).alloc (.cells #[.int .i64 i,.int .i64 j,.int .i64 id] 41));have h9:=hAP (n':=(C++[⟨i,j,id⟩]:List PC).length) hA (by rw [show (C++[⟨i,j,id⟩]:List PC).length=C.length+1 by simp];exact hown1) rfl hF1 (by rcases hloc1 with h|h;exact .inl h;exact .inr (by rw [h];simp));have hv9:=h9.f3.blk;clear x0 x1 xl y0 y1 yl v0 v1 v2 v3 v4 v5 v6 v7 vl;have v7:w9.cell? ⟨V.vb,7,none⟩=some v:=hEC hv9 7;have v7z:=hEF hv9 7;have vl:=lBk hv9;have H9:=q_ h9;clear hown1 hW1 hF1 hloc1 hg1 hA h9 hv9 Ho H8 Hx Hy Hv;go_wp2;go_end0;refine⟨rfl,.slice (some ⟨g2,0,none⟩) (C.length+1) cap,mm1,?_,HI1.o⟩;rw [HDD.o];exact (hST H9.o.f3 7 (.slice (some ⟨g2,0,none⟩) (C.length+1) cap)).ord 6 [2,3,0,1]
end Go.Proofs.YtebolidfbflkmaaGreat
