/- Own texts of this claim, part 26: no condition. -/
import Derived.Shelf.SlSortCmp.PdqK
import Derived.Shelf.Small.Bits
import Derived.Test.YtdanghnadbkhfaaGreatProg
import Derived.Shelf.SlSortCmp.NoneTotal
import Derived.Test.YtdanghnadbkhfaaGreatZG24
import Derived.Test.YtdanghnadbkhfaaGreatZG23
set_option linter.unusedVariables false
set_option linter.unusedSimpArgs false
section
namespace Go.Proofs
open Go.Shelf
def Tryz.pdqCell_ren:Go.Shelf.Ren:=⟨fun|14=>115|20=>123|21=>124|22=>125|23=>126|24=>127|25=>128|26=>129|27=>130|46=>136|47=>137|48=>138|49=>139|50=>140|15=>116|57=>142|28=>131|29=>132|n=>n,fun|24=>75|22=>50|3=>3|25=>166|4=>4|0=>0|46=>192|45=>191|50=>114|66=>201|39=>161|55=>110|70=>205|76=>208|77=>209|53=>106|5=>5|9=>9|n=>n,fun|n=>n⟩
theorem Tryz.pdqCell:Go.Proofs.SlLaysF0.n14 Tryz.prog Tryz.pdqCell_ren:={
 mixed:=by kernel_rfl
 f14:=⟨Tryz.f115.name,by decide,Tryz.func115.trans (congrArg some (by kernel_rfl))⟩
 f15:=Tryz.func116.trans (congrArg some (by kernel_rfl))
 f20:=⟨Tryz.f123.name,by decide,Tryz.func123.trans (congrArg some (by kernel_rfl))⟩
 f21:=⟨Tryz.f124.name,by decide,Tryz.func124.trans (congrArg some (by kernel_rfl))⟩
 f22:=⟨Tryz.f125.name,by decide,Tryz.func125.trans (congrArg some (by kernel_rfl))⟩
 f23:=⟨Tryz.f126.name,by decide,Tryz.func126.trans (congrArg some (by kernel_rfl))⟩
 f24:=⟨Tryz.f127.name,by decide,Tryz.func127.trans (congrArg some (by kernel_rfl))⟩
 f25:=⟨Tryz.f128.name,by decide,Tryz.func128.trans (congrArg some (by kernel_rfl))⟩
 f26:=⟨Tryz.f129.name,by decide,Tryz.func129.trans (congrArg some (by kernel_rfl))⟩
 f27:=⟨Tryz.f130.name,by decide,Tryz.func130.trans (congrArg some (by kernel_rfl))⟩
 f28:=Tryz.func131.trans (congrArg some (by kernel_rfl))
 f29:=Tryz.func132.trans (congrArg some (by kernel_rfl))
 f46:=⟨Tryz.f136.name,by decide,Tryz.func136.trans (congrArg some (by kernel_rfl))⟩
 f47:=Tryz.func137.trans (congrArg some (by kernel_rfl))
 f48:=Tryz.func138.trans (congrArg some (by kernel_rfl))
 f49:=⟨Tryz.f139.name,by decide,Tryz.func139.trans (congrArg some (by kernel_rfl))⟩
 f50:=⟨Tryz.f140.name,by decide,Tryz.func140.trans (congrArg some (by kernel_rfl))⟩
 f57:=⟨Tryz.f142.name,by decide,Tryz.func142.trans (congrArg some (by kernel_rfl))⟩
 t0:=Tryz.underlying0
 a0:=Tryz.isAgg0
 z0:=Tryz.sizeOf0
 v0:=Tryz.zeroValue0
 t3:=Tryz.underlying3
 a3:=Tryz.isAgg3
 z3:=Tryz.sizeOf3
 v3:=Tryz.zeroValue3
 t4:=Tryz.underlying4
 a4:=Tryz.isAgg4
 z4:=Tryz.sizeOf4
 v4:=Tryz.zeroValue4
 t5:=Tryz.underlying5
 a5:=Tryz.isAgg5
 z5:=Tryz.sizeOf5
 v5:=Tryz.zeroValue5
 t9:=Tryz.underlying9
 a9:=Tryz.isAgg9
 z9:=Tryz.sizeOf9
 v9:=Tryz.zeroValue9
 t22:=Tryz.underlying50
 a22:=Tryz.isAgg50
 z22:=Tryz.sizeOf50
 v22:=Tryz.zeroValue50
 t25:=Tryz.underlying166
 a25:=Tryz.isAgg166
 z25:=Tryz.sizeOf166
 v25:=Tryz.zeroValue166
 t39:=Tryz.underlying161
 a39:=Tryz.isAgg161
 z39:=Tryz.sizeOf161
 v39:=Tryz.zeroValue161
 t45:=Tryz.underlying191
 a45:=Tryz.isAgg191
 z45:=Tryz.sizeOf191
 v45:=Tryz.zeroValue191
 t46:=Tryz.underlying192
 a46:=Tryz.isAgg192
 z46:=Tryz.sizeOf192
 v46:=Tryz.zeroValue192
 t50:=Tryz.underlying114
 a50:=Tryz.isAgg114
 z50:=Tryz.sizeOf114
 v50:=Tryz.zeroValue114
 t53:=Tryz.underlying106
 a53:=Tryz.isAgg106
 z53:=Tryz.sizeOf106
 v53:=Tryz.zeroValue106
 t55:=Tryz.underlying110
 a55:=Tryz.isAgg110
 z55:=Tryz.sizeOf110
 v55:=Tryz.zeroValue110
 t66:=Tryz.underlying201
 a66:=Tryz.isAgg201
 z66:=Tryz.sizeOf201
 v66:=Tryz.zeroValue201
 t70:=Tryz.underlying205
 a70:=Tryz.isAgg205
 z70:=Tryz.sizeOf205
 v70:=Tryz.zeroValue205
 t76:=Tryz.underlying208
 a76:=Tryz.isAgg208
 z76:=Tryz.sizeOf208
 v76:=Tryz.zeroValue208
 t77:=Tryz.underlying209
 a77:=Tryz.isAgg209
 z77:=Tryz.sizeOf209
 v77:=Tryz.zeroValue209 }
def Tryz.lays125_ren:Go.Shelf.Ren:=⟨fun|125=>116|128=>131|129=>132|n=>n,fun|46=>161|3=>3|51=>106|53=>110|4=>4|5=>5|9=>9|n=>n,fun|n=>n⟩
theorem Tryz.lays125:Go.Proofs.Lays.n125 Tryz.prog Tryz.lays125_ren:={
 mixed:=by kernel_rfl
 f125:=Tryz.func116.trans (congrArg some (by kernel_rfl))
 f128:=Tryz.func131.trans (congrArg some (by kernel_rfl))
 f129:=Tryz.func132.trans (congrArg some (by kernel_rfl))
 t3:=Tryz.underlying3
 a3:=Tryz.isAgg3
 z3:=Tryz.sizeOf3
 v3:=Tryz.zeroValue3
 t4:=Tryz.underlying4
 a4:=Tryz.isAgg4
 z4:=Tryz.sizeOf4
 v4:=Tryz.zeroValue4
 t5:=Tryz.underlying5
 a5:=Tryz.isAgg5
 z5:=Tryz.sizeOf5
 v5:=Tryz.zeroValue5
 t9:=Tryz.underlying9
 a9:=Tryz.isAgg9
 z9:=Tryz.sizeOf9
 v9:=Tryz.zeroValue9
 t46:=Tryz.underlying161
 a46:=Tryz.isAgg161
 z46:=Tryz.sizeOf161
 v46:=Tryz.zeroValue161
 t51:=Tryz.underlying106
 a51:=Tryz.isAgg106
 z51:=Tryz.sizeOf106
 v51:=Tryz.zeroValue106
 t53:=Tryz.underlying110
 a53:=Tryz.isAgg110
 z53:=Tryz.sizeOf110
 v53:=Tryz.zeroValue110 }
end Go.Proofs
end
section
namespace Go.Proofs.Pt
open Go.Sort Go.Shelf
instance:Inhabited PC:=⟨z3⟩
end Go.Proofs.Pt
namespace Go.Proofs.YtdanghnadbkhfaaGreat
open Go Go.RowKit Rg Hp Pt Go.Sort Go.Shelf
def pcE (c:PC):List Value:=[.int .i64 c.x,.int .i64 c.y,.int .i64 c.st]
theorem lt_bef (a b:PC):ltOf cmpQ a b=pBef a b:=by
 unfold ltOf cmpQ cmpJ pBef
 rw [Bool.eq_iff_iff]
 simp only [decide_eq_true_eq]
 by_cases h1:a.y<b.y
 ·simp [h1]
 ·by_cases h2:b.y<a.y
  ·simp [h1,h2];omega
  ·by_cases h3:a.x<b.x
   ·simp [h1,h2,h3];omega
   ·by_cases h4:b.x<a.x
    ·simp [h1,h2,h3,h4]
    ·simp [h1,h2,h3,h4]
theorem swo_bef:SWO (ltOf cmpQ) where
 irrefl x:=by rw [lt_bef];simp [pBef]
 trans x y z h1 h2:=by rw [lt_bef] at *;exact pBef_trans h1 h2
 ntrans x y z h1 h2:=by rw [lt_bef] at *;exact pBef_weak h2 h1
theorem flatP_get {q:List PC} {t:Nat} (h:t<q.length*3):(pcs q)[t]?=some ((flatK pcE 3 q.toArray)[t]!):=by
 rw [get_flatK _ _ _ _ (by simpa using h)]
 have hi:t / 3<q.length:=by omega
 have hq:q[t / 3]?=some q[t / 3]:=List.getElem?_eq_getElem hi
 have e:q.toArray[t / 3]!=q[t / 3]:=by simp [hi]
 rw [e]
 obtain⟨h0,h1,h2⟩:=pcs_get hq
 generalize q[t / 3]=c at h0 h1 h2 ⊢
 have:t % 3=0∨t % 3=1∨t % 3=2:=by omega
 rcases this with r|r|r<;>rw [r]
 ·rw [show t / 3*3=t by omega] at h0
  exact h0
 ·rw [show t / 3*3+1=t by omega] at h1
  exact h1
 ·rw [show t / 3*3+2=t by omega] at h2
  exact h2
theorem put_size (c:Array Value) (d:Array Value) (off:Nat):(putCells id off d c).size=c.size:=by simp [putCells]
theorem put_take {q:List PC} {c:Array Value} (h:q.length*3≤c.size):(putCells id 0 (flatK pcE 3 q.toArray) c).toList.take (q.length*3)=pcs q:=by
 apply List.ext_getElem?
 intro t
 rw [List.getElem?_take]
 by_cases ht:t<q.length*3
 ·rw [if_pos ht,flatP_get ht,Array.getElem?_toList]
  unfold putCells
  rw [Array.getElem?_mapIdx,Array.getElem?_eq_getElem (by omega)]
  simp [ht]
 ·rw [if_neg ht,List.getElem?_eq_none (by rw [pcs_len];omega)]
theorem put_heap {w:World} {g:Nat} {cur:Array Value} {e:TypeId} {fr:Nat×Nat} (d:Array PC) (n:Nat) (os:Array Obj) (h:w.heap[g]?=some (.cells cur e fr)) :
  (sortWorldK pcE 3 w g 0 n d os).heap[g]?=some (.cells (putCells id 0 (flatK pcE 3 d) cur) e fr)∧Fr [g] w (sortWorldK pcE 3 w g 0 n d os):=by
 have hg:=(Array.getElem?_eq_some_iff.1 h).1
 have hh:∀ k,k<w.heap.size→(sortWorldK pcE 3 w g 0 n d os).heap[k]?=(w.heap.modify g (onCells (putCells id 0 (flatK pcE 3 d))))[k]?:=by
  intro k hk
  show ((w.heap.modify g (onCells (putCells id 0 (flatK pcE 3 d))))++os)[k]?=_
  rw [Array.getElem?_append_left (by simpa using hk)]
 constructor
 ·rw [hh g hg,Array.getElem?_modify,if_pos rfl,h]
  rfl
 ·refine⟨rfl,rfl,rfl,?_,fun k hk hn=>?_⟩
  ·show w.heap.size≤((w.heap.modify g (onCells (putCells id 0 (flatK pcE 3 d))))++os).size
   simp
  ·rw [hh k hk,Array.getElem?_modify,if_neg (by simp at hn;exact fun e=>hn e.symm)]
theorem cmpLays_p (blk off size:Nat) (w:World):CmpLays Tryz.prog 99 #[] pcE 3 cmpQ blk off size w :=
 fun _ _ _ _ x y=>(order_p x y _).mono fun _ _ ⟨he,hg⟩=>⟨he,hg.grow⟩
theorem sort_calls {w:World} {base:Nat} {v:Value} {m:List PC} (h:w.ownsRow base 75 3 v m.length (pcs m)) (hm:m.length<4611686018427387904) :
  Calls Tryz.prog 98 #[v,.func (.func 99) #[] #[]] w fun e w'=>e=.returned (.tuple #[])∧∃ q:List PC,q.Perm m∧Weak q∧w'.ownsRow base 75 3 v q.length (pcs q)∧Fr v.ownBlock.toList w w':=by
 have eg:∀ args w,(callFunc 99 args).run Tryz.prog w=.ok (.enter 99 args) w:=enters_of Tryz.func99 (by kernel_rfl) rfl
 have hL:∀ (n:Nat) (w:World),n<4611686018427387904→Calls Tryz.prog 116 #[.int .u64 (n:Int)] w fun e w'=>e=.returned (.int .i64 (Lib.bitLen n:Nat))∧w'=w:=by
  intro n w hn
  have h:=Any.bits_Len Tryz.lays125 (n:Int) w (by omega) (by omega)
  rwa [Int.toNat_natCast] at h
 have wr:∀ n:Nat,n<4611686018427387904→IntKind.u64.wrap (n:Int)=n:=by intro n hn;simp [IntKind.wrap,IntKind.bits,IntKind.signed];omega
 rcases h.2 with ⟨rfl,hn⟩|⟨g,cap,cur,rfl,hb,hg,hnc,hcm,hcs,ht⟩
 ·obtain rfl:=List.eq_nil_of_length_eq_zero hn
  have hp:∀ lim:Int,Calls Tryz.prog 115 #[.slice none 0 0,.int .i64 0,.int .i64 0,.int .i64 lim,.func (.func 99) #[] #[]] w fun e w'=>e=.returned (.tuple #[])∧w'=w:=fun lim=>AnyF.pdqsortCmpFunc_none { Tryz.pdqCell with } none 0 lim (.func (.func 99) #[] #[]) w
  have HP:=Lib.hid hp
  have HL:=Lib.hid (hL 0 w (by omega))
  have HO:=Lib.hid h
  clear hp hL wr h hn hm
  go_enter Tryz.func98,Tryz.ntmps98
  go_wp2_with (first|(go_at_call 116;refine HL.out.mono ?_;rintro e w' ⟨rfl,rfl⟩)|(go_at_call 115;refine (HP.out _).mono ?_;rintro e w' ⟨rfl,rfl⟩))
  go_end0
  exact⟨rfl,[],List.Perm.refl _,List.Pairwise.nil,HO.out,Fr.refl _ _⟩
 ·have hlt:=(Array.getElem?_eq_some_iff.1 hg).1
  have hsz:m.length*3≤cur.size:=by rw [hcs];exact Nat.mul_le_mul_right _ hnc
  have hH:HoldsK pcE 3 w g 0 m.toArray:=by
   intro j hj
   rw [size_flatK] at hj
   have hj:j<m.length*3:=by simpa using hj
   rw [Nat.zero_add]
   have h1:=flatP_get hj
   rw [← ht,List.getElem?_take,if_pos hj,Array.getElem?_toList] at h1
   exact⟨by rw [hEC hg j];exact h1,hEF hg j⟩
  have hlim:Lib.bitLen m.length<4611686018427387904:=Nat.lt_of_le_of_lt (Lib.bitLen_le m.length 62 (by omega) (by omega)) (by omega)
  have hp:Calls Tryz.prog 115 #[.slice (some ⟨g,0,none⟩) m.length cap,.int .i64 0,.int .i64 m.length,.int .i64 (Lib.bitLen m.length:Nat),.func (.func 99) #[] #[]] w fun e w'=>e=.returned (.tuple #[])∧SWK pcE 3 w g 0 (pdq (ltOf cmpQ) m.toArray 0 m.length (Lib.bitLen m.length) true true) w' :=
   AnyQ.pdqsortCmpFunc_all Tryz.pdqCell 3 Tryz.isAgg75 Tryz.sizeOf75 pcE cmpQ 99 #[] swo_bef g 0 cap m.toArray w eg (cmpLays_p g 0 _ w) ⟨fun _=>rfl,fun x v hv=>by simp [pcE] at hv;rcases hv with rfl|rfl|rfl<;>rfl,hH,hlt⟩ (m.toArray.size+1) 0 m.length (Lib.bitLen m.length) m.toArray w (by simp) rfl (SWK.start hH) (Nat.zero_le _) (by simp) (by simpa using hm) hlim (Or.inl rfl)
  have hcon:Calls Tryz.prog 98 #[.slice (some ⟨g,0,none⟩) m.length cap,.func (.func 99) #[] #[]] w fun e w'=>e=.returned (.tuple #[])∧∃ d' n os,PermIn 0 m.toArray.size m.toArray d'∧SortedIn (ltOf cmpQ) 0 m.toArray.size d'∧w'=sortWorldK pcE 3 w g 0 n d' os:=by
   have h5:=pdq_sorts (ltOf cmpQ) swo_bef m.toArray 0 m.toArray.size (Lib.bitLen m.length) true true (Nat.zero_le _) (Nat.le_refl _) (Or.inl rfl)
   have H5:=Lib.hid h5
   have HP:=Lib.hid hp
   have HL:=Lib.hid (hL m.length w hm)
   have hw:=wr m.length hm
   clear hp hL wr h5 hH eg h hlim hsz hlt hg hcs ht hnc hcm hb
   go_enter Tryz.func98,Tryz.ntmps98
   go_wp2_with (first|(go_at_call 116;refine HL.out.mono ?_;rintro e w' ⟨rfl,rfl⟩)|(go_at_call 115;refine HP.out.mono ?_;rintro e w' ⟨rfl,n,os,rfl⟩))
   go_end0
   have h6:=H5.out
   rw [show m.toArray.size=m.length by simp] at h6
   exact⟨rfl,_,n,os,by simpa using h6.1,by simpa using h6.2,rfl⟩
  refine Calls.mono hcon ?_
  rintro e w' ⟨rfl,d',n,os,hp,hs,rfl⟩
  obtain⟨p1,_,p3⟩:=hp
  have hl:d'.toList.length=m.length:=by simpa using p1
  have hperm:d'.toList.Perm m:=by
   have:=p3
   rw [Array.extract_eq_self_of_le (by omega),Array.extract_eq_self_of_le (by omega)] at this
   simpa using this
  obtain⟨hh,hf⟩:=put_heap (e:=75) d' n os hg
  refine⟨rfl,d'.toList,hperm,?_,?_,?_⟩
  ·refine List.pairwise_iff_getElem.2 fun i j hi hj hij=>?_
   have:=hs i j (by omega) hij (by simpa [hl] using hj)
   rw [lt_bef] at this
   simp only [Array.length_toList] at hi hj
   rw [getElem!_pos d' i hi,getElem!_pos d' j hj] at this
   simpa using this
  ·refine⟨pcs_len _,.inr ⟨g,cap,_,by rw [hl],hb,hh,by omega,hcm,by rw [put_size,hcs],?_⟩⟩
   have:=put_take (q:=d'.toList) (c:=cur) (by rw [hl];exact hsz)
   simpa using this
  ·exact hf.mono fun x hx=>by simp at hx;subst hx;simp [Value.ownBlock]
end Go.Proofs.YtdanghnadbkhfaaGreat
end
section
namespace Go.Proofs.Pt
theorem bad_here {l:List PC} {k:Nat} {c:PC} (h0:badP (l.take k)=0) (hc:l[k]?=some c) (hb:badP [c]≠0):badP l=badP [c]:=by
 have e:l=(l.take k++[c])++l.drop (k+1):=by
  rw [← List.take_append_drop k l,List.take_append_drop]
  have hk:=(List.getElem?_eq_some_iff.1 hc)
  obtain⟨hk,rfl⟩:=hk
  rw [List.append_assoc,List.singleton_append,← List.drop_eq_getElem_cons hk,List.take_append_drop]
 have h1:badP (l.take k++[c])=badP [c]:=by rw [badP_snoc,h0];simp
 rw [e,badP_app (by rw [h1];exact hb),h1]
theorem bad_next {l:List PC} {k:Nat} {c:PC} (h0:badP (l.take k)=0) (hc:l[k]?=some c) (hb:badP [c]=0):badP (l.take (k+1))=0:=by
 rw [List.take_add_one,hc]
 show badP (l.take k++[c])=0
 rw [badP_snoc,h0];simpa using hb
theorem some_next {l:List PC} {k:Nat} {c:PC} (hc:l[k]?=some c):someP (l.take (k+1))=someP (l.take k)++if c.st≠0 then [c] else []:=by
 rw [List.take_add_one,hc]
 show someP (l.take k++[c])=_
 unfold someP
 rw [List.filter_append]
 by_cases h:c.st=0<;>simp [h]
theorem fromP_bad {l:List PC} (h:badP l≠0):fromP l=([],badP l):=by unfold fromP;rw [if_pos h]
theorem weak_adj {q:List PC} (hw:Weak q) {i:Nat} (hi:i+1<q.length):samePos (q.getD i z3) (q.getD (i+1) z3)=!pBef (q.getD i z3) (q.getD (i+1) z3):=by
 apply samePos_iff
 have:=List.pairwise_iff_getElem.1 hw i (i+1) (by omega) hi (by omega)
 rw [List.getD_eq_getElem?_getD,List.getD_eq_getElem?_getD,List.getElem?_eq_getElem hi,List.getElem?_eq_getElem (by omega)]
 exact this
theorem weak_twice {q:List PC} (hw:Weak q) {i:Nat} (hi:i+1<q.length) (h:samePos (q.getD i z3) (q.getD (i+1) z3)=true):strictB q=false:=by
 rw [weak_adj hw hi] at h
 cases hs:strictB q with
 | false=>rfl
 | true=>rw [strict_at hs hi] at h;cases h
theorem weak_once {q:List PC} (hw:Weak q) (h:∀ i,i+1<q.length→samePos (q.getD i z3) (q.getD (i+1) z3)=false):strictB q=true :=
 strict_mk fun i hi=>by have:=h i hi;rw [weak_adj hw hi] at this;simpa using this
end Go.Proofs.Pt
namespace Go.Proofs.YtdanghnadbkhfaaGreat
open Go Go.RowKit Rg Hp Pt
theorem info_cell:(Tryz.prog.info? 75).map (fun i=>(i.zero,i.size,i.bytes))=some (some (.agg #[.int .i64 0,.int .i64 0,.int .i64 0]),3,24):=by kernel_rfl
theorem append_pc {ops:Array Oper} {rest:List Oper} {o:Oper} {a:Act} {W:World} {Q:Exit→Act→World→Prop} (hgd:o.guard=none) {s x:Operand} {t1:TypeId} (ho:o.op=.call { callee:=.builtin .append,args:=#[s,x],argTypes:=#[t1,t1] }) (ht:Tryz.prog.underlying t1=some (.slice 75))
  {base:Nat} {v:Value} {n:Nat} {xs:List Value} (hs:a.eval s=v) (hown:W.ownsRow base 75 3 v n xs) {nb c:Nat} {y:PC} (hx:a.eval x=.slice (some ⟨nb,0,none⟩) 1 c)
  (hnb:W.heap[nb]?=some (.cells #[.int .i64 y.x,.int .i64 y.y,.int .i64 y.st] 75 (0,0))) (hn:n≤4000000000000) (hbase:base≤W.heap.size)
  (h:∀ g cap w',w'.ownsRow base 75 3 (.slice (some ⟨g,0,none⟩) (n+1) cap) (n+1) (xs++[.int .i64 y.x,.int .i64 y.y,.int .i64 y.st])→(∀ b,b<W.heap.size→v.ownBlock≠some b→w'.heap[b]?=W.heap[b]?)→Fr v.ownBlock.toList W w'→(v.ownBlock=some g∨g=W.heap.size)→g<w'.heap.size →
   wpList Tryz.prog ops Q rest (a.put o.dst (.slice (some ⟨g,0,none⟩) (n+1) cap)) w'):wpList Tryz.prog ops Q (o::rest) a W :=
 append_new hgd ho ht info_cell rfl (by decide) hs hown hx (news:=[.int .i64 y.x,.int .i64 y.y,.int .i64 y.st]) hnb rfl (by intro u hu;simp at hu;rcases hu with rfl|rfl|rfl<;>rfl) (by unfold maxLen;omega) (by omega) hbase h
theorem pcs_snoc (l:List PC) (c:PC):pcs l++[.int .i64 c.x,.int .i64 c.y,.int .i64 c.st]=pcs (l++[c]):=by simp [pcs]
theorem append_pp {ops:Array Oper} {rest:List Oper} {o:Oper} {a:Act} {W:World} {Q:Exit→Act→World→Prop} (hgd:o.guard=none) {s x:Operand} (ho:o.op=.call { callee:=.builtin .append,args:=#[s,x],argTypes:=#[51,51] })
  {base:Nat} {v:Value} {n:Nat} {xs:List Value} (hs:a.eval s=v) (hown:W.ownsRow base 75 3 v n xs) {nb c:Nat} {y:PC} (hx:a.eval x=.slice (some ⟨nb,0,none⟩) 1 c)
  (hnb:W.heap[nb]?=some (.cells #[.int .i64 y.x,.int .i64 y.y,.int .i64 y.st] 75 (0,0))) (hn:n≤4000000000000) (hbase:base≤W.heap.size)
  (h:∀ g cap w',w'.ownsRow base 75 3 (.slice (some ⟨g,0,none⟩) (n+1) cap) (n+1) (xs++[.int .i64 y.x,.int .i64 y.y,.int .i64 y.st])→(∀ b,b<W.heap.size→v.ownBlock≠some b→w'.heap[b]?=W.heap[b]?)→Fr v.ownBlock.toList W w'→(v.ownBlock=some g∨g=W.heap.size)→g<w'.heap.size →
   wpList Tryz.prog ops Q rest (a.put o.dst (.slice (some ⟨g,0,none⟩) (n+1) cap)) w'):wpList Tryz.prog ops Q (o::rest) a W :=
 append_pc hgd ho Tryz.underlying51 hs hown hx hnb hn hbase h
def FromPost (w:World) (l:List PC) (e:Ending) (w':World):Prop :=
 ∃ v,e=.returned (.tuple #[v,.int .i64 (fromP l).2])∧w'.ownsRow w.heap.size 75 3 v (fromP l).1.length (pcs (fromP l).1)∧Fr [] w w'
theorem owns_none (w:World) (base e size:Nat):w.ownsRow base e size (.slice none 0 0) 0 []:=⟨by simp,.inl ⟨rfl,rfl⟩⟩
set_option maxHeartbeats 8000000 in
theorem PFrom_calls {w:World} {l:List PC} {a:Option Addr} {c:Nat} (hl:CellsAt w (.slice a l.length c) l) (hlen:l.length≤60000) :
  Calls Tryz.prog 56 #[.slice a l.length c] w (FromPost w l):=by
 have Hl:=Lib.hid hl
 have HLEN:=Lib.hid hlen
 clear hl
 go_enter Tryz.func56,Tryz.ntmps56
 go_wp2
 go_loopw [4,10] (fun x4 x wr=>∃ k:Nat,x=.int .i64 k∧k≤l.length∧badP (l.take k)=0∧Fr [] w wr∧wr.ownsRow w.heap.size 75 3 x4 (someP (l.take k)).length (pcs (someP (l.take k)))) (fun _ x _=>l.length - (intOf x).toNat)
 case atStart=>exact⟨0,rfl,by omega,rfl,Fr.refl _ _,owns_none _ _ _ _⟩
 case round =>
  obtain⟨k,rfl,hk,hb,hf,ho⟩:=hrel
  have Hb:=Lib.hid hb
  have Hf:=Lib.hid hf
  have Ho:=Lib.hid ho
  clear hb hf ho
  by_cases hlt:k<l.length
  ·obtain⟨⟨x,y,st⟩,hp⟩:∃ p,l[k]?=some p:=⟨_,List.getElem?_eq_getElem hlt⟩
   obtain⟨g,off,rfl,hg,e0,e1,e2⟩:=(Hl.out.fr Hf.out).cell hp
   simp only at e0 e1 e2
   have HAT:=Lib.hid (at_p ⟨x,y,st⟩)
   have HPL:=Lib.hid (placed_p ⟨x,y,st⟩)
   unfold pcV at HAT
   simp only at HAT HPL
   have HX:=Lib.hid (And.intro (bad_here Hb.out hp) (And.intro (bad_next Hb.out hp) (some_next hp)))
   have hsl:(someP (l.take k)).length≤k:=Nat.le_trans (List.length_filter_le _ _) (by simp;omega)
   have HSL:=Lib.hid hsl
   clear hp hsl
   simp only [badP] at HX
   generalize placeB x y=pl at HX HPL
   cases pl with
   | false =>
    have HR:=Lib.hid (fromP_bad (l:=l) (by rw [HX.out.1 (by simp)];simp))
    have HR2:=Lib.hid (HX.out.1 (by simp))
    go_wp2_with fail
    refine (HAT.out _).mono ?_
    rintro e w1 ⟨rfl,hg1⟩
    have hf:=hg1.fr
    have hm_:=(hf.block (wr.heap.size) (by first|(simp;done)|(simp;omega)) (by simp)).trans (show _=some (.cells #[.int .i64 x,.int .i64 y,.int .i64 st] 75 (0,0)) by (repeat first|rw [if_pos (by omega)]|rw [if_neg (by omega)]|rw [hDR]|rw [hDN]|rw [hAz]|rw [hSz]|rw [hAC]|rw [hSC]|rw [oMS]|rw [uPC]|rw [lSZ]|rw [lSS]|rfl))
    have m0:=hEC hm_ 0
    have m1:=hEC hm_ 1
    have m2:=hEC hm_ 2
    have ml:=lBk hm_
    have Hm:=Lib.hid hm_
    clear hm_
    have Hf1:=Lib.hid (Fr.trans0 (by have:=Hf.out;(repeat first|exact Fr.refl _ _|assumption|apply Fr.n|apply Fr.d|apply Fr.a|refine Fr.s ?_ (.inr (by simp;try omega)) _)) hf:Fr [] w w1)
    have Ho1:=Lib.hid (oOB (w':=w1) Ho.out fun g hg=>(hf.block g (by have:=oLT Ho.out hg;simp;omega) (by simp)).trans (by have:=oLT Ho.out hg;(repeat first|rw [if_pos (by omega)]|rw [if_neg (by omega)]|rw [hDR]|rw [hDN]|rw [hAz]|rw [hSz]|rw [hAC]|rw [hSC]|rw [oMS]|rw [uPC]|rw [lSZ]|rw [lSS]|rfl)))
    clear hf hg1
    go_wp2_with fail
    refine (HPL.out _).mono ?_
    rintro e w2 ⟨rfl,hg2⟩
    have hf:=hg2.fr
    (try clear m0)
    (try clear m1)
    (try clear m2)
    (try clear ml)
    have hm_:=(hf.block _ (lBk Hm.out) (by simp)).trans Hm.out
    clear Hm
    have m0:=hEC hm_ 0
    have m1:=hEC hm_ 1
    have m2:=hEC hm_ 2
    have ml:=lBk hm_
    have Hm:=Lib.hid hm_
    clear hm_
    have Hf2:=Lib.hid (Hf1.out.trans0 hf)
    have Ho2:=Lib.hid (oOB (w':=w2) Ho1.out fun g hg=>hf.block g (oLT Ho1.out hg) (by simp))
    clear hf hg2 Hf1 e0 e1 e2 Ho1
    go_wp2
    go_ret2
    unfold FromPost
    rw [HR.out,HR2.out]
    exact⟨_,rfl,owns_none _ _ _ _,Hf2.out⟩
   | true =>
    by_cases h0:st<0
    ·have hd:decide (st<0)=true:=by simpa using h0
     have HR:=Lib.hid (fromP_bad (l:=l) (by rw [HX.out.1 (by simp [h0])];simp [h0]))
     have HR2:=Lib.hid (HX.out.1 (by simp [h0]))
     go_wp2_with fail
     refine (HAT.out _).mono ?_
     rintro e w1 ⟨rfl,hg1⟩
     have hf:=hg1.fr
     have hm_:=(hf.block (wr.heap.size) (by first|(simp;done)|(simp;omega)) (by simp)).trans (show _=some (.cells #[.int .i64 x,.int .i64 y,.int .i64 st] 75 (0,0)) by (repeat first|rw [if_pos (by omega)]|rw [if_neg (by omega)]|rw [hDR]|rw [hDN]|rw [hAz]|rw [hSz]|rw [hAC]|rw [hSC]|rw [oMS]|rw [uPC]|rw [lSZ]|rw [lSS]|rfl))
     have m0:=hEC hm_ 0
     have m1:=hEC hm_ 1
     have m2:=hEC hm_ 2
     have ml:=lBk hm_
     have Hm:=Lib.hid hm_
     clear hm_
     have Hf1:=Lib.hid (Fr.trans0 (by have:=Hf.out;(repeat first|exact Fr.refl _ _|assumption|apply Fr.n|apply Fr.d|apply Fr.a|refine Fr.s ?_ (.inr (by simp;try omega)) _)) hf:Fr [] w w1)
     have Ho1:=Lib.hid (oOB (w':=w1) Ho.out fun g hg=>(hf.block g (by have:=oLT Ho.out hg;simp;omega) (by simp)).trans (by have:=oLT Ho.out hg;(repeat first|rw [if_pos (by omega)]|rw [if_neg (by omega)]|rw [hDR]|rw [hDN]|rw [hAz]|rw [hSz]|rw [hAC]|rw [hSC]|rw [oMS]|rw [uPC]|rw [lSZ]|rw [lSS]|rfl)))
     clear hf hg1
     go_wp2_with fail
     refine (HPL.out _).mono ?_
     rintro e w2 ⟨rfl,hg2⟩
     have hf:=hg2.fr
     (try clear m0)
     (try clear m1)
     (try clear m2)
     (try clear ml)
     have hm_:=(hf.block _ (lBk Hm.out) (by simp)).trans Hm.out
     clear Hm
     have m0:=hEC hm_ 0
     have m1:=hEC hm_ 1
     have m2:=hEC hm_ 2
     have ml:=lBk hm_
     have Hm:=Lib.hid hm_
     clear hm_
     have Hf2:=Lib.hid (Hf1.out.trans0 hf)
     have Ho2:=Lib.hid (oOB (w':=w2) Ho1.out fun g hg=>hf.block g (oLT Ho1.out hg) (by simp))
     clear hf hg2 Hf1 e0 e1 e2 Ho1
     go_wp2
     go_ret2
     unfold FromPost
     rw [HR.out,HR2.out]
     simp only [h0,true_or,if_true,Bool.true_eq_false,if_false]
     exact⟨_,rfl,owns_none _ _ _ _,Hf2.out⟩
    ·have hd:decide (st<0)=false:=by simpa using h0
     by_cases h8:st ≥ 8
     ·have hd8:decide (st ≥ 8)=true:=by simpa using h8
      have h8':8≤st:=h8
      have HR:=Lib.hid (fromP_bad (l:=l) (by rw [HX.out.1 (by simp [h8'])];simp [h8']))
      have HR2:=Lib.hid (HX.out.1 (by simp [h8']))
      go_wp2_with fail
      refine (HAT.out _).mono ?_
      rintro e w1 ⟨rfl,hg1⟩
      have hf:=hg1.fr
      have hm_:=(hf.block (wr.heap.size) (by first|(simp;done)|(simp;omega)) (by simp)).trans (show _=some (.cells #[.int .i64 x,.int .i64 y,.int .i64 st] 75 (0,0)) by (repeat first|rw [if_pos (by omega)]|rw [if_neg (by omega)]|rw [hDR]|rw [hDN]|rw [hAz]|rw [hSz]|rw [hAC]|rw [hSC]|rw [oMS]|rw [uPC]|rw [lSZ]|rw [lSS]|rfl))
      have m0:=hEC hm_ 0
      have m1:=hEC hm_ 1
      have m2:=hEC hm_ 2
      have ml:=lBk hm_
      have Hm:=Lib.hid hm_
      clear hm_
      have Hf1:=Lib.hid (Fr.trans0 (by have:=Hf.out;(repeat first|exact Fr.refl _ _|assumption|apply Fr.n|apply Fr.d|apply Fr.a|refine Fr.s ?_ (.inr (by simp;try omega)) _)) hf:Fr [] w w1)
      have Ho1:=Lib.hid (oOB (w':=w1) Ho.out fun g hg=>(hf.block g (by have:=oLT Ho.out hg;simp;omega) (by simp)).trans (by have:=oLT Ho.out hg;(repeat first|rw [if_pos (by omega)]|rw [if_neg (by omega)]|rw [hDR]|rw [hDN]|rw [hAz]|rw [hSz]|rw [hAC]|rw [hSC]|rw [oMS]|rw [uPC]|rw [lSZ]|rw [lSS]|rfl)))
      clear hf hg1
      go_wp2_with fail
      refine (HPL.out _).mono ?_
      rintro e w2 ⟨rfl,hg2⟩
      have hf:=hg2.fr
      (try clear m0)
      (try clear m1)
      (try clear m2)
      (try clear ml)
      have hm_:=(hf.block _ (lBk Hm.out) (by simp)).trans Hm.out
      clear Hm
      have m0:=hEC hm_ 0
      have m1:=hEC hm_ 1
      have m2:=hEC hm_ 2
      have ml:=lBk hm_
      have Hm:=Lib.hid hm_
      clear hm_
      have Hf2:=Lib.hid (Hf1.out.trans0 hf)
      have Ho2:=Lib.hid (oOB (w':=w2) Ho1.out fun g hg=>hf.block g (oLT Ho1.out hg) (by simp))
      clear hf hg2 Hf1 e0 e1 e2 Ho1
      go_wp2
      go_ret2
      unfold FromPost
      rw [HR.out,HR2.out]
      simp only [h8',or_true,if_true,Bool.true_eq_false,if_false]
      exact⟨_,rfl,owns_none _ _ _ _,Hf2.out⟩
     ·have hd8:decide (st ≥ 8)=false:=by simpa using h8
      have hbz:¬ (st<0∨8≤st):=by omega
      simp only [hbz,if_false,Bool.true_eq_false] at HX
      by_cases hs:st > 0
      ·have hds:decide (st > 0)=true:=by simpa using hs
       have hst:st≠0:=by omega
       simp only [hst,ne_eq,not_false_eq_true,if_true] at HX
       go_wp2_with fail
       refine (HAT.out _).mono ?_
       rintro e w1 ⟨rfl,hg1⟩
       have hf:=hg1.fr
       have hm_:=(hf.block (wr.heap.size) (by first|(simp;done)|(simp;omega)) (by simp)).trans (show _=some (.cells #[.int .i64 x,.int .i64 y,.int .i64 st] 75 (0,0)) by (repeat first|rw [if_pos (by omega)]|rw [if_neg (by omega)]|rw [hDR]|rw [hDN]|rw [hAz]|rw [hSz]|rw [hAC]|rw [hSC]|rw [oMS]|rw [uPC]|rw [lSZ]|rw [lSS]|rfl))
       have m0:=hEC hm_ 0
       have m1:=hEC hm_ 1
       have m2:=hEC hm_ 2
       have ml:=lBk hm_
       have Hm:=Lib.hid hm_
       clear hm_
       have Hf1:=Lib.hid (Fr.trans0 (by have:=Hf.out;(repeat first|exact Fr.refl _ _|assumption|apply Fr.n|apply Fr.d|apply Fr.a|refine Fr.s ?_ (.inr (by simp;try omega)) _)) hf:Fr [] w w1)
       have Ho1:=Lib.hid (oOB (w':=w1) Ho.out fun g hg=>(hf.block g (by have:=oLT Ho.out hg;simp;omega) (by simp)).trans (by have:=oLT Ho.out hg;(repeat first|rw [if_pos (by omega)]|rw [if_neg (by omega)]|rw [hDR]|rw [hDN]|rw [hAz]|rw [hSz]|rw [hAC]|rw [hSC]|rw [oMS]|rw [uPC]|rw [lSZ]|rw [lSS]|rfl)))
       clear hf hg1
       go_wp2_with fail
       refine (HPL.out _).mono ?_
       rintro e w2 ⟨rfl,hg2⟩
       have hf:=hg2.fr
       (try clear m0)
       (try clear m1)
       (try clear m2)
       (try clear ml)
       have hm_:=(hf.block _ (lBk Hm.out) (by simp)).trans Hm.out
       clear Hm
       have m0:=hEC hm_ 0
       have m1:=hEC hm_ 1
       have m2:=hEC hm_ 2
       have ml:=lBk hm_
       have Hm:=Lib.hid hm_
       clear hm_
       have Hf2:=Lib.hid (Hf1.out.trans0 hf)
       have Ho2:=Lib.hid (oOB (w':=w2) Ho1.out fun g hg=>hf.block g (oLT Ho1.out hg) (by simp))
       clear hf hg2 Hf1 e0 e1 e2 Ho1
       go_wp2_with (at_builtin;refine append_pp (n:=(someP (l.take k)).length) (base:=w.heap.size) (xs:=(pcs (someP (l.take k)))) (y:=(⟨x,y,st⟩:PC)) rfl rfl rfl ?e1 rfl ?e2 ?e3 ?e4 ?_)
       case e1=>exact oOB Ho2.out fun y hy=>hAE _ _ _ (oLT Ho2.out hy)
       case e2=>first|(first|(rw [hAC,if_pos rfl];done)|exact (Array.getElem?_eq_some_iff.1 ((hAC _ _ _).trans (if_pos rfl))).2|(simp only [hDR,hDN];rw [hAC,if_pos rfl];done))|(repeat first|rw [if_pos (by omega)]|rw [if_neg (by omega)]|rw [hDR]|rw [hDN]|rw [hAz]|rw [hSz]|rw [hAC]|rw [hSC]|rw [oMS]|rw [uPC]|rw [lSZ]|rw [lSS]|rfl)
       case e3=>(have:=HSL.out;have:=HLEN.out;omega)
       case e4=>have:=Hf2.out.size;(first|omega|(simp only [hDR,hDN,hAz];omega)|(simp;omega))
       intro g2 cap w9 hown1 hW1 hF1 hloc1 hg1
       rw [(pcs_snoc _ ⟨x,y,st⟩)] at hown1
       have Hown1:=Lib.hid hown1
       have Hf9:=Lib.hid (fr_append Hf2.out Ho2.out hF1)
       clear hown1 hW1 hF1 hloc1
       go_wp2
       go_roundw
       case rel =>
        refine⟨k+1,by go_num,by omega,HX.out.2.1 (by simp),Hf9.out,?_⟩
        rw [HX.out.2.2,List.length_append]
        exact Hown1.out
       case measure=>simp [intOf];omega
      ·have hst0:st=0:=by omega
       have hds:decide (st > 0)=false:=by simpa using hs
       simp only [hst0,ne_eq,not_true_eq_false,if_false,List.append_nil] at HX
       clear hst0
       go_wp2_with fail
       refine (HAT.out _).mono ?_
       rintro e w1 ⟨rfl,hg1⟩
       have hf:=hg1.fr
       have hm_:=(hf.block (wr.heap.size) (by first|(simp;done)|(simp;omega)) (by simp)).trans (show _=some (.cells #[.int .i64 x,.int .i64 y,.int .i64 st] 75 (0,0)) by (repeat first|rw [if_pos (by omega)]|rw [if_neg (by omega)]|rw [hDR]|rw [hDN]|rw [hAz]|rw [hSz]|rw [hAC]|rw [hSC]|rw [oMS]|rw [uPC]|rw [lSZ]|rw [lSS]|rfl))
       have m0:=hEC hm_ 0
       have m1:=hEC hm_ 1
       have m2:=hEC hm_ 2
       have ml:=lBk hm_
       have Hm:=Lib.hid hm_
       clear hm_
       have Hf1:=Lib.hid (Fr.trans0 (by have:=Hf.out;(repeat first|exact Fr.refl _ _|assumption|apply Fr.n|apply Fr.d|apply Fr.a|refine Fr.s ?_ (.inr (by simp;try omega)) _)) hf:Fr [] w w1)
       have Ho1:=Lib.hid (oOB (w':=w1) Ho.out fun g hg=>(hf.block g (by have:=oLT Ho.out hg;simp;omega) (by simp)).trans (by have:=oLT Ho.out hg;(repeat first|rw [if_pos (by omega)]|rw [if_neg (by omega)]|rw [hDR]|rw [hDN]|rw [hAz]|rw [hSz]|rw [hAC]|rw [hSC]|rw [oMS]|rw [uPC]|rw [lSZ]|rw [lSS]|rfl)))
       clear hf hg1
       go_wp2_with fail
       refine (HPL.out _).mono ?_
       rintro e w2 ⟨rfl,hg2⟩
       have hf:=hg2.fr
       (try clear m0)
       (try clear m1)
       (try clear m2)
       (try clear ml)
       have hm_:=(hf.block _ (lBk Hm.out) (by simp)).trans Hm.out
       clear Hm
       have m0:=hEC hm_ 0
       have m1:=hEC hm_ 1
       have m2:=hEC hm_ 2
       have ml:=lBk hm_
       have Hm:=Lib.hid hm_
       clear hm_
       have Hf2:=Lib.hid (Hf1.out.trans0 hf)
       have Ho2:=Lib.hid (oOB (w':=w2) Ho1.out fun g hg=>hf.block g (oLT Ho1.out hg) (by simp))
       clear hf hg2 Hf1 e0 e1 e2 Ho1
       go_wp2
       go_roundw
       case rel =>
        refine⟨k+1,by go_num,by omega,HX.out.2.1 (by simp),Hf2.out,?_⟩
        rw [HX.out.2.2]
        exact Ho2.out
       case measure=>simp [intOf];omega
  ·obtain rfl:k=l.length:=by omega
   rw [List.take_length] at Ho Hb
   have hbl:badP l=0:=Hb.out
   have hml:(someP l).length≤l.length:=List.length_filter_le _ _
   go_wp2_with fail
   refine (sort_calls Ho.out (by have:=HLEN.out;omega)).mono ?_
   rintro e w5 ⟨rfl,q,hperm,hweak,hown,hf⟩
   have hfr:Fr [] w w5:=Hf.out.trans hf fun x hx=>.inr (owns_ge Ho.out (by simpa using hx))
   obtain⟨_,a5,c5,rfl,_⟩:=Reads.of_owns hown
   have hfrom:=fromP_of hbl hweak hperm
   have hql:q.length≤60000:=by have:=hperm.length_eq;have:=HLEN.out;omega
   have HFP:=Lib.hid hfrom
   have HW:=Lib.hid hweak
   have HO5:=Lib.hid hown
   have Hf5:=Lib.hid hfr
   clear hbl hml hperm hweak hown hf hfr hfrom Ho Hb Hf hk hlt
   go_wp2
   go_loopw [7] (fun x wr=>∃ i:Nat,x=.int .i64 ((i:Int)+1)∧i≤q.length∧(i=0∨i+1≤q.length)∧(∀ j,j<i→samePos (q.getD j z3) (q.getD (j+1) z3)=false)∧Fr [] w5 wr) (fun x _=>q.length+1 - (intOf x).toNat)
   case atStart=>exact⟨0,by simp,by omega,.inl rfl,by omega,Fr.refl _ _⟩
   case round =>
    obtain⟨i,rfl,hi,hi2,hn,hf⟩:=hrel
    have Hf:=Lib.hid hf
    have Hn:=Lib.hid hn
    clear hf hn
    by_cases hlt:i+1<q.length
    ·have hd:decide ((i:Int)+1<(q.length:Int))=true:=by simp;omega
     obtain⟨⟨x,y,st⟩,hp⟩:∃ p,q[i]?=some p:=⟨_,List.getElem?_eq_getElem (by omega)⟩
     obtain⟨⟨u,v,su⟩,hq⟩:∃ p,q[i+1]?=some p:=⟨_,List.getElem?_eq_getElem hlt⟩
     have hra:∀ w1,Fr [] w5 w1→CellsAt w1 (.slice a5 q.length c5) q:=fun w1 h=>CellsAt.fr (Reads.of_owns HO5.out) h
     have HRA:=Lib.hid hra
     obtain⟨g,off,rfl,hg,e0,e1,e2⟩:=(hra _ Hf.out).cell hp
     obtain⟨g',off',he,_,e3,e4,e5⟩:=(hra _ Hf.out).cell hq
     cases he
     simp only at e0 e1 e2 e3 e4 e5
     have hAX:=at_p ⟨x,y,st⟩
     have hAU:=at_p ⟨u,v,su⟩
     unfold pcV at hAX hAU
     have HAX:=Lib.hid hAX
     have HAU:=Lib.hid hAU
     have hsp:samePos (q.getD i z3) (q.getD (i+1) z3)=(x == u && y == v):=by
      rw [List.getD_eq_getElem?_getD,hp,List.getD_eq_getElem?_getD,hq]
      unfold samePos
      rw [Bool.eq_iff_iff];simp
     have HSP:=Lib.hid hsp
     have Hq:=Lib.hid hq
     clear hp hq hsp hra hAX hAU
     go_wp2
     refine wRS [([0,1,2,3,4,6,7,8,9,5],[9]),([10,11],[])] (by kernel_rfl) (by kernel_rfl) ?_
     (simp only [wpSegs,pick,Array.getD_eq_getD_getElem?,List.getElem?_toArray,List.getElem?_cons_succ,List.getElem?_cons_zero,Option.getD_some])
     go_wp2_with fail
     refine (HAX.out _).mono ?_
     rintro e w6 ⟨rfl,hg6⟩
     have hf6:=Hf.out.trans0 (Fr.trans0 (by (repeat first|exact Fr.refl _ _|assumption|apply Fr.n|apply Fr.d|apply Fr.a|refine Fr.s ?_ (.inr (by simp;try omega)) _)) hg6.fr)
     have Hf6:=Lib.hid hf6
     clear hf6 hg6 e0 e1 e2 e3 e4 e5
     obtain⟨g',off',he,_,e3,e4,e5⟩:=(HRA.out _ Hf6.out).cell Hq.out
     cases he
     simp only at e3 e4 e5
     go_wp2
     refine Mid.intro ⟨⟨aGR (T:=75) (cs:=[.int .i64 u,.int .i64 v,.int .i64 su]) rfl rfl rfl Tryz.underlying75 rfl (by kernel_rfl) (fun j v hj=>?rng) rfl,trivial⟩,?_⟩
     case rng =>
      rcases j with _|_|_|j
      ·simp only [List.getElem?_cons_zero,Option.some.injEq] at hj
       subst hj
       exact e3
      ·simp only [List.getElem?_cons_zero,List.getElem?_cons_succ,Option.some.injEq] at hj
       subst hj
       exact e4
      ·simp only [List.getElem?_cons_zero,List.getElem?_cons_succ,Option.some.injEq] at hj
       subst hj
       exact e5
      ·simp at hj
     go_wp2_with fail
     refine (HAU.out _).mono ?_
     rintro e w7 ⟨rfl,hg7⟩
     have Hf7:=Lib.hid (Hf6.out.trans0 hg7.fr)
     clear hg7 e3 e4 e5
     by_cases hx:x=u
     ·subst hx
      by_cases hy:y=v
      ·subst hy
       have HT:=Lib.hid (weak_twice HW.out hlt (HSP.out.trans (by simp)))
       have hfrom:=HFP.out
       rw [HT.out] at hfrom
       simp only [if_true] at hfrom
       have HFQ:=Lib.hid hfrom
       clear hfrom
       go_wp2
       refine Mid.intro ⟨trivial,Strict.intro rfl ?_⟩
       go_wp2
       go_ret2
       unfold FromPost
       rw [HFQ.out]
       exact⟨_,rfl,owns_none _ _ _ _,Hf5.out.trans0 Hf7.out⟩
      ·have hyb:(y == v)=false:=by simpa using hy
       have HSF:=Lib.hid (HSP.out.trans (show (x == x && y == v)=false by simp [hy]))
       clear hy
       go_wp2
       refine Mid.intro ⟨trivial,Strict.intro rfl ?_⟩
       go_wp2
       go_roundw
       case rel =>
        refine⟨i+1,by go_num,by omega,.inr (by omega),fun j hj=>?_,Hf7.out⟩
        rcases Nat.lt_or_ge j i with h|h
        ·exact Hn.out j h
        ·obtain rfl:j=i:=by omega
         exact HSF.out
       case measure=>simp [intOf];omega
     ·have hxb:(x == u)=false:=by simpa using hx
      have HSF:=Lib.hid (HSP.out.trans (show (x == u && y == v)=false by simp [hx]))
      clear hx
      go_wp2
      refine Mid.intro ⟨trivial,Strict.intro rfl ?_⟩
      go_wp2
      go_roundw
      case rel =>
       refine⟨i+1,by go_num,by omega,.inr (by omega),fun j hj=>?_,Hf7.out⟩
       rcases Nat.lt_or_ge j i with h|h
       ·exact Hn.out j h
       ·obtain rfl:j=i:=by omega
        exact HSF.out
      case measure=>simp [intOf];omega
    ·have hd:decide ((i:Int)+1<(q.length:Int))=false:=by simp;omega
     have hst:=weak_once HW.out (fun j hj=>Hn.out j (by omega))
     have hfrom:=HFP.out
     rw [hst] at hfrom
     simp only [Bool.true_eq_false,if_false] at hfrom
     by_cases h5:5000<q.length
     ·have hd5:decide ((q.length:Int) > 5000)=true:=by simp;omega
      rw [if_pos h5] at hfrom
      have HFQ:=Lib.hid hfrom
      clear hfrom hst
      go_wp2
      go_ret2
      unfold FromPost
      rw [HFQ.out]
      exact⟨_,rfl,owns_none _ _ _ _,Hf5.out.trans0 Hf.out⟩
     ·have hd5:decide ((q.length:Int) > 5000)=false:=by simp;omega
      rw [if_neg h5] at hfrom
      have HFQ:=Lib.hid hfrom
      clear hfrom hst
      go_wp2
      go_ret2
      unfold FromPost
      rw [HFQ.out]
      exact⟨_,rfl,oOB HO5.out fun g hg=>Hf.out.block g (oLT HO5.out hg) (by simp),Hf5.out.trans0 Hf.out⟩
end Go.Proofs.YtdanghnadbkhfaaGreat
end
section
namespace Go.Proofs.YtdanghnadbkhfaaGreat
open Go Go.RowKit Rg Mp Hp Qs Ev Bn Pt
def AtPost (w:World) (n d:Int) (e:Ending) (w':World):Prop:=∃ a ok,e=.returned (.tuple #[.int .i64 a,.bool ok])∧(ok=true→a=n+d)∧(ok=false→n+d < -1048576∨1048576<n+d)∧w'=w
theorem mask40 {x:Int} (h0:0≤x) (h1:x<18446744073709551616):bits BinOp.and IntKind.u64 x 1099511627775=x % 1099511627776:=by
 obtain⟨n,rfl⟩:=Int.eq_ofNat_of_zero_le h0
 have e:=u64_and_nat n 1099511627775 (by omega) (by omega)
 rw [show (1099511627775:Nat)=2 ^ 40 - 1 from rfl,Nat.and_two_pow_sub_one_eq_mod] at e
 rw [show (n:Int) % 1099511627776=((n % 2 ^ 40:Nat):Int) by omega]
 exact e
theorem neg64 {n:Int} (h1:-9223372036854775808≤n) (h2:n<0):IntKind.u64.wrap (-IntKind.u64.wrap n)=-n:=by
 simp only [IntKind.wrap,IntKind.bits,IntKind.signed];simp;omega
theorem w64 {x:Int} (h1:-9223372036854775808≤x) (h2:x<9223372036854775808):wrap64 x=x:=by unfold wrap64;omega
theorem u64w {x:Int} (h1:0≤x) (h2:x<18446744073709551616):IntKind.u64.wrap x=x:=by
 simp only [IntKind.wrap,IntKind.bits,IntKind.signed];simp;omega
theorem at_q (w:World) (n d:Int) (h1:-9223372036854775808≤n) (h2:n<9223372036854775808) (h3:0≤d) (h4:d<18446744073709551616) :
  Calls Tryz.prog 95 #[.int .i64 n,.int .u64 d] w (AtPost w n d):=by
 have H:=Lib.hid (And.intro (And.intro h1 h2) (And.intro h3 h4))
 clear h1 h2 h3 h4
 by_cases hn:n ≥ 0
 ·have hd:decide (n ≥ 0)=true:=by simpa using hn
  obtain⟨m,hm⟩:∃ m,bits BinOp.and IntKind.u64 d 1099511627775=m:=⟨_,rfl⟩
  have HM:=Lib.hid ((mask40 H.out.2.1 H.out.2.2).symm.trans hm)
  by_cases hn1:n≤1048576
  ·have hb1:decide (n≤1048576)=true:=by simpa using hn1
   obtain⟨b2,hb2⟩:∃ b,decide (d≤1048576)=b:=⟨_,rfl⟩
   have HB:=Lib.hid hb2
   have HN:=Lib.hid (And.intro hn hn1)
   clear hn hn1
   go_enter Tryz.func95,Tryz.ntmps95
   go_wp2
   go_ret2
   refine⟨_,_,rfl,fun h=>?_,fun h=>?_,rfl⟩
   ·have h1:=HB.out;have h2:=HM.out;have h3:=HN.out;have h4:=H.out
    rw [h] at h1
    simp only [decide_eq_true_eq] at h1
    have h5:m=d:=by omega
    rw [h5,w64 (x:=d) (by omega) (by omega),w64 (by omega) (by omega)]
   ·have h1:=HB.out;have h3:=HN.out
    rw [h] at h1
    simp only [decide_eq_false_iff_not] at h1
    omega
  ·have hb1:decide (n≤1048576)=false:=by simpa using hn1
   have HN:=Lib.hid hn1
   clear hn hn1
   go_enter Tryz.func95,Tryz.ntmps95
   go_wp2
   go_ret2
   refine⟨_,_,rfl,fun h=>(by cases h),fun h=>?_,rfl⟩
   have h3:=HN.out;have h4:=H.out
   omega
 ·have hd:decide (n ≥ 0)=false:=by simpa using hn
  have hm:=neg64 H.out.1.1 (by omega)
  obtain⟨m,hnm⟩:∃ m,-n=m:=⟨_,rfl⟩
  rw [hnm] at hm
  have HNM:=Lib.hid (And.intro hnm hn)
  clear hnm hn
  by_cases hdm:m≤d
  ·have hdb:decide (d ≥ m)=true:=by simpa using hdm
   have hs:IntKind.u64.wrap (d - m)=d - m:=u64w (by omega) (by have:=HNM.out;have:=H.out;omega)
   obtain⟨k,hk⟩:∃ k,d - m=k:=⟨_,rfl⟩
   rw [hk] at hs
   obtain⟨x,hx⟩:∃ x,bits BinOp.and IntKind.u64 k 1099511627775=x:=⟨_,rfl⟩
   have HX:=Lib.hid ((mask40 (by omega) (by have:=HNM.out;have:=H.out;omega)).symm.trans hx)
   have HK:=Lib.hid hk
   obtain⟨b2,hb2⟩:∃ b,decide (k≤1048576)=b:=⟨_,rfl⟩
   have HB:=Lib.hid hb2
   have hdk:IntKind.u64.wrap (d - m)=k:=by rw [hk];exact hs
   have HD:=Lib.hid hdm
   clear hdm hk hs
   go_enter Tryz.func95,Tryz.ntmps95
   go_wp2
   go_ret2
   refine⟨_,_,rfl,fun h=>?_,fun h=>?_,rfl⟩
   ·have h1:=HB.out;have h2:=HX.out;have h3:=HNM.out;have h4:=H.out;have h5:=HK.out
    rw [h] at h1
    simp only [decide_eq_true_eq] at h1
    have h6:=HD.out
    rw [w64 (by omega) (by omega)]
    omega
   ·have h1:=HB.out;have h3:=HNM.out;have h5:=HK.out
    rw [h] at h1
    simp only [decide_eq_false_iff_not] at h1
    omega
  ·have hdb:decide (d ≥ m)=false:=by simpa using hdm
   have hs:IntKind.u64.wrap (m - d)=m - d:=u64w (by omega) (by have:=HNM.out;have:=H.out;omega)
   obtain⟨k,hk⟩:∃ k,m - d=k:=⟨_,rfl⟩
   rw [hk] at hs
   obtain⟨x,hx⟩:∃ x,bits BinOp.and IntKind.u64 k 1099511627775=x:=⟨_,rfl⟩
   have HX:=Lib.hid ((mask40 (by omega) (by have:=HNM.out;have:=H.out;omega)).symm.trans hx)
   have HK:=Lib.hid hk
   obtain⟨b2,hb2⟩:∃ b,decide (k≤1048576)=b:=⟨_,rfl⟩
   have HB:=Lib.hid hb2
   have hdk:IntKind.u64.wrap (m - d)=k:=by rw [hk];exact hs
   have HD:=Lib.hid hdm
   clear hdm hk hs
   go_enter Tryz.func95,Tryz.ntmps95
   go_wp2
   go_ret2
   refine⟨_,_,rfl,fun h=>?_,fun h=>?_,rfl⟩
   ·have h1:=HB.out;have h2:=HX.out;have h3:=HNM.out;have h4:=H.out;have h5:=HK.out;have h6:=HD.out
    rw [h] at h1
    simp only [decide_eq_true_eq] at h1
    rw [w64 (x:=x) (by omega) (by omega),w64 (by omega) (by omega)]
    omega
   ·have h1:=HB.out;have h3:=HNM.out;have h5:=HK.out;have h6:=HD.out
    rw [h] at h1
    simp only [decide_eq_false_iff_not] at h1
    omega
end Go.Proofs.YtdanghnadbkhfaaGreat
end
section
namespace Go.Proofs.YtdanghnadbkhfaaGreat
open Go Go.RowKit Rg Mp Hp Qs Ev Bn Pt
def inB (n f:Int) (L:Nat):Bool:=decide (f≤n∧n - f<((2 ^ L:Nat):Int))
def OffPost (w:World) (n f:Int) (L:Nat) (e:Ending) (w':World):Prop:=∃ d:Int,e=.returned (.tuple #[.int .u64 d,.bool (inB n f L)])∧(inB n f L=true→d=n - f∧d<18446744073709551616)∧w'=w
theorem sub64 {n f:Int} (h1:-9223372036854775808≤n) (h2:n<9223372036854775808) (h3:-9223372036854775808≤f) (h4:f<9223372036854775808) (h:f≤n):IntKind.u64.wrap (IntKind.u64.wrap n - IntKind.u64.wrap f)=n - f:=by
 simp only [IntKind.wrap,IntKind.bits,IntKind.signed];simp;omega
theorem div_zero {d:Int} (h:0≤d) {L:Nat}:(d / 2 ^ L == 0)=decide (d<((2 ^ L:Nat):Int)):=by
 have hp:(0:Int)<2 ^ L:=Int.pow_pos (by omega)
 rw [show ((2 ^ L:Nat):Int)=2 ^ L by simp,Bool.eq_iff_iff]
 simp only [beq_iff_eq,decide_eq_true_eq]
 constructor
 ·intro e
  have h1:=Int.lt_ediv_add_one_mul_self d hp
  rw [e] at h1;omega
 ·intro e
  exact Int.ediv_eq_zero_of_lt h e
theorem offset_q (w:World) (n f:Int) (L:Nat) (hL:L≤256) (h1:-9223372036854775808≤n) (h2:n<9223372036854775808) (h3:-9223372036854775808≤f) (h4:f<9223372036854775808) :
  Calls Tryz.prog 63 #[.int .i64 n,.int .i64 f,.int .i64 L] w (OffPost w n f L):=by
 by_cases hf:f≤n
 ·have hd:decide (n ≥ f)=true:=by simpa using hf
  have hs:=sub64 h1 h2 h3 h4 hf
  obtain⟨d,hdd⟩:∃ d,n - f=d:=⟨_,rfl⟩
  rw [hdd] at hs
  by_cases h64:64≤L
  ·have hd64:decide ((L:Int) ≥ 64)=true:=by simp;omega
   have hp:=Nat.pow_le_pow_right (n:=2) (by omega) h64
   have hin:inB n f L=true:=by unfold inB;rw [decide_eq_true_eq];omega
   have HR:=Lib.hid (And.intro hin (And.intro hdd (show d<18446744073709551616 by omega)))
   clear hf h1 h2 h3 h4 hdd h64 hp hin
   go_enter Tryz.func63,Tryz.ntmps63
   go_wp2
   go_ret2
   exact⟨d,by rw [HR.out.1];rfl,fun _=>⟨HR.out.2.1.symm,HR.out.2.2⟩,rfl⟩
  ·have hd64:decide ((L:Int) ≥ 64)=false:=by simp;omega
   have hsh:IntKind.u64.wrap (L:Int)=L:=u64w (by omega) (by omega)
   have hin:inB n f L=decide (d<((2 ^ L:Nat):Int)):=by unfold inB;rw [decide_eq_decide];omega
   have HR:=Lib.hid (And.intro hin (And.intro hdd (show d<18446744073709551616 by omega)))
   have H0:=Lib.hid (show 0≤d by omega)
   clear hf h1 h2 h3 h4 hdd hin
   go_enter Tryz.func63,Tryz.ntmps63
   go_wp2
   go_ret2
   refine⟨d,?_,fun _=>⟨HR.out.2.1.symm,HR.out.2.2⟩,rfl⟩
   rw [HR.out.1,← div_zero H0.out];rfl
 ·have hd:decide (n ≥ f)=false:=by simpa using hf
  have hin:inB n f L=false:=by unfold inB;rw [decide_eq_false_iff_not];omega
  have HR:=Lib.hid hin
  clear hf h1 h2 h3 h4 hin
  go_enter Tryz.func63,Tryz.ntmps63
  go_wp2
  go_ret2
  refine⟨IntKind.u64.wrap (IntKind.u64.wrap n - IntKind.u64.wrap f),?_,fun h=>?_,rfl⟩
  ·rw [HR.out];rfl
  ·rw [HR.out] at h;cases h
end Go.Proofs.YtdanghnadbkhfaaGreat
end
