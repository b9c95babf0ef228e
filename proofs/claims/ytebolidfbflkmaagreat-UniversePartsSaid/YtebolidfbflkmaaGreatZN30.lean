/- Own texts of this claim, part 31: no condition. -/
import Derived.Test.YtebolidfbflkmaaGreatZN29
import Derived.Test.YtebolidfbflkmaaGreatZN28
import Derived.Test.YtebolidfbflkmaaGreatZN17
import Derived.Test.YtebolidfbflkmaaGreatZN18
import Derived.Test.YtebolidfbflkmaaGreatZN11
set_option linter.unusedVariables false
set_option linter.unusedSimpArgs false
set_option maxHeartbeats 16000000
set_option maxRecDepth 100000
section
namespace Go.Proofs.Pt
theorem bad_here {l:List PC} {k:Nat} {c:PC} (h0:badP (l.take k)=0) (hc:l[k]?=some c) (hb:badP [c]≠0):badP l=badP [c]:=by
 have e:l=(l.take k++[c])++l.drop (k+1):=by rw [← List.take_append_drop k l,List.take_append_drop];have hk:=(List.getElem?_eq_some_iff.1 hc);obtain⟨hk,rfl⟩:=hk;rw [List.append_assoc,List.singleton_append,← List.drop_eq_getElem_cons hk,List.take_append_drop]
 have h1:badP (l.take k++[c])=badP [c]:=by rw [badP_snoc,h0];simp
 rw [e,badP_app (by rw [h1];exact hb),h1]
theorem bad_next {l:List PC} {k:Nat} {c:PC} (h0:badP (l.take k)=0) (hc:l[k]?=some c) (hb:badP [c]=0):badP (l.take (k+1))=0:=by rw [List.take_add_one,hc];show badP (l.take k++[c])=0;rw [badP_snoc,h0];simpa using hb
theorem some_next {l:List PC} {k:Nat} {c:PC} (hc:l[k]?=some c):someP (l.take (k+1))=someP (l.take k)++if c.st≠0 then [c] else []:=by rw [List.take_add_one,hc];show someP (l.take k++[c])=_;unfold someP;rw [List.filter_append];by_cases h:c.st=0<;>simp [h]
theorem fromP_bad {l:List PC} (h:badP l≠0):fromP l=([],badP l):=by unfold fromP;rw [if_pos h]
theorem weak_adj {q:List PC} (hw:Weak q) {i:Nat} (hi:i+1<q.length):samePos (q.getD i z3) (q.getD (i+1) z3)=!pBef (q.getD i z3) (q.getD (i+1) z3):=by apply samePos_iff;have:=List.pairwise_iff_getElem.1 hw i (i+1) o_ hi o_;rw [List.getD_eq_getElem?_getD,List.getD_eq_getElem?_getD,List.getElem?_eq_getElem hi,List.getElem?_eq_getElem o_];exact this
theorem weak_twice {q:List PC} (hw:Weak q) {i:Nat} (hi:i+1<q.length) (h:samePos (q.getD i z3) (q.getD (i+1) z3)=true):strictB q=false:=by
 rw [weak_adj hw hi] at h;cases hs:strictB q with
 | false=>rfl
 | true=>rw [strict_at hs hi] at h;cases h
theorem weak_once {q:List PC} (hw:Weak q) (h:∀ i,i+1<q.length→samePos (q.getD i z3) (q.getD (i+1) z3)=false):strictB q=true :=
 strict_mk fun i hi=>by have:=h i hi;rw [weak_adj hw hi] at this;simpa using this
end Go.Proofs.Pt
namespace Go.Proofs.YtebolidfbflkmaaGreat
open Go Go.RowKit Rg Hp Pt
theorem info_cell:(Tryz.prog.info? 41).map (fun i=>(i.zero,i.size,i.bytes))=some (some (.agg #[.int .i64 0,.int .i64 0,.int .i64 0]),3,24):=by kernel_rfl
theorem append_pc {ops:Array Oper} {rest:List Oper} {o:Oper} {a:Act} {W:World} {Q:Exit→Act→World→Prop} (hgd:o.guard=none) {s x:Operand} {t1:TypeId} (ho:o.op=.call { callee:=.builtin .append,args:=#[s,x],argTypes:=#[t1,t1] }) (ht:Tryz.prog.underlying t1=some (.slice 41))
  {base:Nat} {v:Value} {n:Nat} {xs:List Value} (hs:a.eval s=v) (hown:W.ownsRow base 41 3 v n xs) {nb c:Nat} {y:PC} (hx:a.eval x=.slice (some ⟨nb,0,none⟩) 1 c)
  (hnb:W.heap[nb]?=some (.cells #[.int .i64 y.x,.int .i64 y.y,.int .i64 y.st] 41 (0,0))) (hn:n≤4000000000000) (hbase:base≤W.heap.size)
  (h:∀ g cap w',w'.ownsRow base 41 3 (.slice (some ⟨g,0,none⟩) (n+1) cap) (n+1) (xs++[.int .i64 y.x,.int .i64 y.y,.int .i64 y.st])→(∀ b,b<W.heap.size→v.ownBlock≠some b→w'.heap[b]?=W.heap[b]?)→Fr v.ownBlock.toList W w'→(v.ownBlock=some g∨g=W.heap.size)→g<w'.heap.size →
   wpList Tryz.prog ops Q rest (a.put o.dst (.slice (some ⟨g,0,none⟩) (n+1) cap)) w'):wpList Tryz.prog ops Q (o::rest) a W :=
 append_new hgd ho ht info_cell rfl (by decide) hs hown hx (news:=[.int .i64 y.x,.int .i64 y.y,.int .i64 y.st]) hnb rfl (by intro u hu;simp at hu;rcases hu with rfl|rfl|rfl<;>rfl) (by unfold maxLen;omega) o_ hbase h
theorem pcs_snoc (l:List PC) (c:PC):pcs l++[.int .i64 c.x,.int .i64 c.y,.int .i64 c.st]=pcs (l++[c]):=by simp [pcs]
theorem append_pp {ops:Array Oper} {rest:List Oper} {o:Oper} {a:Act} {W:World} {Q:Exit→Act→World→Prop} (hgd:o.guard=none) {s x:Operand} (ho:o.op=.call { callee:=.builtin .append,args:=#[s,x],argTypes:=#[27,27] })
  {base:Nat} {v:Value} {n:Nat} {xs:List Value} (hs:a.eval s=v) (hown:W.ownsRow base 41 3 v n xs) {nb c:Nat} {y:PC} (hx:a.eval x=.slice (some ⟨nb,0,none⟩) 1 c)
  (hnb:W.heap[nb]?=some (.cells #[.int .i64 y.x,.int .i64 y.y,.int .i64 y.st] 41 (0,0))) (hn:n≤4000000000000) (hbase:base≤W.heap.size)
  (h:∀ g cap w',w'.ownsRow base 41 3 (.slice (some ⟨g,0,none⟩) (n+1) cap) (n+1) (xs++[.int .i64 y.x,.int .i64 y.y,.int .i64 y.st])→(∀ b,b<W.heap.size→v.ownBlock≠some b→w'.heap[b]?=W.heap[b]?)→Fr v.ownBlock.toList W w'→(v.ownBlock=some g∨g=W.heap.size)→g<w'.heap.size →
   wpList Tryz.prog ops Q rest (a.put o.dst (.slice (some ⟨g,0,none⟩) (n+1) cap)) w'):wpList Tryz.prog ops Q (o::rest) a W :=
 append_pc hgd ho Tryz.underlying27 hs hown hx hnb hn hbase h
def FromPost (w:World) (l:List PC) (e:Ending) (w':World):Prop :=
 ∃ v,e=.returned (.tuple #[v,.int .i64 (fromP l).2])∧w'.ownsRow w.heap.size 41 3 v (fromP l).1.length (pcs (fromP l).1)∧Fr [] w w'
theorem owns_none (w:World) (base e size:Nat):w.ownsRow base e size (.slice none 0 0) 0 []:=⟨i_,.inl ⟨rfl,rfl⟩⟩
theorem PFrom_calls {w:World} {l:List PC} {a:Option Addr} {c:Nat} (hl:CellsAt w (.slice a l.length c) l) (hlen:l.length≤60000) :
  Calls Tryz.prog 64 #[.slice a l.length c] w (FromPost w l):=by
 have Hl:=q_ hl;have HLEN:=q_ hlen;clear hl;go_enter Tryz.func64,Tryz.ntmps64;go_wp2;go_loopw [4,10] (fun x4 x wr=>∃ k:Nat,x=.int .i64 k∧k≤l.length∧badP (l.take k)=0∧Fr [] w wr∧wr.ownsRow w.heap.size 41 3 x4 (someP (l.take k)).length (pcs (someP (l.take k)))) (fun _ x _=>l.length - (intOf x).toNat);case atStart=>exact⟨0,rfl,o_,rfl,Fr.refl _ _,owns_none _ _ _ _⟩
 case round =>
  obtain⟨k,rfl,hk,hb,hf,ho⟩:=hrel;have Hb:=q_ hb;have Hf:=q_ hf;have Ho:=q_ ho;clear hb hf ho;by_cases hlt:k<l.length;·
   obtain⟨⟨x,y,st⟩,hp⟩:∃ p,l[k]?=some p:=⟨_,List.getElem?_eq_getElem hlt⟩;obtain⟨g,off,rfl,hg,e0,e1,e2⟩:=(Hl.out.fr Hf.out).cell hp;simp only at e0 e1 e2;have HAT:=q_ (at_p ⟨x,y,st⟩);have HPL:=q_ (placed_p ⟨x,y,st⟩);unfold pcV at HAT;simp only at HAT HPL;have HX:=q_ (And.intro (bad_here Hb.out hp) (And.intro (bad_next Hb.out hp) (some_next hp)));have hsl:(someP (l.take k)).length≤k:=Nat.le_trans (List.length_filter_le _ _) (by simp;omega);have HSL:=q_ hsl;clear hp hsl;simp only [badP] at HX;generalize placeB x y=pl at HX HPL;cases pl with
   | false =>have HR:=q_ (fromP_bad (l:=l) (by rw [HX.out.1 i_];simp));have HR2:=q_ (HX.out.1 i_);go_wp2_with fail;refine (HAT.out _).mono ?_;rintro e w1 ⟨rfl,hg1⟩;have hf:=hg1.fr;have hm_:=(hf.block (wr.heap.size) (by first|(simp;done)|(simp;omega)) i_).trans (show _=some (.cells #[.int .i64 x,.int .i64 y,.int .i64 st] 41 (0,0)) from hpT);obtain⟨m0,m1,m2,ml⟩:=l3_ hm_;have Hm:=q_ hm_;clear hm_;have Hf1:=q_ (Fr.trans0 (by have:=Hf.out;exact Fr.t) hf:Fr [] w w1);have Ho1:=q_ (oOB (w':=w1) Ho.out fun g hg=>(hf.block g (by have:=oLT Ho.out hg;simp;omega) i_).trans (by have:=oLT Ho.out hg;(repeat first|rw [if_pos o_]|rw [if_neg o_]|rw [hDR]|rw [hDN]|rw [hAz]|rw [hSz]|rw [hAC]|rw [hSC]|rw [oMS]|rw [uPC]|rw [lSZ]|rw [lSS]|rfl)));clear hf hg1;go_wp2_with fail;refine (HPL.out _).mono ?_;rintro e w2 ⟨rfl,hg2⟩;have hf:=hg2.fr;(try clear m0 m1 m2 ml);have hm_:=tk hf Hm;clear Hm;obtain⟨m0,m1,m2,ml⟩:=l3_ hm_;have Hm:=q_ hm_;clear hm_;have Hf2:=q_ (Hf1.out.trans0 hf);have Ho2:=q_ (oOB (w':=w2) Ho1.out fun g hg=>hf.block g (oLT Ho1.out hg) i_);clear hf hg2 Hf1 e0 e1 e2 Ho1;go_wp2;go_ret2;unfold FromPost;rw [HR.out,HR2.out];exact⟨_,rfl,owns_none _ _ _ _,Hf2.out⟩
   | true =>
    by_cases h0:st<0;·
     have hd:decide (st<0)=true:=(by simpa using h0);have HR:=q_ (fromP_bad (l:=l) (by rw [HX.out.1 (by simp [h0])];simp [h0]));have HR2:=q_ (HX.out.1 (by simp [h0]));go_wp2_with fail;refine (HAT.out _).mono ?_;rintro e w1 ⟨rfl,hg1⟩;have hf:=hg1.fr;have hm_:=(hf.block (wr.heap.size) (by first|(simp;done)|(simp;omega)) i_).trans (show _=some (.cells #[.int .i64 x,.int .i64 y,.int .i64 st] 41 (0,0)) from hpT);obtain⟨m0,m1,m2,ml⟩:=l3_ hm_;have Hm:=q_ hm_;clear hm_;have Hf1:=q_ (Fr.trans0 (by have:=Hf.out;exact Fr.t) hf:Fr [] w w1);have Ho1:=q_ (oOB (w':=w1) Ho.out fun g hg=>(hf.block g (by have:=oLT Ho.out hg;simp;omega) i_).trans (by have:=oLT Ho.out hg;(repeat first|rw [if_pos o_]|rw [if_neg o_]|rw [hDR]|rw [hDN]|rw [hAz]|rw [hSz]|rw [hAC]|rw [hSC]|rw [oMS]|rw [uPC]|rw [lSZ]|rw [lSS]|rfl)));clear hf hg1;go_wp2_with fail;refine (HPL.out _).mono ?_;rintro e w2 ⟨rfl,hg2⟩;have hf:=hg2.fr;(try clear m0 m1 m2 ml);have hm_:=tk hf Hm;clear Hm;obtain⟨m0,m1,m2,ml⟩:=l3_ hm_;have Hm:=q_ hm_;clear hm_;have Hf2:=q_ (Hf1.out.trans0 hf);have Ho2:=q_ (oOB (w':=w2) Ho1.out fun g hg=>hf.block g (oLT Ho1.out hg) i_);clear hf hg2 Hf1 e0 e1 e2 Ho1;go_wp2;go_ret2;unfold FromPost;rw [HR.out,HR2.out];simp only [h0,true_or,if_true,Bool.true_eq_false,if_false];exact⟨_,rfl,owns_none _ _ _ _,Hf2.out⟩
    ·have hd:decide (st<0)=false:=(by simpa using h0);by_cases h8:st ≥ 8;·
      have hd8:decide (st ≥ 8)=true:=(by simpa using h8);have h8':8≤st:=h8;have HR:=q_ (fromP_bad (l:=l) (by rw [HX.out.1 (by simp [h8'])];simp [h8']));have HR2:=q_ (HX.out.1 (by simp [h8']));go_wp2_with fail;refine (HAT.out _).mono ?_;rintro e w1 ⟨rfl,hg1⟩;have hf:=hg1.fr;have hm_:=(hf.block (wr.heap.size) (by first|(simp;done)|(simp;omega)) i_).trans (show _=some (.cells #[.int .i64 x,.int .i64 y,.int .i64 st] 41 (0,0)) from hpT);obtain⟨m0,m1,m2,ml⟩:=l3_ hm_;have Hm:=q_ hm_;clear hm_;have Hf1:=q_ (Fr.trans0 (by have:=Hf.out;exact Fr.t) hf:Fr [] w w1);have Ho1:=q_ (oOB (w':=w1) Ho.out fun g hg=>(hf.block g (by have:=oLT Ho.out hg;simp;omega) i_).trans (by have:=oLT Ho.out hg;(repeat first|rw [if_pos o_]|rw [if_neg o_]|rw [hDR]|rw [hDN]|rw [hAz]|rw [hSz]|rw [hAC]|rw [hSC]|rw [oMS]|rw [uPC]|rw [lSZ]|rw [lSS]|rfl)));clear hf hg1;go_wp2_with fail;refine (HPL.out _).mono ?_;rintro e w2 ⟨rfl,hg2⟩;have hf:=hg2.fr;(try clear m0 m1 m2 ml);have hm_:=tk hf Hm;clear Hm;obtain⟨m0,m1,m2,ml⟩:=l3_ hm_;have Hm:=q_ hm_;clear hm_;have Hf2:=q_ (Hf1.out.trans0 hf);have Ho2:=q_ (oOB (w':=w2) Ho1.out fun g hg=>hf.block g (oLT Ho1.out hg) i_);clear hf hg2 Hf1 e0 e1 e2 Ho1;go_wp2;go_ret2;unfold FromPost;rw [HR.out,HR2.out];simp only [h8',or_true,if_true,Bool.true_eq_false,if_false];exact⟨_,rfl,owns_none _ _ _ _,Hf2.out⟩
     ·have hd8:decide (st ≥ 8)=false:=(by simpa using h8);have hbz:¬ (st<0∨8≤st):=o_;simp only [hbz,if_false,Bool.true_eq_false] at HX;by_cases hs:st > 0;·
       have hds:decide (st > 0)=true:=(by simpa using hs);have hst:st≠0:=o_;simp only [hst,ne_eq,not_false_eq_true,if_true] at HX;go_wp2_with fail;refine (HAT.out _).mono ?_;rintro e w1 ⟨rfl,hg1⟩;have hf:=hg1.fr;have hm_:=(hf.block (wr.heap.size) (by first|(simp;done)|(simp;omega)) i_).trans (show _=some (.cells #[.int .i64 x,.int .i64 y,.int .i64 st] 41 (0,0)) from hpT);obtain⟨m0,m1,m2,ml⟩:=l3_ hm_;have Hm:=q_ hm_;clear hm_;have Hf1:=q_ (Fr.trans0 (by have:=Hf.out;exact Fr.t) hf:Fr [] w w1);have Ho1:=q_ (oOB (w':=w1) Ho.out fun g hg=>(hf.block g (by have:=oLT Ho.out hg;simp;omega) i_).trans (by have:=oLT Ho.out hg;(repeat first|rw [if_pos o_]|rw [if_neg o_]|rw [hDR]|rw [hDN]|rw [hAz]|rw [hSz]|rw [hAC]|rw [hSC]|rw [oMS]|rw [uPC]|rw [lSZ]|rw [lSS]|rfl)));clear hf hg1;go_wp2_with fail;refine (HPL.out _).mono ?_;rintro e w2 ⟨rfl,hg2⟩;have hf:=hg2.fr;(try clear m0 m1 m2 ml);have hm_:=tk hf Hm;clear Hm;obtain⟨m0,m1,m2,ml⟩:=l3_ hm_;have Hm:=q_ hm_;clear hm_;have Hf2:=q_ (Hf1.out.trans0 hf);have Ho2:=q_ (oOB (w':=w2) Ho1.out fun g hg=>hf.block g (oLT Ho1.out hg) i_);clear hf hg2 Hf1 e0 e1 e2 Ho1;go_wp2_with (at_builtin;refine append_pp (n:=(someP (l.take k)).length) (base:=w.heap.size) (xs:=(pcs (someP (l.take k)))) (y:=(⟨x,y,st⟩:PC)) rfl rfl rfl ?e1 rfl ?e2 ?e3 ?e4 ?_);case e1=>exact oOB Ho2.out fun y hy=>hAE _ _ _ (oLT Ho2.out hy)
       case e2=>first|(first|(rw [hAC,if_pos rfl];done)|exact (Array.getElem?_eq_some_iff.1 ((hAC _ _ _).trans (if_pos rfl))).2|(simp only [hDR,hDN];rw [hAC,if_pos rfl];done))|(repeat first|rw [if_pos o_]|rw [if_neg o_]|rw [hDR]|rw [hDN]|rw [hAz]|rw [hSz]|rw [hAC]|rw [hSC]|rw [oMS]|rw [uPC]|rw [lSZ]|rw [lSS]|rfl)
       case e3=>(have:=HSL.out;have:=HLEN.out;omega)
       case e4=>have:=Hf2.out.size;(first|omega|(simp only [hDR,hDN,hAz];omega)|(simp;omega))
       intro g2 cap w9 hown1 hW1 hF1 hloc1 hg1;rw [(pcs_snoc _ ⟨x,y,st⟩)] at hown1;have Hown1:=q_ hown1;have Hf9:=q_ (fr_append Hf2.out Ho2.out hF1);clear hown1 hW1 hF1 hloc1;go_wp2;go_roundw;case rel =>refine⟨k+1,by go_num,o_,HX.out.2.1 i_,Hf9.out,?_⟩;rw [HX.out.2.2,List.length_append];exact Hown1.out
       case measure=>simp [intOf];omega
      ·have hst0:st=0:=o_;have hds:decide (st > 0)=false:=(by simpa using hs);simp only [hst0,ne_eq,not_true_eq_false,if_false,List.append_nil] at HX;clear hst0;go_wp2_with fail;refine (HAT.out _).mono ?_;rintro e w1 ⟨rfl,hg1⟩;have hf:=hg1.fr;have hm_:=(hf.block (wr.heap.size) (by first|(simp;done)|(simp;omega)) i_).trans (show _=some (.cells #[.int .i64 x,.int .i64 y,.int .i64 st] 41 (0,0)) from hpT);obtain⟨m0,m1,m2,ml⟩:=l3_ hm_;have Hm:=q_ hm_;clear hm_;have Hf1:=q_ (Fr.trans0 (by have:=Hf.out;exact Fr.t) hf:Fr [] w w1);have Ho1:=q_ (oOB (w':=w1) Ho.out fun g hg=>(hf.block g (by have:=oLT Ho.out hg;simp;omega) i_).trans (by have:=oLT Ho.out hg;(repeat first|rw [if_pos o_]|rw [if_neg o_]|rw [hDR]|rw [hDN]|rw [hAz]|rw [hSz]|rw [hAC]|rw [hSC]|rw [oMS]|rw [uPC]|rw [lSZ]|rw [lSS]|rfl)));clear hf hg1;go_wp2_with fail;refine (HPL.out _).mono ?_;rintro e w2 ⟨rfl,hg2⟩;have hf:=hg2.fr;(try clear m0 m1 m2 ml);have hm_:=tk hf Hm;clear Hm;obtain⟨m0,m1,m2,ml⟩:=l3_ hm_;have Hm:=q_ hm_;clear hm_;have Hf2:=q_ (Hf1.out.trans0 hf);have Ho2:=q_ (oOB (w':=w2) Ho1.out fun g hg=>hf.block g (oLT Ho1.out hg) i_);clear hf hg2 Hf1 e0 e1 e2 Ho1;go_wp2;go_roundw;case rel =>refine⟨k+1,by go_num,o_,HX.out.2.1 i_,Hf2.out,?_⟩;rw [HX.out.2.2];exact Ho2.out
       case measure=>simp [intOf];omega
  ·obtain rfl:k=l.length:=o_;rw [List.take_length] at Ho Hb;have hbl:badP l=0:=Hb.out;have hml:(someP l).length≤l.length:=List.length_filter_le _ _;go_wp2_with fail;refine (sort_calls Ho.out (by have:=HLEN.out;omega)).mono ?_;rintro e w5 ⟨rfl,q,hperm,hweak,hown,hf⟩;have hfr:Fr [] w w5:=Hf.out.trans hf fun x hx=>.inr (owns_ge Ho.out (by simpa using hx));obtain⟨_,a5,c5,rfl,_⟩:=Reads.of_owns hown;have hfrom:=fromP_of hbl hweak hperm;have hql:q.length≤60000:=(by have:=hperm.length_eq;have:=HLEN.out;omega);have HFP:=q_ hfrom
   have HW:=q_ hweak;have HO5:=q_ hown;have Hf5:=q_ hfr;clear hbl hml hperm hweak hown hf hfr hfrom Ho Hb Hf hk hlt;go_wp2;go_loopw [7] (fun x wr=>∃ i:Nat,x=.int .i64 ((i:Int)+1)∧i≤q.length∧(i=0∨i+1≤q.length)∧(∀ j,j<i→samePos (q.getD j z3) (q.getD (j+1) z3)=false)∧Fr [] w5 wr) (fun x _=>q.length+1 - (intOf x).toNat);case atStart=>exact⟨0,i_,o_,.inl rfl,o_,Fr.refl _ _⟩
   case round =>
    obtain⟨i,rfl,hi,hi2,hn,hf⟩:=hrel;have Hf:=q_ hf;have Hn:=q_ hn;clear hf hn;by_cases hlt:i+1<q.length;·
     have hd:decide ((i:Int)+1<(q.length:Int))=true:=(by simp;omega);obtain⟨⟨x,y,st⟩,hp⟩:∃ p,q[i]?=some p:=⟨_,List.getElem?_eq_getElem o_⟩;obtain⟨⟨u,v,su⟩,hq⟩:∃ p,q[i+1]?=some p:=⟨_,List.getElem?_eq_getElem hlt⟩;have hra:∀ w1,Fr [] w5 w1→CellsAt w1 (.slice a5 q.length c5) q:=fun w1 h=>CellsAt.fr (Reads.of_owns HO5.out) h;have HRA:=q_ hra;obtain⟨g,off,rfl,hg,e0,e1,e2⟩:=(hra _ Hf.out).cell hp;obtain⟨g',off',he,_,e3,e4,e5⟩:=(hra _ Hf.out).cell hq;cases he;simp only at e0 e1 e2 e3 e4 e5;have hAX:=at_p ⟨x,y,st⟩;have hAU:=at_p ⟨u,v,su⟩;unfold pcV at hAX hAU;have HAX:=q_ hAX;have HAU:=q_ hAU;have hsp:samePos (q.getD i z3) (q.getD (i+1) z3)=(x == u && y == v):=by rw [List.getD_eq_getElem?_getD,hp,List.getD_eq_getElem?_getD,hq];unfold samePos;rw [Bool.eq_iff_iff];simp
     have HSP:=q_ hsp;have Hq:=q_ hq;clear hp hq hsp hra hAX hAU;go_wp2;refine wS [([0,1,2,3,4,6,7,8,9,5],[9]),([10,11],[])] ?_;(simp only [wpSegs,pick,aq_,bq_,cq_,dq_,eq_]);go_wp2_with fail;refine (HAX.out _).mono ?_;rintro e w6 ⟨rfl,hg6⟩;have hf6:=Hf.out.trans0 (Fr.trans0 (Fr.t) hg6.fr);have Hf6:=q_ hf6;clear hf6 hg6 e0 e1 e2 e3 e4 e5;obtain⟨g',off',he,_,e3,e4,e5⟩:=(HRA.out _ Hf6.out).cell Hq.out;cases he;simp only at e3 e4 e5;go_wp2;refine mD_ ⟨⟨aGR (T:=41) (cs:=[.int .i64 u,.int .i64 v,.int .i64 su]) rfl rfl rfl Tryz.underlying41 rfl k_ (fun j v hj=>?rng) rfl,trivial⟩,?_⟩;case rng =>
      rcases j with _|_|_|j
      ·simp only [List.getElem?_cons_zero,Option.some.injEq] at hj;subst hj;exact e3
      ·simp only [List.getElem?_cons_zero,List.getElem?_cons_succ,Option.some.injEq] at hj;subst hj;exact e4
      ·simp only [List.getElem?_cons_zero,List.getElem?_cons_succ,Option.some.injEq] at hj;subst hj;exact e5
      ·simp at hj
     go_wp2_with fail;refine (HAU.out _).mono ?_;rintro e w7 ⟨rfl,hg7⟩;have Hf7:=q_ (Hf6.out.trans0 hg7.fr);clear hg7 e3 e4 e5;by_cases hx:x=u;·
      subst hx;by_cases hy:y=v;·
       subst hy;have HT:=q_ (weak_twice HW.out hlt (HSP.out.trans i_));have hfrom:=HFP.out;rw [HT.out] at hfrom
       simp only [if_true] at hfrom
       have HFQ:=q_ hfrom
       clear hfrom
       go_wp2;refine mD_ ⟨trivial,sT_ rfl ?_⟩;go_wp2;go_ret2;unfold FromPost;rw [HFQ.out];exact⟨_,rfl,owns_none _ _ _ _,Hf5.out.trans0 Hf7.out⟩
      ·have hyb:(y == v)=false:=(by simpa using hy);have HSF:=q_ (HSP.out.trans (show (x == x && y == v)=false by simp [hy]));clear hy;go_wp2;refine mD_ ⟨trivial,sT_ rfl ?_⟩;go_wp2;go_roundw;case rel =>
        refine⟨i+1,by go_num,o_,.inr o_,fun j hj=>?_,Hf7.out⟩;rcases Nat.lt_or_ge j i with h|h
        ·exact Hn.out j h
        ·obtain rfl:j=i:=o_;exact HSF.out
       case measure=>simp [intOf];omega
     ·have hxb:(x == u)=false:=(by simpa using hx);have HSF:=q_ (HSP.out.trans (show (x == u && y == v)=false by simp [hx]));clear hx;go_wp2;refine mD_ ⟨trivial,sT_ rfl ?_⟩;go_wp2;go_roundw;case rel =>
       refine⟨i+1,by go_num,o_,.inr o_,fun j hj=>?_,Hf7.out⟩;rcases Nat.lt_or_ge j i with h|h
       ·exact Hn.out j h
       ·obtain rfl:j=i:=o_;exact HSF.out
      case measure=>simp [intOf];omega
    ·have hd:decide ((i:Int)+1<(q.length:Int))=false:=(by simp;omega);have hst:=weak_once HW.out (fun j hj=>Hn.out j o_);have hfrom:=HFP.out;rw [hst] at hfrom
     simp only [Bool.true_eq_false,if_false] at hfrom
     by_cases h5:5000<q.length;·
      have hd5:decide ((q.length:Int) > 5000)=true:=(by simp;omega);rw [if_pos h5] at hfrom
      have HFQ:=q_ hfrom
      clear hfrom hst;go_wp2;go_ret2;unfold FromPost;rw [HFQ.out];exact⟨_,rfl,owns_none _ _ _ _,Hf5.out.trans0 Hf.out⟩
     ·have hd5:decide ((q.length:Int) > 5000)=false:=(by simp;omega);rw [if_neg h5] at hfrom
      have HFQ:=q_ hfrom
      clear hfrom hst;go_wp2;go_ret2;unfold FromPost;rw [HFQ.out];exact⟨_,rfl,oOB HO5.out fun g hg=>Hf.out.block g (oLT HO5.out hg) i_,Hf5.out.trans0 Hf.out⟩
open Mp Qs Ev Bn Uni
theorem blkT_pop:∀ t:Tr,blkT t=decide (popT t=0)
 | .leaf v=>by unfold blkT popT;by_cases h:v=0<;>simp [h]
 | .node a b c d=>by unfold blkT popT;rw [blkT_pop a,blkT_pop b,blkT_pop c,blkT_pop d,Bool.eq_iff_iff];simp only [Bool.and_eq_true,decide_eq_true_eq];omega
structure VW where
 b:Nat
 rb:Nat
 vb:Nat
 s:Int
 ns:List K4
 x0:Value
 x1:Value
 y0:Value
 y1:Value
 bx:VB
def vcA (V:VW) (v:Value):Array Value:=#[.pointer (some ⟨V.b,0,none⟩),V.x0,V.x1,V.y0,V.y1,.int .i64 V.bx.w,.int .i64 V.bx.h,v,.map (some V.rb)]
theorem vcA_ok (V:VW) (v:Value):VcOk V.b V.rb (vcA V v):=⟨rfl,rfl⟩
def vsL (V:VW) (mm:List (Int×Bool)) (v:Value) (C:List PC) (Ps:List Res):List Res :=
 viL V.b V.rb V.vb V.s V.ns (vcA V v) mm (Hp.row 41 3 v C.length (pcs C)::Ps)
def VisitPost (W:World) (V:VW) (C D:List PC) (Ps:List Res) (e:Ending) (w':World):Prop :=
 e=.returned (.tuple #[])∧∃ v' mm',Has W w' (vsL V mm' v' (C++D) Ps)∧BInv V.s V.ns mm'
def CorOk (n:Nat) (X:Int):Prop:=-p2 200≤X∧X+p2 n≤p2 201
structure VOk (W:World) (V:VW) (Q:List Res):Prop where
 x:bZ_ W Q (.agg #[V.x0,V.x1]) V.bx.x
 y:bZ_ W Q (.agg #[V.y0,V.y1]) V.bx.y
 nx:∀ b n c,Value.agg #[V.x0,V.x1]=.agg #[b,.slice none n c]→c=0
 ny:∀ b n c,Value.agg #[V.y0,V.y1]=.agg #[b,.slice none n c]→c=0
 zx:-p2 201≤V.bx.x∧V.bx.x≤p2 200
 zy:-p2 201≤V.bx.y∧V.bx.y≤p2 200
 w:1≤V.bx.w∧V.bx.w≤256
 h:1≤V.bx.h∧V.bx.h≤256
def VisitAt (W:World) (V:VW) (Q:List Res) (n:Nat):Prop :=
 ∀ (w:World) (Ps:List Res) (mm:List (Int×Bool)) (v:Value) (C:List PC) (id:Int) (t:Tr) (X Y:Int) (vx vy:Value),Has W w (vsL V mm v C Ps)→(∀ P∈Q,P∈Ps)→BInv V.s V.ns mm→Is V.s V.ns n id t→bZ_ W Ps vx X→bZ_ W Ps vy Y→CorOk n X→CorOk n Y→C.length+(visL V.bx n t X Y).length≤4000000 →
  Calls Tryz.prog 63 #[.pointer (some ⟨V.vb,0,none⟩),.int .i64 id,.int .i64 (n:Int),vx,vy] w (VisitPost W V C (visL V.bx n t X Y) Ps)
theorem p2_201:p2 201=p2 200+p2 200:=p2_succ 200
theorem p2_202:p2 202=p2 200+p2 200+(p2 200+p2 200):=by rw [show p2 202=p2 201+p2 201 from p2_succ 201,p2_201]
theorem cor_z {z:Int} (h:-p2 202≤z∧z≤p2 202):Zok z:=by have h1:Zok (p2 202):=zok_pow (n:=202) o_;exact zok_le h1 o_
theorem p2_big:256≤p2 200:=by show (256:Int)≤((2 ^ 200:Nat):Int);exact Int.ofNat_le.2 (Nat.pow_le_pow_right (n:=2) o_ (show 8≤200 by omega))
theorem srcz_more {W:World} {Ps Qs:List Res} {v:Value} {x:Int} (h:bZ_ W Ps v x) (hs:∀ P∈Ps,P∈Qs):bZ_ W Qs v x:=fun w Rs hw hm=>h w Rs hw fun P hP=>hm P (hs P hP)
theorem vs_mem {V:VW} {mm:List (Int×Bool)} {v:Value} {C:List PC} {Ps:List Res} {P:Res} (h:P∈Ps):P∈vsL V mm v C Ps:=by simp [vsL,viL,h]
theorem apart_v {W:World} {Ps Q:List Res} {n:Nat} (hn:n≤201) {vx vb:Value} {X b wd:Int} (hx:bZ_ W Ps vx X) (hb:bZ_ W Q vb b) (hX:CorOk n X) (hzb:-p2 201≤b∧b≤p2 200) (hw:1≤wd∧wd≤256) {w:World} {Rs:List Res} (h:Has W w Rs) (h1:∀ P∈Ps,P∈Rs) (h2:∀ P∈Q,P∈Rs) {A:Nat→Prop} {vs:Value} (hs:BigZ w A vs (p2 n)) :
  Calls Tryz.prog 105 #[vx,vs,vb,.int .i64 wd] w fun e w'=>e=.returned (.bool (apartB X (p2 n) b wd))∧Fr [] w w':=by
 have e1:=p2_201;have e2:=p2_202;have hp:=p2_big;have hpn:=p2_pos n;have hpl:p2 n≤p2 201:=p2_le hn;unfold CorOk at hX;exact apart_z (hx w Rs h h1) hs (hb w Rs h h2) (cor_z o_) (cor_z o_) (cor_z o_) (cor_z o_) o_ o_ (cor_z o_)
end Go.Proofs.YtebolidfbflkmaaGreat
end
section
namespace Go.Proofs.Hp
open Go Go.RowKit
theorem hAP {W w w9:World} {Ps:List Res} {T size n n' g:Nat} {v v':Value} {xs xs':List Value} (h:Has W w (Hp.row T size v n xs::Ps)) (hown:w9.ownsRow 0 T size v' n' xs') (hv:v'.ownBlock=some g) (hf:Fr v.ownBlock.toList w w9) (hg:v.ownBlock=some g∨w.heap.size≤g):Has W w9 (Hp.row T size v' n' xs'::Ps) :=
 h.turn fun F ⟨h1,h2⟩=>⟨[g],⟨hown,by rw [hv];rfl⟩,by rw [h2];exact hf,fun x hx=>by
  simp only [List.mem_singleton] at hx
  subst hx
  rcases hg with hg|hg
  ·left;rw [h2,hg];simp
  ·right;exact hg⟩
end Go.Proofs.Hp
end
section
namespace Go.Proofs.YtebolidfbflkmaaGreat
open Go Go.RowKit Rg Mp Hp Qs Ev Bn Uni Pt
theorem gone_nil {v:VB}:∀ {n:Nat} {t:Tr} {x y:Int},goneB v n t x y=true→visL v n t x y=[]
 | 0,t,x,y,h=>by unfold visL;rw [if_pos h]
 | n+1,t,x,y,h=>by unfold visL;rw [if_pos h]
theorem vf_facts {W w:World} {V:VW} {mm:List (Int×Bool)} {v:Value} {C:List PC} {Qs:List Res} (h:Has W w (vsL V mm v C Qs)) {o:Nat} {xs ys:Bool} {xa ya:Option Addr} {xn xc yn yc:Nat} (hx:Hp.blk o (.cells #[.bool xs,.slice xa xn xc] 30 (0,0))∈Qs) (hy:Hp.blk (o+1) (.cells #[.bool ys,.slice ya yn yc] 30 (0,0))∈Qs) :
  w.cell? ⟨o,0,none⟩=some (.bool xs)∧w.cell? ⟨o,1,none⟩=some (.slice xa xn xc)∧o<w.heap.size∧w.cell? ⟨o+1,0,none⟩=some (.bool ys)∧w.cell? ⟨o+1,1,none⟩=some (.slice ya yn yc)∧o+1<w.heap.size ∧
  w.cell? ⟨V.vb,0,none⟩=some (.pointer (some ⟨V.b,0,none⟩))∧w.cell? ⟨V.vb,1,none⟩=some V.x0∧w.cell? ⟨V.vb,2,none⟩=some V.x1∧w.cell? ⟨V.vb,3,none⟩=some V.y0∧w.cell? ⟨V.vb,4,none⟩=some V.y1∧w.cell? ⟨V.vb,5,none⟩=some (.int .i64 V.bx.w)∧w.cell? ⟨V.vb,6,none⟩=some (.int .i64 V.bx.h)∧w.cell? ⟨V.vb,7,none⟩=some v∧V.vb<w.heap.size ∧
  Hid (w.heap[o]?=some (.cells #[.bool xs,.slice xa xn xc] 30 (0,0)))∧Hid (w.heap[o+1]?=some (.cells #[.bool ys,.slice ya yn yc] 30 (0,0)))∧Hid (w.heap[V.vb]?=some (.cells (vcA V v) 108 (0,0))):=by
 have hx_:=hBk_ h (vs_mem hx);have hy_:=hBk_ h (vs_mem hy);have hv_:w.heap[V.vb]?=some (.cells (vcA V v) 108 (0,0)):=hBk_ h (by simp [vsL,viL]);exact⟨hEC hx_ 0,hEC hx_ 1,lBk hx_,hEC hy_ 0,hEC hy_ 1,lBk hy_,hEC hv_ 0,hEC hv_ 1,hEC hv_ 2,hEC hv_ 3,hEC hv_ 4,hEC hv_ 5,hEC hv_ 6,hEC hv_ 7,lBk hv_,q_ hx_,q_ hy_,q_ hv_⟩
theorem visit_leaf {W:World} {V:VW} {Q:List Res} (hV:VOk W V Q):VisitAt W V Q 0:=by
 intro w Ps mm v C id t X Y vx vy h hQ hI hi hx hy hX hY hlen;have hn:0≤201:=o_
 have HK:=q_ (fun w1 Qs (h1:Has W w1 (sTR V.b V.s V.ns::Qs))=>KidsLeaf_has h1 hi);have hleaf:t=.leaf id:=(hi.zero (has_good h)).2.2;have e201:=p2_201;have e202:=p2_202;have ebig:=p2_big;have hzX:Zok X:=cor_z (by unfold CorOk at hX;have:=p2_pos 0;omega);have hzY:Zok Y:=cor_z (by unfold CorOk at hY;have:=p2_pos 0;omega);have hbx1:=hV.zx;have hby1:=hV.zy;have hbw:=hV.w;have hbh:=hV.h;have hzbx:Zok V.bx.x:=cor_z o_;have hzby:Zok V.bx.y:=cor_z o_;have hznx:Zok (-V.bx.x):=cor_z o_;have hzny:Zok (-V.bx.y):=cor_z o_;have HNX:=q_ (fun w1 Rs (h1:Has W w1 Rs) (hm:∀ P∈Ps,P∈Rs)=>Neg_z (hV.x w1 Rs h1 fun P hP=>hm P (hQ P hP)) hzbx hV.nx);have HNY:=q_ (fun w1 Rs (h1:Has W w1 Rs) (hm:∀ P∈Ps,P∈Rs)=>Neg_z (hV.y w1 Rs h1 fun P hP=>hm P (hQ P hP)) hzby hV.ny);have HPX:=q_ (fun (hs:0≤X+-V.bx.x∧X+-V.bx.x<256) w1 Rs (h1:Has W w1 Rs) (hm:∀ P∈Ps,P∈Rs) A vn (hv:BigZ w1 A vn (-V.bx.x))=>plus_z (hx w1 Rs h1 hm) hv hzX hznx (zok_int o_ o_));have HPY:=q_ (fun (hs:0≤Y+-V.bx.y∧Y+-V.bx.y<256) w1 Rs (h1:Has W w1 Rs) (hm:∀ P∈Ps,P∈Rs) A vn (hv:BigZ w1 A vn (-V.bx.y))=>plus_z (hy w1 Rs h1 hm) hv hzY hzny (zok_int o_ o_));have HLEN:=q_ hlen;clear e201 e202 ebig hzX hzY hbx1 hby1 hbw hbh hzbx hzby hznx hzny;have hcx:=_root_.id (hx w _ h fun P hP=>vs_mem hP);have hcy:=_root_.id (hy w _ h fun P hP=>vs_mem hP);obtain⟨xs,xa,xn,xc,rfl⟩:∃ b a n c,vx=.agg #[.bool b,.slice a n c]:=by obtain⟨a,c,hv,_⟩:=hcx;exact⟨_,_,_,_,hv⟩
 obtain⟨ys,ya,yn,yc,rfl⟩:∃ b a n c,vy=.agg #[.bool b,.slice a n c]:=by obtain⟨a,c,hv,_⟩:=hcy;exact⟨_,_,_,_,hv⟩
 clear hcx hcy;have h0:Has W ((w.alloc (.cells #[.bool xs,.slice xa xn xc] 30 (0,0))).alloc (.cells #[.bool ys,.slice ya yn yc] 30 (0,0))) (vsL V mm v C (Hp.blk (w.heap.size+1) (.cells #[.bool ys,.slice ya yn yc] 30 (0,0))::Hp.blk w.heap.size (.cells #[.bool xs,.slice xa xn xc] 30 (0,0))::Ps)):=by have h1:=hAL (hAL h #[.bool xs,.slice xa xn xc] 30) #[.bool ys,.slice ya yn yc] 30;rw [hAz] at h1;exact h1.ord 6 [2,3,4,5,0,1]
 obtain⟨o,ho⟩:∃ o,w.heap.size=o:=⟨_,rfl⟩;rw [ho] at h0;have HB:=q_ (fun w1 Ps mm' (h1:Has W w1 (viL V.b V.rb V.vb V.s V.ns (vcA V v) mm' Ps)) (hI:BInv V.s V.ns mm')=>blank_at (W:=W) (vcA_ok V v) 0 w1 Ps mm' id t h1 hI hi);unfold BlankPost at HB;rw [blkT_pop] at HB;have HPW:=q_ (fun w1=>power_z w1 (k:=0) (H:=2 ^ 0) rfl o_);have HAX:=q_ (fun w1 Rs (h1:Has W w1 Rs) (hm:∀ P∈Ps,P∈Rs) A vs (hs:BigZ w1 A vs (p2 0))=>apart_v hn hx hV.x hX hV.zx hV.w h1 hm (fun P hP=>hm P (hQ P hP)) hs);have HAY:=q_ (fun w1 Rs (h1:Has W w1 Rs) (hm:∀ P∈Ps,P∈Rs) A vs (hs:BigZ w1 A vs (p2 0))=>apart_v hn hy hV.y hY hV.zy hV.h h1 hm (fun P hP=>hm P (hQ P hP)) hs);have H:=q_ h0;have HI:=q_ hI;have HLF:=q_ hleaf;have HVV:=q_ hV;clear h hQ hI hi hx hy hX hY hlen hn h0 hleaf hV;go_enter Tryz.func63,Tryz.ntmps63;go_wp2;refine wS [([0,1,2],[]),([3,4,5,7,8,9,10,11,12,13,14,6],[4,10,14]),([15],[]),([16,17,18,19,21,22,23,24,25,26,27,28,20],[18,24,28]),([29,30],[])] ?_;(simp only [wpSegs,pick,aq_,bq_,cq_,dq_,eq_]);go_wp2_with fail;refine (HB.out _ _ _ (H.out.step (Fr.t)) HI.out).mono ?_;rintro e w1 ⟨mm1,rfl,h1,hI1⟩;have H1:=q_ (show Has W w1 (vsL V mm1 v C _) from h1);have HI1:=q_ hI1;clear h1 hI1 H HI HB ho;obtain⟨g0,hg0⟩:∃ g,decide (popT t=0)=g:=⟨_,rfl⟩;rw [hg0];have HG0:=q_ hg0;clear hg0;(try clear x0 x1 xl y0 y1 yl v0 v1 v2 v3 v4 v5 v6 v7 vl Hx Hy Hv);obtain⟨x0,x1,xl,y0,y1,yl,v0,v1,v2,v3,v4,v5,v6,v7,vl,Hx,Hy,Hv⟩:=vf_facts H1.out (o:=o) (xs:=xs) (ys:=ys) (xa:=xa) (ya:=ya) (xn:=xn) (xc:=xc) (yn:=yn) (yc:=yc) i_ i_;go_wp2;refine mD_ ⟨trivial,?_⟩;cases g0 with
 | true =>have HD:=q_ (show visL V.bx 0 t X Y=[] from gone_nil (by unfold goneB;rw [HG0.out];rfl));go_wp2;refine mD_ ⟨⟨fun o ho hw=>by obtain rfl:=Option.some.inj ho;exact absurd hw (by simp [Region.wanted,yielded]),fun o ho hw=>by obtain rfl:=Option.some.inj ho;exact absurd hw (by simp [Region.wanted,yielded]),fun o ho hw=>by obtain rfl:=Option.some.inj ho;exact absurd hw (by simp [Region.wanted,yielded]),trivial⟩,?_⟩;go_wp2;refine mD_ ⟨trivial,?_⟩;go_wp2;refine mD_ ⟨⟨fun o ho hw=>by obtain rfl:=Option.some.inj ho;exact absurd hw (by simp [Region.wanted,yielded]),fun o ho hw=>by obtain rfl:=Option.some.inj ho;exact absurd hw (by simp [Region.wanted,yielded]),fun o ho hw=>by obtain rfl:=Option.some.inj ho;exact absurd hw (by simp [Region.wanted,yielded]),trivial⟩,?_⟩;go_wp2;refine mD_ ⟨trivial,sT_ rfl ?_⟩;go_wp2;go_end0;refine⟨rfl,v,mm1,?_,HI1.out⟩;rw [HD.out,List.append_nil];exact (H1.out.step (Fr.t)).ord 6 [0,1,2,3]
 | false =>
  go_wp2_with fail;refine (HPW.out _).mono ?_;rintro e w2 ⟨vp,rfl,hb,hf⟩;have H2:=q_ ((H1.out.step (Fr.t)).step hf);have ha:=HAX.out w2 _ H2.out (fun P hP=>vs_mem (mem2 P hP)) _ vp hb;have HA2:=q_ ha;clear hb hf ha H1 HAX;(try clear x0 x1 xl y0 y1 yl v0 v1 v2 v3 v4 v5 v6 v7 vl Hx Hy Hv);obtain⟨x0,x1,xl,y0,y1,yl,v0,v1,v2,v3,v4,v5,v6,v7,vl,Hx,Hy,Hv⟩:=vf_facts H2.out (o:=o) (xs:=xs) (ys:=ys) (xa:=xa) (ya:=ya) (xn:=xn) (xc:=xc) (yn:=yn) (yc:=yc) i_ i_;go_wp2;refine mD_ ⟨⟨ab_ (T:=30) rfl rfl rfl Tryz.underlying30 rfl k_ Hx.out rfl,ao_ (T:=30) rfl rfl rfl Tryz.underlying30 rfl k_ Hv.out rfl rfl rfl,ac_ (T:=3) rfl rfl rfl Tryz.underlying3 rfl v5 rfl,trivial⟩,?_⟩;go_wp2_with fail;refine (HA2.out).mono ?_;rintro e w3 ⟨rfl,hf⟩;have H3:=q_ (H2.out.step hf);clear hf H2 HA2;obtain⟨g1,hg1⟩:∃ g,apartB X (p2 0) V.bx.x V.bx.w=g:=⟨_,rfl⟩;rw [hg1];have HG1:=q_ hg1;clear hg1;(try clear x0 x1 xl y0 y1 yl v0 v1 v2 v3 v4 v5 v6 v7 vl Hx Hy Hv);obtain⟨x0,x1,xl,y0,y1,yl,v0,v1,v2,v3,v4,v5,v6,v7,vl,Hx,Hy,Hv⟩:=vf_facts H3.out (o:=o) (xs:=xs) (ys:=ys) (xa:=xa) (ya:=ya) (xn:=xn) (xc:=xc) (yn:=yn) (yc:=yc) i_ i_;go_wp2;refine mD_ ⟨trivial,?_⟩;cases g1 with
  | true =>have HD:=q_ (show visL V.bx 0 t X Y=[] from gone_nil (by unfold goneB;rw [HG0.out,HG1.out];rfl));go_wp2;refine mD_ ⟨⟨fun o ho hw=>by obtain rfl:=Option.some.inj ho;exact absurd hw (by simp [Region.wanted,yielded]),fun o ho hw=>by obtain rfl:=Option.some.inj ho;exact absurd hw (by simp [Region.wanted,yielded]),fun o ho hw=>by obtain rfl:=Option.some.inj ho;exact absurd hw (by simp [Region.wanted,yielded]),trivial⟩,?_⟩;go_wp2;refine mD_ ⟨trivial,sT_ rfl ?_⟩;go_wp2;go_end0;refine⟨rfl,v,mm1,?_,HI1.out⟩;rw [HD.out,List.append_nil];exact (H3.out.step (Fr.t)).ord 6 [0,1,2,3]
  | false =>
   go_wp2_with fail;refine (HPW.out _).mono ?_;rintro e w4 ⟨vq,rfl,hb,hf⟩;have H4:=q_ ((H3.out.step (Fr.t)).step hf);have ha:=HAY.out w4 _ H4.out (fun P hP=>vs_mem (mem2 P hP)) _ vq hb;have HA4:=q_ ha;clear hb hf ha H3 HAY;(try clear x0 x1 xl y0 y1 yl v0 v1 v2 v3 v4 v5 v6 v7 vl Hx Hy Hv);obtain⟨x0,x1,xl,y0,y1,yl,v0,v1,v2,v3,v4,v5,v6,v7,vl,Hx,Hy,Hv⟩:=vf_facts H4.out (o:=o) (xs:=xs) (ys:=ys) (xa:=xa) (ya:=ya) (xn:=xn) (xc:=xc) (yn:=yn) (yc:=yc) i_ i_;go_wp2;refine mD_ ⟨⟨ab_ (T:=30) rfl rfl rfl Tryz.underlying30 rfl k_ Hy.out rfl,ao_ (T:=30) rfl rfl rfl Tryz.underlying30 rfl k_ Hv.out rfl rfl rfl,ac_ (T:=3) rfl rfl rfl Tryz.underlying3 rfl v6 rfl,trivial⟩,?_⟩;go_wp2_with fail;refine (HA4.out).mono ?_;rintro e w5 ⟨rfl,hf⟩;have H5:=q_ (H4.out.step hf);clear hf H4 HA4;obtain⟨g2,hg2⟩:∃ g,apartB Y (p2 0) V.bx.y V.bx.h=g:=⟨_,rfl⟩;rw [hg2];have HG2:=q_ hg2;clear hg2;(try clear x0 x1 xl y0 y1 yl v0 v1 v2 v3 v4 v5 v6 v7 vl Hx Hy Hv);obtain⟨x0,x1,xl,y0,y1,yl,v0,v1,v2,v3,v4,v5,v6,v7,vl,Hx,Hy,Hv⟩:=vf_facts H5.out (o:=o) (xs:=xs) (ys:=ys) (xa:=xa) (ya:=ya) (xn:=xn) (xc:=xc) (yn:=yn) (yc:=yc) i_ i_;go_wp2;refine mD_ ⟨trivial,sT_ rfl ?_⟩;cases g2 with
   | true =>have HD:=q_ (show visL V.bx 0 t X Y=[] from gone_nil (by unfold goneB;rw [HG0.out,HG1.out,HG2.out];rfl));go_wp2;go_end0;refine⟨rfl,v,mm1,?_,HI1.out⟩;rw [HD.out,List.append_nil];exact H5.out.ord 6 [0,1,2,3]
   | false =>
    have HNG:=q_ (show goneB V.bx 0 t X Y=false by unfold goneB;rw [HG0.out,HG1.out,HG2.out];rfl);have hsx:0≤X+-V.bx.x∧X+-V.bx.x<256:=by have h1:=HG1.out;have h2:=HVV.out.w;simp only [apartB,decide_eq_false_iff_not,show p2 0=1 from rfl] at h1;omega
    have hsy:0≤Y+-V.bx.y∧Y+-V.bx.y<256:=by have h1:=HG2.out;have h2:=HVV.out.h;simp only [apartB,decide_eq_false_iff_not,show p2 0=1 from rfl] at h1;omega
    have HPX2:=q_ (HPX.out hsx);have HPY2:=q_ (HPY.out hsy);obtain⟨i,hi⟩:∃ i,X+-V.bx.x=i:=⟨_,rfl⟩;obtain⟨j,hj⟩:∃ j,Y+-V.bx.y=j:=⟨_,rfl⟩;rw [hi] at HPX2 hsx;rw [hj] at HPY2 hsy;have HIT:=q_ (fun w1 (A:Nat→Prop) v (hv:BigZ w1 A v i)=>Int_z hv (zok_int o_ o_) o_ o_);have HJT:=q_ (fun w1 (A:Nat→Prop) v (hv:BigZ w1 A v j)=>Int_z hv (zok_int o_ o_) o_ o_);have hD:visL V.bx 0 t X Y=[⟨i,j,id⟩]:=by rw [HLF.out] at HNG ⊢;have:=HNG.out;unfold visL;rw [this,← hi,← hj,Int.sub_eq_add_neg,Int.sub_eq_add_neg];rfl
    rw [hD] at HLEN;have HDD:=q_ hD;clear HPX HPY hi hj hsx hsy hD HG0 HG1 HG2 HNG HLF HPW;go_wp2_with fail;refine (HK.out _ _ H5.out).mono ?_;rintro e w6 ⟨rfl,h6,hf⟩;have H6:=q_ (show Has W w6 (vsL V mm1 v C _) from h6);clear h6 hf H5 HK;(try clear x0 x1 xl y0 y1 yl v0 v1 v2 v3 v4 v5 v6 v7 vl Hx Hy Hv);obtain⟨x0,x1,xl,y0,y1,yl,v0,v1,v2,v3,v4,v5,v6,v7,vl,Hx,Hy,Hv⟩:=vf_facts H6.out (o:=o) (xs:=xs) (ys:=ys) (xa:=xa) (ya:=ya) (xn:=xn) (xc:=xc) (yn:=yn) (yc:=yc) i_ i_;go_wp2;refine wS [([0,1,2,3,4,5],[0]),([6],[]),([7,8,9,10,11,12],[])] ?_;(simp only [wpSegs,pick,aq_,bq_,cq_,dq_,eq_]);go_wp2_with fail;refine (HNX.out _ _ (H6.out.step (Fr.t)) (fun P hP=>vs_mem (mem2 P hP))).mono ?_;rintro e wa ⟨vn,rfl,hb,hf⟩;have HA:=q_ ((H6.out.step (Fr.t)).step hf);have hp:=HPX2.out wa _ HA.out (fun P hP=>vs_mem (mem2 P hP)) _ vn hb;have HP:=q_ hp;clear hb hf hp H6;(try clear x0 x1 xl y0 y1 yl v0 v1 v2 v3 v4 v5 v6 v7 vl Hx Hy Hv);obtain⟨x0,x1,xl,y0,y1,yl,v0,v1,v2,v3,v4,v5,v6,v7,vl,Hx,Hy,Hv⟩:=vf_facts HA.out (o:=o) (xs:=xs) (ys:=ys) (xa:=xa) (ya:=ya) (xn:=xn) (xc:=xc) (yn:=yn) (yc:=yc) i_ i_;go_wp2;refine mD_ ⟨⟨ab_ (T:=30) rfl rfl rfl Tryz.underlying30 rfl k_ Hx.out rfl,trivial⟩,?_⟩;go_wp2_with fail;refine (HP.out).mono ?_;rintro e wb ⟨vs,rfl,hb,hf⟩;have HB:=q_ (HA.out.step hf);have hp:=HIT.out wb _ _ hb;have HT:=q_ hp;clear hb hf hp HA HP;go_wp2;refine mD_ ⟨trivial,?_⟩;go_wp2_with fail;refine (HT.out).mono ?_;rintro e w7 ⟨rfl,hf⟩;have H7:=q_ (HB.out.step hf);clear hf HB HT;(try clear x0 x1 xl y0 y1 yl v0 v1 v2 v3 v4 v5 v6 v7 vl Hx Hy Hv);obtain⟨x0,x1,xl,y0,y1,yl,v0,v1,v2,v3,v4,v5,v6,v7,vl,Hx,Hy,Hv⟩:=vf_facts H7.out (o:=o) (xs:=xs) (ys:=ys) (xa:=xa) (ya:=ya) (xn:=xn) (xc:=xc) (yn:=yn) (yc:=yc) i_ i_;go_wp2;refine mD_ ⟨trivial,sT_ rfl ?_⟩;go_wp2
    refine wS [([0,1,2,3,4,5],[0]),([6],[]),([7,8,9,10,11,12],[])] ?_;(simp only [wpSegs,pick,aq_,bq_,cq_,dq_,eq_]);go_wp2_with fail;refine (HNY.out _ _ (H7.out.step (Fr.t)) (fun P hP=>vs_mem (mem2 P hP))).mono ?_;rintro e wa ⟨vn,rfl,hb,hf⟩;have HA:=q_ ((H7.out.step (Fr.t)).step hf);have hp:=HPY2.out wa _ HA.out (fun P hP=>vs_mem (mem2 P hP)) _ vn hb;have HP:=q_ hp;clear hb hf hp H7;(try clear x0 x1 xl y0 y1 yl v0 v1 v2 v3 v4 v5 v6 v7 vl Hx Hy Hv);obtain⟨x0,x1,xl,y0,y1,yl,v0,v1,v2,v3,v4,v5,v6,v7,vl,Hx,Hy,Hv⟩:=vf_facts HA.out (o:=o) (xs:=xs) (ys:=ys) (xa:=xa) (ya:=ya) (xn:=xn) (xc:=xc) (yn:=yn) (yc:=yc) i_ i_;go_wp2;refine mD_ ⟨⟨ab_ (T:=30) rfl rfl rfl Tryz.underlying30 rfl k_ Hy.out rfl,trivial⟩,?_⟩;go_wp2_with fail;refine (HP.out).mono ?_;rintro e wb ⟨vs,rfl,hb,hf⟩;have HB:=q_ (HA.out.step hf);have hp:=HJT.out wb _ _ hb;have HT:=q_ hp;clear hb hf hp HA HP;go_wp2;refine mD_ ⟨trivial,?_⟩;go_wp2_with fail;refine (HT.out).mono ?_;rintro e w8 ⟨rfl,hf⟩;have H8:=q_ (HB.out.step hf);clear hf HB HT;(try clear x0 x1 xl y0 y1 yl v0 v1 v2 v3 v4 v5 v6 v7 vl Hx Hy Hv);obtain⟨x0,x1,xl,y0,y1,yl,v0,v1,v2,v3,v4,v5,v6,v7,vl,Hx,Hy,Hv⟩:=vf_facts H8.out (o:=o) (xs:=xs) (ys:=ys) (xa:=xa) (ya:=ya) (xn:=xn) (xc:=xc) (yn:=yn) (yc:=yc) i_ i_;go_wp2;refine mD_ ⟨trivial,sT_ rfl ?_⟩;have Ho:=q_ (H8.out.f3.row);go_wp2_with (at_builtin;refine append_pc (n:=C.length) (base:=0) (xs:=pcs C) (y:=⟨i,j,id⟩) rfl rfl Tryz.underlying26 rfl ?e1 rfl ?e2 ?e3 ?e4 ?_);case e1=>exact oOB Ho.out fun g hg=>hAE _ _ _ (oLT Ho.out hg)
    case e2=>refine (Array.getElem?_eq_some_iff.1 ?_).2;(repeat first|rw [if_pos o_]|rw [if_neg o_]|rw [hDR]|rw [hDN]|rw [hAz]|rw [hSz]|rw [hAC]|rw [hSC]|rw [oMS]|rw [uPC]|rw [lSZ]|rw [lSS]|rfl)
    case e3=>have:=HLEN.out;simp at this;omega
    case e4=>omega
    intro g2 cap w9 hown1 hW1 hF1 hloc1 hg1;rw [pcs_snoc C ⟨i,j,id⟩] at hown1;have hA:=H8.out.f3.step ((Fr.refl [] _).alloc (.cells #[.int .i64 i,.int .i64 j,.int .i64 id] 41));have h9:=hAP (n':=(C++[⟨i,j,id⟩]:List PC).length) hA (by rw [show (C++[⟨i,j,id⟩]:List PC).length=C.length+1 by simp];exact hown1) rfl hF1 (by rcases hloc1 with h|h;exact .inl h;exact .inr (by rw [h];simp));have hv9:=h9.f3.blk;clear x0 x1 xl y0 y1 yl v0 v1 v2 v3 v4 v5 v6 v7 vl;have v7:w9.cell? ⟨V.vb,7,none⟩=some v:=hEC hv9 7;have v7z:=hEF hv9 7;have vl:=lBk hv9;have H9:=q_ h9;clear hown1 hW1 hF1 hloc1 hg1 hA h9 hv9 Ho H8 Hx Hy Hv;go_wp2;go_end0;refine⟨rfl,.slice (some ⟨g2,0,none⟩) (C.length+1) cap,mm1,?_,HI1.out⟩;rw [HDD.out];exact (hST H9.out.f3 7 (.slice (some ⟨g2,0,none⟩) (C.length+1) cap)).ord 6 [2,3,0,1]
end Go.Proofs.YtebolidfbflkmaaGreat
end
