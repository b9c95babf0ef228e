/- Own texts of this claim, part 40: no condition. -/
import Derived.LoopN
import Derived.Lib.Hide
import Derived.Test.YtebolidfbflkmaaGreatRows
import Derived.WalkMore
import Derived.Test.YtebolidfbflkmaaGreatZN36
import Derived.Test.YtebolidfbflkmaaGreatZN37
set_option linter.unusedVariables false
set_option linter.unusedSimpArgs false
set_option maxHeartbeats 16000000
set_option maxRecDepth 100000
section
namespace Go.Proofs.YtebolidfbflkmaaGreat
open Go Go.RowKit Rg Mp Hp Qs
def kcells (k:K4):List Value:=[.int .i64 k.a,.int .i64 k.b,.int .i64 k.c,.int .i64 k.d]
theorem append_quad {ops:Array Oper} {rest:List Oper} {o:Oper} {a:Act} {W:World} {Q:Exit→Act→World→Prop} (hgd:o.guard=none) {s x:Operand} (ho:o.op=.call { callee:=.builtin .append,args:=#[s,x],argTypes:=#[129,129] })
  {base:Nat} {v:Value} {n:Nat} {xs:List Value} (hs:a.eval s=v) (hown:W.ownsRow base 183 4 v n xs) {nb c:Nat} {k:K4} (hx:a.eval x=.slice (some ⟨nb,0,none⟩) 1 c)
  (hnb:W.heap[nb]?=some (.cells #[.int .i64 k.a,.int .i64 k.b,.int .i64 k.c,.int .i64 k.d] 183 (0,0))) (hn:n≤4000000000000) (hbase:base≤W.heap.size)
  (h:∀ g cap w',w'.ownsRow base 183 4 (.slice (some ⟨g,0,none⟩) (n+1) cap) (n+1) (xs++kcells k)→(∀ b,b<W.heap.size→v.ownBlock≠some b→w'.heap[b]?=W.heap[b]?)→Fr v.ownBlock.toList W w'→(v.ownBlock=some g∨g=W.heap.size)→g<w'.heap.size →
   wpList Tryz.prog ops Q rest (a.put o.dst (.slice (some ⟨g,0,none⟩) (n+1) cap)) w'):wpList Tryz.prog ops Q (o::rest) a W :=
 append_new hgd ho Tryz.underlying129 info_quad rfl (by decide) hs hown hx (news:=kcells k) hnb rfl (by intro u hu;simp [kcells] at hu;rcases hu with rfl|rfl|rfl|rfl<;>rfl) (by unfold maxLen;omega) o_ hbase h
theorem New_bad (s:Int) (w:World) (h:s<2∨8<s) :
  Calls Tryz.prog 38 #[.int .i64 s] w fun e w'=>e=.returned (.tuple #[.pointer none,.int .i64 2])∧w=w':=by
 rcases h with h|h
 ·go_enter Tryz.func38,Tryz.ntmps38;go_wp2;go_ret2;exact⟨rfl,rfl⟩
 ·have h':¬ s<2:=o_
  go_enter Tryz.func38,Tryz.ntmps38;go_wp2;go_ret2;exact⟨rfl,rfl⟩
end Go.Proofs.YtebolidfbflkmaaGreat
end
section
namespace Go.Proofs.Qs
theorem lvl_of_tr {s t:Int} {ns ms:List K4} (h:GoodQ s ns) (h':GoodQ t ms) {x y:Int} (kx:Kn s ns x) (ky:Kn t ms y) (he:tr s ns x=tr t ms y):lvl s (levs s ns) x=lvl t (levs t ms) y:=by rw [lvl_ht h ns.length (by have:=kx.2;omega) kx,lvl_ht h' ms.length (by have:=ky.2;omega) ky,he]
end Go.Proofs.Qs
end
section
namespace Go.Proofs.Pt
theorem topP_lt {l:List PC} {s:Int} (hs:0<s):topP l<s↔∀ c∈l,c.st<s:=by
 have:∀ (l:List PC) (m:Int),l.foldl (fun m c=>max m c.st) m<s↔m<s∧∀ c∈l,c.st<s:=by
  intro l
  induction l with
  | nil=>intro m;simp
  | cons c l ih =>intro m;simp only [List.foldl_cons,ih,List.mem_cons,forall_eq_or_imp];rw [← and_assoc,show max m c.st<s↔m<s∧c.st<s by omega]
 unfold topP;rw [this];exact⟨fun h=>h.2,fun h=>⟨hs,h⟩⟩
end Go.Proofs.Pt
end
section
namespace Go.Proofs.Ev
open Qs Pt YtebolidfbflkmaaGreat
theorem runN_tab2:((List.range 3).all fun p=>(List.range 6).all fun n=>decide (runN p (max p 1+1) 21 n≤36000) && decide (runN p (max p 1+1) 41 n≤61000))=true:=by decide +kernel
theorem runL_le5 (r:Rule) (F:Fld) (a b:Int) {n:Nat} (hn:n≤5):(runL r F a b 21 n).length≤36000:=by have h:=runN_tab2;have hr:=rad_lost r;simp only [List.all_eq_true,List.mem_range,Bool.and_eq_true,decide_eq_true_eq] at h;rw [runL_length,hr.2];exact (h _ hr.1 n o_).1
theorem runL_le41 (r:Rule) (F:Fld) (a b:Int) {n:Nat} (hn:n≤5):(runL r F a b 41 n).length≤61000:=by have h:=runN_tab2;have hr:=rad_lost r;simp only [List.all_eq_true,List.mem_range,Bool.and_eq_true,decide_eq_true_eq] at h;rw [runL_length,hr.2];exact (h _ hr.1 n o_).2
end Go.Proofs.Ev
end
section
namespace Go.Proofs.Hp
open Go Go.RowKit Ev
theorem pts_length (l:List (Int×Int)):(pts l).length=l.length*2:=by
 unfold pts
 induction l with
 | nil=>rfl
 | cons p l ih=>simp only [List.flatMap_cons,List.length_append,List.length_cons,List.length_nil,ih];omega
end Go.Proofs.Hp
end
section
namespace Go.Proofs.YtebolidfbflkmaaGreat
open Go Go.RowKit Rg Mp Hp Qs Ev Pt
def few12 (r:Rule):Bool:=decide (r.hood.length≤40) && decide (r.nodes.length≤400) && r.nodes.all fun x=>decide (x.2.length≤20)
theorem LFew12_calls {w:World} {r:Rule} {ha na:Option Addr} {hc nc:Nat} (hru:RuleAt w (.slice ha r.hood.length hc) (.slice na r.nodes.length nc) r) :
  Calls Tryz.prog 31 #[.agg #[.int .i64 r.S,.slice ha r.hood.length hc,.slice na r.nodes.length nc]] w fun e w'=>e=.returned (.bool (few12 r))∧Fr [] w w':=by
 have HN:=q_ hru.2;clear hru;by_cases h1:r.hood.length≤40;·
  by_cases h2:r.nodes.length≤400;·
   go_enter Tryz.func31,Tryz.ntmps31;go_wp2;obtain⟨w1,hw1⟩:∃ w1,w.alloc (Obj.cells #[Value.int .i64 r.S,.slice ha r.hood.length hc,.slice na r.nodes.length nc] 25 (0,0))=w1:=⟨_,rfl⟩;have hb1:w1.heap[w.heap.size]?=some (.cells #[Value.int .i64 r.S,.slice ha r.hood.length hc,.slice na r.nodes.length nc] 25 (0,0)):=by rw [← hw1];(repeat first|rw [if_pos o_]|rw [if_neg o_]|rw [hDR]|rw [hDN]|rw [hAz]|rw [hSz]|rw [hAC]|rw [hSC]|rw [oMS]|rw [uPC]|rw [lSZ]|rw [lSS]|rfl)
   have Hf:=q_ (show Fr [] w w1 by rw [← hw1];exact Fr.t);rw [hw1];have Ht:=q_ hb1;obtain⟨tb,htb⟩:∃ t,w.heap.size=t:=⟨_,rfl⟩;rw [htb] at Ht ⊢;clear hw1 hb1 htb;have hfk:=Fr.refl [] w1;(try clear t0 t1 t2 tl);have ht_:=tk hfk Ht;clear Ht;obtain⟨t0,t1,t2,tl⟩:=l3_ ht_;have Ht:=q_ ht_;clear ht_;clear hfk;go_loopw [17] (fun x wr=>∃ i:Nat,x=.int .i64 i∧i≤r.nodes.length∧Hid (∀ j x,j<i→r.nodes[j]?=some x→x.2.length≤20)∧wr=w1) (fun z _=>r.nodes.length - (intOf z).toNat);case atStart=>exact⟨0,rfl,o_,q_ o_,rfl⟩
   case round =>
    obtain⟨i,rfl,hi,HE,rfl⟩:=hrel;by_cases hlt:i<r.nodes.length;·
     obtain⟨x,hx⟩:∃ x,r.nodes[i]?=some x:=⟨_,List.getElem?_eq_getElem hlt⟩;obtain⟨g,off,ra,rc,rfl,hg,e0,e1,hi9⟩:=(HN.out.fr Hf.out).node hx;have HX:=q_ hx;clear hx hi9 e0;by_cases hle:x.2.length≤20
     ·have HE':=q_ (show ∀ j x,j<i+1→r.nodes[j]?=some x→x.2.length≤20 from fun j y hj hy=>by
       by_cases e:j=i
       ·subst e;rw [HX.out] at hy;obtain rfl:=Option.some.inj hy;exact hle
       ·exact HE.out j y o_ hy)
      generalize x.2.length=xl at *
      go_wp2;go_roundw;case rel=>exact⟨i+1,by go_num,o_,HE',trivial⟩
      case measure=>simp [intOf];omega
     ·have HNE:=q_ (show few12 r=false by
       unfold few12
       have:r.nodes.all (fun x=>decide (x.2.length≤20))=false:=all_false HX.out (by simpa using hle)
       rw [this];simp)
      generalize x.2.length=xl at *
      go_wp2;go_ret;exact⟨ret_bool' HNE.out.symm,by have:=Hf.out;exact Fr.t⟩
    ·have HEQ:=q_ (show few12 r=true by
      unfold few12
      rw [decide_eq_true h1,decide_eq_true h2,all_true (fun j x hx hj=>decide_eq_true (HE.out j x o_ hx))];rfl)
     obtain rfl:i=r.nodes.length:=o_;go_wp2;go_ret;exact⟨ret_bool' HEQ.out.symm,by have:=Hf.out;exact Fr.t⟩
  ·have HNE:=q_ (show few12 r=false by unfold few12;rw [decide_eq_false h2];simp);go_enter Tryz.func31,Tryz.ntmps31;go_wp2;go_ret;exact⟨ret_bool' HNE.out.symm,Fr.t⟩
 ·have HNE:=q_ (show few12 r=false by unfold few12;rw [decide_eq_false h1];simp);go_enter Tryz.func31,Tryz.ntmps31;go_wp2;go_ret;exact⟨ret_bool' HNE.out.symm,Fr.t⟩
def smallP (r:Rule) (p:List PC):Bool:=few12 r && decide (p.length≤60)
theorem LSmall_calls {w:World} {r:Rule} {ha na:Option Addr} {hc nc:Nat} (hru:RuleAt w (.slice ha r.hood.length hc) (.slice na r.nodes.length nc) r) {p:List PC} {a:Option Addr} {c:Nat} :
  Calls Tryz.prog 8 #[.agg #[.int .i64 r.S,.slice ha r.hood.length hc,.slice na r.nodes.length nc],.slice a p.length c] w fun e w'=>e=.returned (.bool (smallP r p))∧Fr [] w w':=by
 have HF:=q_ (fun w' (hf:Fr [] w w')=>LFew12_calls (hru.fr hf));obtain⟨B,hB⟩:∃ B,few12 r=B:=⟨_,rfl⟩;rw [hB] at HF;have hP:smallP r p=(B && decide (p.length≤60)):=by unfold smallP;rw [hB]
 rw [hP];obtain⟨l,hl⟩:∃ l,p.length=l:=⟨_,rfl⟩;rw [hl];clear hru hB hP hl;have e1:decide ((l:Int)≤60)=decide (l≤60):=decide_eq_decide.2 o_;have E1:=q_ e1;clear e1;cases B<;>(
  go_enter Tryz.func8,Tryz.ntmps8
  go_wp2_with fail
  refine (HF.out _ (Fr.t)).mono ?_
  rintro e w1 ⟨rfl,hf1⟩
  have Hf:=q_ (Fr.trans0 (Fr.t:Fr [] w _) hf1)
  clear hf1
  go_wp2
  go_ret)
 ·exact⟨rfl,by have:=Hf.out;exact Fr.t⟩
 ·exact⟨congrArg (fun b:Bool=>Ending.returned (Value.bool b)) E1.out,by have:=Hf.out;exact Fr.t⟩
end Go.Proofs.YtebolidfbflkmaaGreat
end
section
namespace Go.Proofs.YtebolidfbflkmaaGreat
open Go Go.RowKit Rg Mp Hp Qs
instance (s:Int) (ns:List K4):Decidable (GoodQ s ns):=by
 have:GoodQ s ns↔2≤s∧s≤8∧ns.length≤100000∧ns.Nodup∧∀ i:Fin ns.length,Fits s (ns.take i) ns[i]:=by
  unfold GoodQ;constructor;·
   rintro⟨h1,h2,h3,h4,h5⟩;exact⟨h1,h2,h3,h4,fun i=>h5 i _ i_⟩
  ·rintro⟨h1,h2,h3,h4,h5⟩;refine⟨h1,h2,h3,h4,fun i k hi=>?_⟩;obtain⟨h,rfl⟩:=List.getElem?_eq_some_iff.1 hi;exact h5 ⟨i,h⟩
 exact decidable_of_iff _ this.symm
theorem goodQ_step {s:Int} {ns:List K4} (h:GoodQ s ns) {i:Nat} (hi:i<ns.length):Fits s (ns.take i) ns[i]∧ns[i]∉ns.take i:=by obtain⟨h1,h2,h3,h4,h5⟩:=h;refine⟨h5 i _ (List.getElem?_eq_getElem hi),fun hm=>?_⟩;obtain⟨j,hj,e⟩:=List.getElem_of_mem hm;rw [List.length_take] at hj;rw [List.getElem_take] at e;exact (List.pairwise_iff_getElem.1 h4) j i o_ hi o_ e
theorem take_snoc {ns:List K4} {i:Nat} (hi:i<ns.length):ns.take (i+1)=ns.take i++[ns[i]]:=by rw [List.take_add_one,List.getElem?_eq_getElem hi];rfl
theorem join_ok {s:Int} {ns:List K4} {k:K4} (h:Fits s ns k) (hn:k∉ns) (hl:ns.length<100000):join s ns k=((s+ns.length,0),ns++[k]):=by unfold join;have hf:=h;unfold Fits at hf;rw [if_neg o_,if_neg (by simpa using h),joinIn_new (by simpa using hn) hl]
theorem join_bad {s:Int} {ns:List K4} {k:K4} (h:¬ (Fits s ns k∧k∉ns)) (_:ns.length<100000):(join s ns k).1.2≠0∨(join s ns k).1.1≠s+ns.length:=by
 unfold join;split;·left;simp
 ·split;·left;simp
  ·rename_i hf;have hf:=Decidable.not_not.1 hf;have hk:k∈ns:=by
    rcases Decidable.em (k∈ns) with h'|h'
    ·exact h'
    ·exact absurd ⟨hf,h'⟩ h
   obtain⟨i,hi⟩:∃ i,ns.idxOf? k=some i:=by
    cases hx:ns.idxOf? k with
    | none=>rw [List.idxOf?_eq_none_iff] at hx;exact absurd hk hx
    | some i=>exact⟨i,rfl⟩
   rw [joinIn_hit hi];right;rw [List.idxOf?_eq_some_iff] at hi;obtain⟨h1,_⟩:=hi;simp;omega
def LoadPost (w:World) (s:Int) (ns:List K4) (e:Ending) (w':World):Prop :=
 (GoodQ s ns→∃ b F,e=.returned (.tuple #[.pointer (some ⟨b,0,none⟩),.int .i64 0])∧StoreAt w' b s ns F∧Fr [] w w'∧∀ x∈F,w.heap.size≤x) ∧
 (¬ GoodQ s ns→e=.returned (.tuple #[.pointer none,.int .i64 2])∧Fr [] w w')
theorem Load_calls {w:World} {s:Int} {ns:List K4} {v:Value} (hl:ns.length≤100000) (hv:Reads w v ns.length 4 (flat ns)) :
  Calls Tryz.prog 137 #[.agg #[.int .i64 s,v]] w (LoadPost w s ns):=by
 have hvk:=hv;obtain⟨_,a,c,rfl,hav⟩:=hv;by_cases hbad:s<2∨8<s;·
  have hng:¬ GoodQ s ns:=fun h=>by have:=h.1;have:=h.2.1;omega
  have Hl:=q_ hl;clear hl hav hvk;go_enter Tryz.func137,Tryz.ntmps137;go_wp2_with fail;refine (New_bad s _ hbad).mono ?_;rintro e w' ⟨rfl,rfl⟩;go_wp2;go_ret2;exact⟨fun h=>absurd h hng,fun _=>⟨rfl,Fr.t⟩⟩
 ·have hl2:ns.length≤1048576:=o_
  have Hl:=q_ hl;have Hav:=q_ hav;have Hvk:=q_ hvk;have hs1:2≤s:=o_
  have hs2:s≤8:=o_
  clear hav hvk hbad hl;have hd:decide ((100000:Int)<↑ns.length)=false:=by have:=Hl.out;simp;omega
  go_enter Tryz.func137,Tryz.ntmps137;go_wp2_with fail;refine (New_ok s _ hs1 hs2).mono ?_;rintro e w1 ⟨b,F0,rfl,hS0,hf0,hF0⟩;have hbx:w1.heap[w.heap.size]?=some (.cells #[.int .i64 s,.slice a ns.length c] 135 (0,0)):=(hf0.block _ i_ i_).trans hpT;obtain⟨c0,c1⟩:=e2_ hbx;have hfw:Fr [] w w1:=((Fr.refl _ _).alloc _).trans0 hf0;have Hbx:=q_ hbx;have Hfw:=q_ hfw;have HF0:=q_ hF0;clear hbx hf0 hfw hF0;go_wp2;go_loopw [27] (fun x wr=>∃ (k:Nat) (F':List Nat),x=.int .i64 k∧k≤ns.length∧GoodQ s (ns.take k)∧StoreAt wr b s (ns.take k) F'∧Fr [] w wr∧(∀ x∈F',w.heap.size+1≤x)∧wr.heap[w.heap.size]?=some (.cells #[.int .i64 s,.slice a ns.length c] 135 (0,0))) (fun x _=>ns.length - (intOf x).toNat);case atStart=>exact⟨0,F0,rfl,o_,GoodQ.nil hs1 hs2,hS0,Hfw.out,fun x hx=>by have:=HF0.out x hx;simp at this;omega,Hbx.out⟩
  case round =>
   obtain⟨k,F',rfl,hk,hg,hS',hf',hF',hb'⟩:=hrel;have c0:=hEC hb' 0;have c1:=hEC hb' 1;have hwlt:w.heap.size<wr.heap.size:=lBk hb';have Hf:=q_ hf';have HF:=q_ hF';have HB:=q_ hb';have HG:=q_ hg;clear hf' hF' hb' hg;by_cases hlt:k<ns.length;·
    obtain⟨g,off,rfl,hg,hc⟩:=Hav.out o_;obtain⟨f0,f1,f2,f3⟩:=flat_get (List.getElem?_eq_getElem hlt);rw [Nat.mul_comm] at f0 f1 f2 f3;obtain⟨x,hx⟩:∃ x,x=ns[k]:=⟨_,rfl⟩;rw [← hx] at f0 f1 f2 f3;have hgw:∀ j,wr.cell? ⟨g,off+j,none⟩=w.cell? ⟨g,off+j,none⟩:=fun j=>Hf.out.cell (p:=⟨g,off+j,none⟩) hg i_;have e0:=(hgw _).trans (hc _ _ f0);have e1:=(hgw _).trans (hc _ _ f1);have e2:=(hgw _).trans (hc _ _ f2);have e3:=(hgw _).trans (hc _ _ f3);simp only [← Nat.add_assoc] at e1 e2 e3;have hgr:g<wr.heap.size:=o_;have Hx:=q_ hx;clear hx hc f0 f1 f2 f3 hgw;have hJ:∀ w1,Fr [] wr w1→Calls Tryz.prog 82 #[.pointer (some ⟨b,0,none⟩),.int .i64 x.a,.int .i64 x.b,.int .i64 x.c,.int .i64 x.d] w1 (JoinPost w1 b s (ns.take k) F' x):=fun w1 hf=>Join_calls (hS'.fr hf i_) x;go_wp2_with fail;refine (hJ _ (Fr.t)).mono ?_;clear hJ;rintro e w2 ⟨rfl,F2,hS2,hf2,hF2⟩;have hb2:w2.heap[w.heap.size]?=some (.cells #[.int .i64 s,.slice (some ⟨g,off,none⟩) ns.length c] 135 (0,0)):=by
     refine (hf2.block _ (by simp;omega) fun h=>?_).trans ?_;·have:=HF.out _ h;omega
     ·rw [← HB.out];(repeat first|rw [if_pos o_]|rw [if_neg o_]|rw [hDR]|rw [hDN]|rw [hAz]|rw [hSz]|rw [hAC]|rw [hSC]|rw [oMS]|rw [uPC]|rw [lSZ]|rw [lSS]|rfl)
    obtain⟨c0,c1⟩:=e2_ hb2;have hlk:(ns.take k).length=k:=(by rw [List.length_take];omega);have hfr2:Fr [] w w2:=by
     have h1:Fr F' wr w2:=by refine Fr.trans ?_ hf2 fun x hx=>.inl hx;exact Fr.t
     refine Hf.out.trans (h1) fun x hx=>?_;right;have:=HF.out x hx;omega
    have Hb2:=q_ hb2;have Hlk:=q_ hlk;have Hf2:=q_ hf2;have HF2:=q_ hF2;have Hfr2:=q_ hfr2;clear hb2 hlk hf2 hF2 hfr2;have hl5:ns.length≤100000:=Hl.out;have hk5:k<100000:=o_;have Hk5:=q_ hk5;clear hl5 hk5;by_cases hok:Fits s (ns.take k) x∧x∉ns.take k;·
     have hj:=join_ok hok.1 hok.2 (by rw [Hlk.out];exact Hk5.out);rw [Hlk.out] at hj;rw [hj] at hS2 ⊢;have Hok:=q_ hok;clear hok hj;go_wp2;go_roundw;case rel =>
      have hx:=Hx.out;have ht:ns.take (k+1)=ns.take k++[x]:=(by rw [take_snoc hlt,hx]);refine⟨k+1,F2,by go_num,o_,?_,by rw [ht];exact hS2,Hfr2.out,fun y hy=>?_,Hb2.out⟩;·rw [ht];exact HG.out.snoc Hok.out.1 Hok.out.2 (by rw [Hlk.out];exact Hk5.out)
      ·rcases HF2.out y hy with h|h
       ·exact HF.out y h
       ·simp at h;omega
     case measure=>simp [intOf];omega
    ·have hjb:=join_bad hok (by rw [Hlk.out];exact Hk5.out);rw [Hlk.out] at hjb;have hng:¬ GoodQ s ns:=fun h=>hok (by rw [Hx.out];exact goodQ_step h hlt);have Hng:=q_ hng;clear hok hng hS2;generalize (join s (ns.take k) x).1.1=r at *
     generalize (join s (ns.take k) x).1.2=q at *
     by_cases hq:q=0;·
      subst hq;have hr:r≠s+k:=by rcases hjb with h|h<;>omega
      have hrb:(r != s+↑k)=true:=(by simpa using hr);clear hjb hr;go_wp2;go_ret2;exact⟨fun h=>absurd h Hng.out,fun _=>⟨rfl,Hfr2.out⟩⟩
     ·have hqb:(q != 0)=true:=(by simpa using hq);clear hjb hq;go_wp2;go_ret2;exact⟨fun h=>absurd h Hng.out,fun _=>⟨rfl,Hfr2.out⟩⟩
   ·obtain rfl:k=ns.length:=o_;go_wp2;go_ret2;have hg:=HG.out;rw [List.take_length] at hg hS';exact⟨fun _=>⟨b,F',rfl,hS',Hf.out,fun x hx=>by have:=HF.out x hx;omega⟩,fun h=>absurd hg h⟩
end Go.Proofs.YtebolidfbflkmaaGreat
end
section
namespace Go.Proofs.Qs
def setT (m:List Bool) (k:Int):List Bool:=m.set k.toNat true
def markK (m:List Bool) (k:K4):List Bool:=setT (setT (setT (setT m k.a) k.b) k.c) k.d
def at' (m:List Bool) (id:Int):Bool:=m.getD id.toNat false
def markOne (s:Int) (ns:List K4) (i:Nat) (m:List Bool):List Bool:=match ns[i]? with
 | some k=>if at' m (s+i) then markK m k else m
 | none=>m
def markDown (s:Int) (ns:List K4):Nat→List Bool→List Bool
 | 0,m=>m
 | i+1,m=>markDown s ns i (markOne s ns i m)
def markRoots (N:Int):List Int→List Bool→Option (List Bool)
 | [],m=>some m
 | r::rs,m=>if r<0∨N≤r then none else markRoots N rs (setT m r)
def marks (s:Int) (ns:List K4) (roots:List Int):Option (List Bool) :=
 (markRoots (s+ns.length) roots (List.replicate (s+ns.length).toNat false)).map (markDown s ns ns.length)
theorem setT_length (m:List Bool) (k:Int):(setT m k).length=m.length:=by simp [setT]
theorem markK_length (m:List Bool) (k:K4):(markK m k).length=m.length:=by simp [markK,setT_length]
theorem markOne_length (s:Int) (ns:List K4) (i:Nat) (m:List Bool):(markOne s ns i m).length=m.length:=by
 unfold markOne;split;·
  split;·exact markK_length _ _
  ·rfl
 ·rfl
theorem markDown_length (s:Int) (ns:List K4):∀ (i:Nat) (m:List Bool),(markDown s ns i m).length=m.length
 | 0,_=>rfl
 | i+1,m=>by rw [markDown,markDown_length s ns i,markOne_length]
theorem markRoots_length {N:Int}:∀ {rs:List Int} {m m':List Bool},markRoots N rs m=some m'→m'.length=m.length
 | [],m,m',h=>by cases h;rfl
 | r::rs,m,m',h=>by
  rw [markRoots] at h;split at h;·cases h
  ·rw [markRoots_length h,setT_length]
theorem at_setT {m:List Bool} {k j:Int} (hk:0≤k) (hk2:k<m.length) (hj:0≤j):at' (setT m k) j=(decide (j=k) || at' m j):=by
 unfold at' setT;rw [List.getD_eq_getElem?_getD,List.getD_eq_getElem?_getD,List.getElem?_set];by_cases h:j=k;·subst h;rw [if_pos rfl,if_pos o_];simp
 ·rw [if_neg o_];simp [h]
theorem at_markK {m:List Bool} {k:K4} {j:Int} (ha:0≤k.a∧k.a<m.length) (hb:0≤k.b∧k.b<m.length) (hc:0≤k.c∧k.c<m.length) (hd:0≤k.d∧k.d<m.length) (hj:0≤j) :
  at' (markK m k) j=(decide (j=k.a∨j=k.b∨j=k.c∨j=k.d) || at' m j):=by
 unfold markK;rw [at_setT hd.1 (by simp only [setT_length];exact hd.2) hj,at_setT hc.1 (by simp only [setT_length];exact hc.2) hj,at_setT hb.1 (by simp only [setT_length];exact hb.2) hj,at_setT ha.1 ha.2 hj];by_cases h1:j=k.a<;>by_cases h2:j=k.b<;>by_cases h3:j=k.c<;>by_cases h4:j=k.d<;>simp [h1,h2,h3,h4]
def K4.has (k:K4) (j:Int):Prop:=j=k.a∨j=k.b∨j=k.c∨j=k.d
theorem at_markOne {s:Int} {ns:List K4} (h:GoodQ s ns) {i:Nat} (hi:i<ns.length) {m:List Bool} (hm:(m.length:Int)=s+ns.length) {j:Int} (hj:0≤j) :
  ∃ k,ns[i]?=some k∧(at' (markOne s ns i m) j=true↔at' m j=true∨at' m (s+i)=true∧k.has j):=by
 have hk:=List.getElem?_eq_getElem hi;refine⟨_,hk,?_⟩;obtain⟨ha,hb,hc,hd⟩:=good_kids h hk;unfold markOne;rw [hk];simp only;by_cases hs:at' m (s+i)=true;·
  rw [if_pos hs,at_markK ⟨ha.1,o_⟩ ⟨hb.1,o_⟩ ⟨hc.1,o_⟩ ⟨hd.1,o_⟩ hj,Bool.or_eq_true,decide_eq_true_eq];constructor;·
   rintro (h1|h1);·exact .inr ⟨hs,h1⟩
   ·exact .inl h1
  ·rintro (h1|⟨_,h1⟩);·exact .inr h1
   ·exact .inl h1
 ·rw [if_neg hs];constructor;·exact fun h=>.inl h
  ·rintro (h1|⟨h1,_⟩);·exact h1
   ·exact absurd h1 hs
theorem at_markDown {s:Int} {ns:List K4} (h:GoodQ s ns):∀ (n:Nat) {m:List Bool},n≤ns.length→(m.length:Int)=s+ns.length →
  (∀ j,0≤j→at' m j=true→at' (markDown s ns n m) j=true) ∧
  (∀ j,s+n≤j→at' (markDown s ns n m) j=at' m j) ∧
  (∀ i k j,i<n→ns[i]?=some k→at' (markDown s ns n m) (s+(i:Nat))=true→k.has j→at' (markDown s ns n m) j=true) ∧
  (∀ j,0≤j→at' (markDown s ns n m) j=true→at' m j=true∨∃ i k,i<n∧ns[i]?=some k∧at' (markDown s ns n m) (s+(i:Nat))=true∧k.has j)
 | 0,m,_,_=>⟨fun j _ h=>h,fun j _=>rfl,fun i k j hi=>by omega,fun j _ h=>.inl h⟩
 | n+1,m,hn,hm=>by
  have hs:=h.1;obtain⟨I1,I2,I3,I4⟩:=at_markDown h n (m:=markOne s ns n m) o_ (by rw [markOne_length];exact hm);have hO:=fun j (hj:0≤j)=>at_markOne h (i:=n) o_ hm hj;obtain⟨k0,hk0,_⟩:=hO 0 o_;have hO':∀ j,0≤j→(at' (markOne s ns n m) j=true↔at' m j=true∨at' m (s+n)=true∧k0.has j):=fun j hj=>by obtain⟨k,hk,h1⟩:=hO j hj;rw [hk0] at hk;cases hk;exact h1
  obtain⟨ka,kb,kc,kd⟩:=good_kids h hk0;have hlow:∀ j,k0.has j→0≤j∧j<s+n:=fun j hj=>by
   rcases hj with rfl|rfl|rfl|rfl
   ·exact ka
   ·exact kb
   ·exact kc
   ·exact kd
  have hhigh:∀ j,s+n≤j→at' (markOne s ns n m) j=at' m j:=fun j hj=>by
   rw [Bool.eq_iff_iff,hO' j o_];constructor;·
    rintro (h1|⟨_,h1⟩);·exact h1
    ·have:=hlow j h1;omega
   ·exact fun h=>.inl h
  show (∀ j,0≤j→at' m j=true→at' (markDown s ns n (markOne s ns n m)) j=true)∧(∀ j,s+(n+1:Nat)≤j→at' (markDown s ns n (markOne s ns n m)) j=at' m j) ∧
   (∀ i k j,i<n+1→ns[i]?=some k→at' (markDown s ns n (markOne s ns n m)) (s+(i:Nat))=true→k.has j→at' (markDown s ns n (markOne s ns n m)) j=true) ∧
   (∀ j,0≤j→at' (markDown s ns n (markOne s ns n m)) j=true→at' m j=true∨∃ i k,i<n+1∧ns[i]?=some k∧at' (markDown s ns n (markOne s ns n m)) (s+(i:Nat))=true∧k.has j)
  refine⟨fun j hj h1=>I1 j hj ((hO' j hj).2 (.inl h1)),fun j hj=>(I2 j o_).trans (hhigh j o_),fun i k j hi hk h1 h2=>?_,fun j hj h1=>?_⟩;·
   by_cases hin:i=n;·
    subst hin;rw [hk0] at hk;cases hk;rw [I2 _ o_,hhigh _ o_] at h1;exact I1 j (hlow j h2).1 ((hO' j (hlow j h2).1).2 (.inr ⟨h1,h2⟩))
   ·exact I3 i k j o_ hk h1 h2
  ·rcases I4 j hj h1 with h2|⟨i,k,hi,hk,h2,h3⟩
   ·rcases (hO' j hj).1 h2 with h3|⟨h3,h4⟩
    ·exact .inl h3
    ·exact .inr ⟨n,k0,o_,hk0,by rw [I2 _ o_,hhigh _ o_];exact h3,h4⟩
   ·exact .inr ⟨i,k,o_,hk,h2,h3⟩
theorem at_markRoots {N:Int}:∀ {rs:List Int} {m m':List Bool},(m.length:Int)=N→markRoots N rs m=some m'→(∀ r∈rs,0≤r∧r<N)∧∀ j,0≤j→(at' m' j=true↔at' m j=true∨j∈rs)
 | [],m,m',_,h=>by cases h;exact⟨i_,fun j _=>by simp⟩
 | r::rs,m,m',hN,h=>by
  rw [markRoots] at h;split at h;·cases h
  ·rename_i hr;obtain⟨h1,h2⟩:=at_markRoots (by rw [setT_length];exact hN) h;refine⟨fun x hx=>?_,fun j hj=>?_⟩;·
    rw [List.mem_cons] at hx;rcases hx with rfl|hx
    ·omega
    ·exact h1 x hx
   ·rw [h2 j hj,at_setT o_ o_ hj,Bool.or_eq_true,decide_eq_true_eq,List.mem_cons];constructor;·
     rintro ((h3|h3)|h3);·exact .inr (.inl h3)
     ·exact .inl h3
     ·exact .inr (.inr h3)
    ·rintro (h3|h3|h3);·exact .inl (.inr h3)
     ·exact .inl (.inl h3)
     ·exact .inr h3
theorem markRoots_none {N:Int}:∀ {rs:List Int} {m:List Bool},markRoots N rs m=none↔∃ r∈rs,r<0∨N≤r
 | [],m=>by simp [markRoots]
 | r::rs,m=>by
  rw [markRoots];by_cases h:r<0∨N≤r;·rw [if_pos h];simp;exact .inl h
  ·rw [if_neg h,markRoots_none];simp [h]
structure Marked (s:Int) (ns:List K4) (roots:List Int) (m:List Bool):Prop where
 len:(m.length:Int)=s+ns.length
 root:∀ r∈roots,Kn s ns r∧at' m r=true
 down:∀ i k j,ns[i]?=some k→at' m (s+(i:Nat))=true→k.has j→at' m j=true
 why:∀ j,0≤j→at' m j=true→j∈roots∨∃ i k,ns[i]?=some k∧at' m (s+(i:Nat))=true∧k.has j
theorem marks_marked {s:Int} {ns:List K4} (h:GoodQ s ns) {roots:List Int} {m:List Bool} (hm:marks s ns roots=some m):Marked s ns roots m:=by
 unfold marks at hm;rw [Option.map_eq_some_iff] at hm;obtain⟨m0,h0,rfl⟩:=hm;have hs:=h.1;have hl0:=markRoots_length h0;rw [List.length_replicate] at hl0;obtain⟨r1,r2⟩:=at_markRoots (by rw [List.length_replicate];omega) h0;obtain⟨I1,_,I3,I4⟩:=at_markDown h ns.length (m:=m0) (Nat.le_refl _) o_;have hrep:∀ j,at' (List.replicate (s+ns.length).toNat false) j=false:=fun j=>by unfold at';rw [List.getD_eq_getElem?_getD,List.getElem?_replicate];split<;>rfl
 refine⟨by rw [markDown_length];omega,fun r hr=>⟨r1 r hr,I1 r (r1 r hr).1 ((r2 r (r1 r hr).1).2 (.inr hr))⟩,fun i k j hk=>I3 i k j (List.getElem?_eq_some_iff.1 hk).1 hk,fun j hj h1=>?_⟩;rcases I4 j hj h1 with h2|⟨i,k,_,hk,h2,h3⟩
 ·rcases (r2 j hj).1 h2 with h3|h3
  ·rw [hrep] at h3;cases h3
  ·exact .inl h3
 ·exact .inr ⟨i,k,hk,h2,h3⟩
theorem marks_none {s:Int} {ns:List K4} {roots:List Int}:marks s ns roots=none↔∃ r∈roots,¬ Kn s ns r:=by
 unfold marks;rw [Option.map_eq_none_iff,markRoots_none];constructor;·rintro⟨r,hr,h⟩;exact⟨r,hr,fun k=>by have:=k.1;have:=k.2;omega⟩
 ·rintro⟨r,hr,h⟩;exact⟨r,hr,by unfold Kn at h;omega⟩
end Go.Proofs.Qs
end
section
namespace Go.Proofs.Qs
def geti (t:List Int) (j:Int):Int:=t.getD j.toNat 0
def ren (t:List Int) (k:K4):K4:=⟨geti t k.a,geti t k.b,geti t k.c,geti t k.d⟩
def seti (t:List Int) (j v:Int):List Int:=t.set j.toNat v
theorem seti_length (t:List Int) (j v:Int):(seti t j v).length=t.length:=by simp [seti]
theorem geti_seti {t:List Int} {j k v:Int} (hj:0≤j) (hj2:j<t.length) (hk:0≤k):geti (seti t j v) k=if k=j then v else geti t k:=by
 unfold geti seti;rw [List.getD_eq_getElem?_getD,List.getD_eq_getElem?_getD,List.getElem?_set];by_cases h:k=j;·subst h;rw [if_pos rfl,if_pos o_,if_pos rfl];rfl
 ·rw [if_neg o_,if_neg h]
def names0 (s:Int) (n:Nat):List Int:=(List.range n).map fun (i:Nat)=>if (i:Int)<s then (i:Int) else 0
theorem names0_length (s:Int) (n:Nat):(names0 s n).length=n:=by simp [names0]
theorem geti_names0 {s:Int} {n:Nat} {j:Int} (hj:0≤j) (hn:j<n):geti (names0 s n) j=if j<s then j else 0:=by unfold geti names0;rw [List.getD_eq_getElem?_getD,List.getElem?_map,List.getElem?_range o_];simp only [Option.map_some,Option.getD_some,Int.toNat_of_nonneg hj]
structure Named (s:Int) (ns:List K4) (m:List Bool) (i:Nat) (t:List Int) (out:List K4):Prop where
 len:(t.length:Int)=s+ns.length
 leaf:∀ j,0≤j→j<s→geti t j=j
 good:GoodQ s out
 tree:∀ j,0≤j→j<s+i→(j<s∨at' m j=true)→Kn s out (geti t j)∧tr s out (geti t j)=tr s ns j
theorem Named.start {s:Int} {ns ms:List K4} {m:List Bool} (h:GoodQ s ns) (h':GoodQ s ms):Named s ns m 0 (names0 s (s+ns.length).toNat) ms:=by have hs:=h.1;refine⟨by rw [names0_length];omega,fun j h1 h2=>by rw [geti_names0 h1 o_,if_pos h2],h',fun j h1 h2 _=>?_⟩;rw [geti_names0 h1 o_,if_pos o_];exact⟨⟨h1,o_⟩,by rw [tr_leaf o_,tr_leaf o_]⟩
theorem Named.skip {s:Int} {ns out:List K4} {m:List Bool} {i:Nat} {t:List Int} (h:Named s ns m i t out) (_:0≤s) (hm:at' m (s+i)=false):Named s ns m (i+1) t out:=by
 refine⟨h.len,h.leaf,h.good,fun j h1 h2 h3=>?_⟩;by_cases hj:j=s+i;·
  subst hj;rcases h3 with h3|h3
  ·omega
  ·rw [hm] at h3;cases h3
 ·exact h.tree j h1 o_ h3
section
variable {s:Int} {ns out:List K4} {m:List Bool} {i:Nat} {t:List Int} {k:K4}
theorem Named.kids (h:Named s ns m i t out) (hg:GoodQ s ns) (hm:∀ j,k.has j→j<s∨at' m j=true) (hk:ns[i]?=some k) :
  (∀ j,k.has j→Kn s out (geti t j)∧tr s out (geti t j)=tr s ns j)∧Fits s out (ren t k):=by
 have hs:=hg.1;obtain⟨ka,kb,kc,kd⟩:=good_kids hg hk;have hT:∀ j,k.has j→Kn s out (geti t j)∧tr s out (geti t j)=tr s ns j:=fun j hj=>by
  have:0≤j∧j<s+i:=by
   rcases hj with rfl|rfl|rfl|rfl
   ·exact ka
   ·exact kb
   ·exact kc
   ·exact kd
  exact h.tree j this.1 this.2 (hm j hj)
 refine⟨hT,?_⟩;have hi:=(List.getElem?_eq_some_iff.1 hk).1;obtain⟨_,l0,l1,l2,l3,l4⟩:=good_lvl hg hk;have hl:∀ j,k.has j→j<s+i→0≤j→lvl s (levs s out) (geti t j)=lvl s (levs s ns) j:=fun j hj hj2 hj0=>lvl_of_tr h.good hg (hT j hj).1 ⟨hj0,o_⟩ (hT j hj).2;have ea:=hl k.a (.inl rfl) ka.2 ka.1;have eb:=hl k.b (.inr (.inl rfl)) kb.2 kb.1;have ec:=hl k.c (.inr (.inr (.inl rfl))) kc.2 kc.1;have ed:=hl k.d (.inr (.inr (.inr rfl))) kd.2 kd.1;exact⟨by show 0≤lvl s _ (geti t k.a);omega,by show lvl s _ (geti t k.a)<256;omega,by show lvl s _ (geti t k.b)=lvl s _ (geti t k.a);omega,by show lvl s _ (geti t k.c)=lvl s _ (geti t k.a);omega,by show lvl s _ (geti t k.d)=lvl s _ (geti t k.a);omega⟩
theorem Named.set (h:Named s ns m i t out) (hg:GoodQ s ns) (hk:ns[i]?=some k) {out':List K4} {v:Int} (hgood:GoodQ s out') (hold:∀ x,Kn s out x→Kn s out' x∧tr s out' x=tr s out x) (hv:Kn s out' v∧tr s out' v=tr s ns (s+i)) :
  Named s ns m (i+1) (seti t (s+i) v) out':=by
 have hs:=hg.1;have hi:=(List.getElem?_eq_some_iff.1 hk).1;have hl:=h.len;refine⟨by rw [seti_length];exact hl,fun j h1 h2=>by rw [geti_seti o_ o_ h1,if_neg o_];exact h.leaf j h1 h2,hgood,fun j h1 h2 h3=>?_⟩;rw [geti_seti o_ o_ h1];by_cases hj:j=s+i;·rw [if_pos hj,hj];exact hv
 ·rw [if_neg hj];obtain⟨a1,a2⟩:=h.tree j h1 o_ h3;obtain⟨b1,b2⟩:=hold _ a1;exact⟨b1,b2.trans a2⟩
theorem Named.miss (h:Named s ns m i t out) (hg:GoodQ s ns) (hm:∀ j,k.has j→j<s∨at' m j=true) (hk:ns[i]?=some k) (ho:ren t k∉out) (hl:out.length<100000) :
  Named s ns m (i+1) (seti t (s+i) (s+out.length)) (out++[ren t k]):=by
 have hs:=hg.1;obtain⟨hT,hF⟩:=h.kids hg hm hk;have hgood:=h.good.snoc hF ho hl;have hgo:(out++[ren t k])[out.length]?=some (ren t k):=by simp
 refine h.set hg hk hgood (fun x hx=>⟨⟨hx.1,by rw [List.length_append];have:=hx.2;omega⟩,tr_app hx.2⟩) ⟨⟨o_,by rw [List.length_append];show _<s+((out.length+1:Nat):Int);omega⟩,?_⟩;have hap:∀ j,k.has j→tr s (out++[ren t k]) (geti t j)=tr s ns j:=fun j hj=>by rw [tr_app (hT j hj).1.2,(hT j hj).2]
 rw [tr_node hgood hgo,tr_node hg hk];show Tr.node (tr s _ (geti t k.a)) (tr s _ (geti t k.b)) (tr s _ (geti t k.c)) (tr s _ (geti t k.d))=_;rw [hap k.a (.inl rfl),hap k.b (.inr (.inl rfl)),hap k.c (.inr (.inr (.inl rfl))),hap k.d (.inr (.inr (.inr rfl)))]
end
def swStep (s:Int) (m:List Bool) (i:Nat) (k:K4) (st:List Int×List K4):List Int×List K4 :=
 if at' m (s+i) then (seti st.1 (s+i) (s+st.2.length),st.2++[ren st.1 k]) else st
def sw (s:Int) (ns:List K4) (m:List Bool):Nat→List Int×List K4
 | 0=>(names0 s (s+ns.length).toNat,[])
 | i+1=>match ns[i]? with
  | some k=>swStep s m i k (sw s ns m i)
  | none=>sw s ns m i
theorem sw_succ {s:Int} {ns:List K4} {m:List Bool} {i:Nat} {k:K4} (hk:ns[i]?=some k):sw s ns m (i+1)=swStep s m i k (sw s ns m i):=by rw [sw,hk]
theorem sw_len (s:Int) (ns:List K4) (m:List Bool):∀ i,(sw s ns m i).2.length≤i
 | 0=>Nat.le_refl _
 | i+1=>by
  have:=sw_len s ns m i;rw [sw];split;·
   unfold swStep;split;·simp;omega
   ·omega
  ·omega
theorem sw_named {s:Int} {ns:List K4} {m:List Bool} (hg:GoodQ s ns) (hd:∀ i k j,ns[i]?=some k→at' m (s+(i:Nat))=true→k.has j→at' m j=true) :
  ∀ i,i≤ns.length→Named s ns m i (sw s ns m i).1 (sw s ns m i).2∧∀ o,o<(sw s ns m i).2.length→∃ j,j<i∧at' m (s+(j:Nat))=true∧geti (sw s ns m i).1 (s+(j:Nat))=s+o
 | 0,_=>⟨Named.start hg (GoodQ.nil hg.1 hg.2.1),fun o h=>by simp [sw] at h⟩
 | i+1,hi=>by
  obtain⟨h1,h2⟩:=sw_named hg hd i o_;have hs:=hg.1;obtain⟨k,hk⟩:∃ k,ns[i]?=some k:=⟨_,List.getElem?_eq_getElem o_⟩;rw [sw_succ hk];obtain⟨st,hst⟩:∃ st,st=sw s ns m i:=⟨_,rfl⟩;have hlen:=sw_len s ns m i;rw [← hst] at h1 h2 hlen ⊢;unfold swStep;by_cases hm:at' m (s+i)=true;·
   rw [if_pos hm];have hkm:∀ j,k.has j→j<s∨at' m j=true:=fun j hj=>.inr (hd i k j hk hm hj);have hnot:ren st.1 k∉st.2:=fun hin=>by obtain⟨o,ho⟩:=List.getElem?_of_mem hin;have hol:=(List.getElem?_eq_some_iff.1 ho).1;obtain⟨j,hj1,hj2,hj3⟩:=h2 o hol;obtain⟨hT,_⟩:=h1.kids hg hkm hk;have e1:=(h1.tree (s+j) o_ o_ (.inr hj2)).2;rw [hj3,tr_node h1.good ho] at e1;have e2:Tr.node (tr s st.2 (geti st.1 k.a)) (tr s st.2 (geti st.1 k.b)) (tr s st.2 (geti st.1 k.c)) (tr s st.2 (geti st.1 k.d))=tr s ns (s+j):=e1;rw [(hT k.a (.inl rfl)).2,(hT k.b (.inr (.inl rfl))).2,(hT k.c (.inr (.inr (.inl rfl)))).2,(hT k.d (.inr (.inr (.inr rfl)))).2,← tr_node hg hk] at e2;have:=tr_inj hg ns.length (x:=s+i) (y:=s+j) o_ ⟨o_,o_⟩ ⟨o_,o_⟩ e2;omega
   have hn:=h1.miss hg hkm hk hnot (by have:=hg.2.2.1;omega);refine⟨hn,fun o ho=>?_⟩;have hl:=h1.len;simp only [List.length_append,List.length_cons,List.length_nil] at ho;by_cases ho2:o=st.2.length;·exact⟨i,o_,hm,by rw [geti_seti o_ o_ o_,if_pos rfl,ho2]⟩
   ·obtain⟨j,hj1,hj2,hj3⟩:=h2 o o_;exact⟨j,o_,hj2,by rw [geti_seti o_ o_ o_,if_neg o_];exact hj3⟩
  ·rw [if_neg hm];refine⟨h1.skip o_ (by simpa using hm),fun o ho=>?_⟩;obtain⟨j,hj1,hj2,hj3⟩:=h2 o ho;exact⟨j,o_,hj2,hj3⟩
theorem sw_names_len (s:Int) (ns:List K4) (m:List Bool):∀ i,(sw s ns m i).1.length=(s+ns.length).toNat
 | 0=>names0_length _ _
 | i+1=>by
  have:=sw_names_len s ns m i;rw [sw];split;·
   unfold swStep;split;·simp only [seti_length];exact this
   ·exact this
  ·exact this
theorem ren_eq {t t':List Int} {k:K4} (h:∀ j,k.has j→geti t j=geti t' j):ren t k=ren t' k:=by unfold ren;rw [h k.a (.inl rfl),h k.b (.inr (.inl rfl)),h k.c (.inr (.inr (.inl rfl))),h k.d (.inr (.inr (.inr rfl)))]
theorem has_lt {s:Int} {ns:List K4} (hg:GoodQ s ns) {i:Nat} {k:K4} (hk:ns[i]?=some k) {j:Int} (hj:k.has j):0≤j∧j<s+i:=by
 obtain⟨ka,kb,kc,kd⟩:=good_kids hg hk;rcases hj with rfl|rfl|rfl|rfl
 ·exact ka
 ·exact kb
 ·exact kc
 ·exact kd
end Go.Proofs.Qs
end
section
namespace Go.Proofs.YtebolidfbflkmaaGreat
open Go Go.RowKit Rg Mp Hp Qs
def bos (l:List Bool):List Value:=l.map Value.bool
def w6s (l:List Int):List Value:=l.map fun n=>Value.int .i64 n
theorem info_bool:(Tryz.prog.info? 4).map (fun i=>(i.zero,i.size,i.bytes))=some (some (.bool false),1,1):=by kernel_rfl
theorem bos_setT {m:List Bool} {k:Int}:bos (Go.Proofs.Qs.setT m k)=(bos m).set k.toNat (.bool true):=by unfold bos Go.Proofs.Qs.setT;rw [List.map_set]
theorem markRoots_snoc {N:Int}:∀ {l:List Int} {m:List Bool} {r:Int},markRoots N (l++[r]) m=(markRoots N l m).bind fun m'=>if r<0∨N≤r then none else some (Go.Proofs.Qs.setT m' r)
 | [],m,r=>by rfl
 | x::l,m,r=>by
  rw [List.cons_append,markRoots,markRoots];split;·rfl
  ·exact markRoots_snoc
def MarkPost (w:World) (s:Int) (ns:List K4) (roots:List Int) (e:Ending) (w':World):Prop :=
 (marks s ns roots=none→e=.returned (.tuple #[.slice none 0 0,.int .i64 13])∧Fr [] w w') ∧
 ∀ m,marks s ns roots=some m→∃ mv,e=.returned (.tuple #[mv,.int .i64 0])∧w'.ownsRow w.heap.size 4 1 mv m.length (bos m)∧Fr [] w w'
theorem marked_calls {w:World} {s:Int} {ns:List K4} {v rv:Value} {roots:List Int} (hg:GoodQ s ns) (hv:Reads w v ns.length 4 (flat ns)) (hr:Reads w rv roots.length 1 (w6s roots)) (hlr:roots.length≤1000000) :
  Calls Tryz.prog 135 #[.agg #[.int .i64 s,v],rv] w (MarkPost w s ns roots):=by
 obtain⟨_,a,c,rfl,hav⟩:=hv;obtain⟨_,ra,rc,rfl,har⟩:=hr;have hs1:=hg.1;have hs2:=hg.2.1;have hln:=hg.2.2.1;obtain⟨S,rfl⟩:∃ S:Nat,s=S:=⟨s.toNat,o_⟩;have Hg:=q_ hg;have Hav:=q_ hav;have Har:=q_ har;obtain⟨N,hN⟩:∃ N:Nat,N=S+ns.length:=⟨_,rfl⟩;have hNi:(S:Int)+ns.length=N:=o_
 have HN:=q_ hN;have hNb:N≤200000:=o_
 have HNi:=q_ hNi;clear hg hav har hNi hN;go_enter Tryz.func135,Tryz.ntmps135;go_wp2_with fail;go_step3;go_wp2_with (refine wpList_make1 rfl (t:=201) (e:=4) (n:=N) (z:=.bool false) (bytes:=1) rfl (congrArg (Value.int .i64) HNi.out) (congrArg (Value.int .i64) HNi.out) Tryz.underlying201 info_bool rfl ?e1 ?e2 ?_);case e1=>omega
 case e2=>unfold maxLen;omega
 intro w1 ho1 hf1 hsz1;try rw [hAz] at ho1
 have hb1:w1.heap[w.heap.size]?=some (.cells #[.int .i64 S,.slice a ns.length c] 135 (0,0)):=(hf1.block _ (by rw [hAz];omega) i_).trans hpT;have Ho1:=q_ ho1;have Hf1:=q_ (((Fr.refl [] w).alloc _).trans0 hf1);have Hb1:=q_ hb1;clear ho1 hf1 hb1;go_wp2_with fail;go_loopw [21] (fun x wl=>∃ (k:Nat) (m:List Bool),x=.int .i64 k∧k≤roots.length∧markRoots ((S:Int)+ns.length) (roots.take k) (List.replicate N false)=some m∧wl.ownsRow (w.heap.size+1) 4 1 (.slice (some ⟨w.heap.size+1,0,none⟩) N N) N (bos m)∧Fr [] w wl ∧
   wl.heap[w.heap.size]?=some (.cells #[.int .i64 S,.slice a ns.length c] 135 (0,0))) (fun x _=>roots.length - (intOf x).toNat)
 case atStart=>exact⟨0,_,rfl,o_,rfl,by have:=Ho1.out;rwa [show bos (List.replicate N false)=List.replicate N (.bool false) by simp [bos]],Hf1.out,Hb1.out⟩
 case round =>
  obtain⟨k,m,rfl,hk,hm,ho,hf,hb⟩:=hrel;have hml:m.length=N:=by have:=ho.1;simpa [bos] using this
  obtain⟨b0,b1,hbl⟩:=l2_ hb;have Hm:=q_ hm;have Ho:=q_ ho;have Hf:=q_ hf;have Hb:=q_ hb;have Hml:=q_ hml;have hgl:w.heap.size+1<wr.heap.size:=oLT ho rfl;by_cases hlt:k<roots.length;·
   obtain⟨g1,off1,rfl,hg1,hc1⟩:=Har.out o_;obtain⟨r,hr⟩:∃ r,roots[k]?=some r:=⟨_,List.getElem?_eq_getElem hlt⟩;have e1:=(hf.cell (p:=⟨g1,off1+k,none⟩) hg1 i_).trans (hc1 k (.int .i64 r) (by rw [w6s,List.getElem?_map,hr];rfl));have hg1r:g1<wr.heap.size:=(by have:=hf.size;omega);have htk:roots.take (k+1)=roots.take k++[r]:=(by rw [List.take_add_one,hr];rfl);have hsn:=markRoots_snoc (N:=(S:Int)+ns.length) (l:=roots.take k) (m:=List.replicate N false) (r:=r);rw [← htk,hm] at hsn;simp only [Option.bind_some] at hsn;have hrm:r∈roots:=List.mem_of_getElem? hr;by_cases hbad:r<0∨(N:Int)≤r;·
    have hNi:=HNi.out;have hnone:marks S ns roots=none:=marks_none.2 ⟨r,hrm,fun hk=>by have:=hk.1;have:=hk.2;omega⟩;have Hnone:=q_ hnone;have hd:decide (r<0)=true∨decide (r<0)=false∧decide ((N:Int)≤r)=true:=by
     by_cases h:r<0;·left;simpa using h
     ·right;exact⟨by simpa using h,by simp;omega⟩
    clear hm ho hf hb hml hc1 hr htk hsn hrm hbad hnone hNi;rcases hd with hd|⟨hd,hd2⟩
    all_goals
     go_wp2;go_ret2;exact⟨fun _=>⟨rfl,Hf.out⟩,fun m h=>by rw [Hnone.out] at h;cases h⟩
   ·have hNi:=HNi.out;rw [if_neg o_] at hsn;have hr0:0≤r∧r<N:=o_;have hc:=owns_cell ho rfl (j:=r.toNat) (u:=.bool (at' m r)) (by
     rw [bos,List.getElem?_map,List.getElem?_eq_getElem o_]
     unfold at'
     rw [List.getD_eq_getElem?_getD,List.getElem?_eq_getElem o_];rfl)
    have hz:=owns_frozen ho rfl r.toNat;have Hsn:=q_ hsn;have hrt:r.toNat<N:=o_;clear hm ho hf hb hml hc1 hr htk hsn hrm hbad hNi;go_wp2;go_roundw;case rel =>
     refine⟨k+1,Go.Proofs.Qs.setT m r,by go_num,o_,Hsn.out,?_,Hf.out.setCell (.inr i_) _,?_⟩;·
      rw [bos_setT];exact owns_set Ho.out rfl (by rw [bos,List.length_map,Hml.out];exact hrt) _
     ·rw [sCE _ _ _ i_];exact Hb.out
    case measure=>simp [intOf];omega
  ·have hNi:=HNi.out;obtain rfl:k=roots.length:=o_;rw [List.take_length] at hm;have hM:marks S ns roots=some (markDown S ns ns.length m):=by
    unfold marks;rw [show ((S:Int)+ns.length).toNat=N by omega,hm];rfl
   obtain⟨M,hMM⟩:∃ M,M=markDown S ns ns.length m:=⟨_,rfl⟩;rw [← hMM] at hM;have HM:=q_ hM;have HMM:=q_ hMM.symm;obtain⟨wo,rfl⟩:∃ wo:World,wo=wr:=⟨_,rfl⟩;clear hm ho hf hb hml hM hMM hNi;go_wp2_with fail;go_step3;go_wp2_with fail;go_loopw [9] (fun x wl=>∃ (i:Nat) (m:List Bool),x=.int .i64 ((i:Int) - 1)∧i≤ns.length∧markDown S ns i m=M∧wl.ownsRow (w.heap.size+1) 4 1 (.slice (some ⟨w.heap.size+1,0,none⟩) N N) N (bos m)∧Fr [] w wl ∧
     wl.heap[w.heap.size]?=some (.cells #[.int .i64 S,.slice a ns.length c] 135 (0,0))) (fun x _=>(intOf x+1).toNat)
   case atStart=>exact⟨ns.length,m,rfl,o_,HMM.out,Ho.out,Hf.out,Hb.out⟩
   case round =>
    obtain⟨i,m,rfl,hi,hm,ho,hf,hb⟩:=hrel;have hml:m.length=N:=(by have:=ho.1;simpa [bos] using this);obtain⟨b0,b1,hbl⟩:=l2_ hb;have hgl:w.heap.size+1<wr.heap.size:=oLT ho rfl;cases i with
    | zero =>have hmM:m=M:=hm;have Ho2:=q_ ho;have Hf2:=q_ hf;have HmM:=q_ hmM;have Hml2:=q_ hml;clear hm ho hf hb hml hmM;go_wp2;go_ret2;refine⟨fun h=>(by rw [HM.out] at h;cases h),fun m' h=>?_⟩;rw [HM.out] at h;cases h;have h2:=Ho2.out;rw [HmM.out] at h2;have hl:=Hml2.out;rw [HmM.out] at hl;exact⟨_,rfl,by rw [hl];exact owns_base h2 o_,Hf2.out⟩
    | succ i =>
     have hNi:=HNi.out;obtain⟨k,hk⟩:∃ k,ns[i]?=some k:=⟨_,List.getElem?_eq_getElem o_⟩;have hmo:markOne S ns i m=if at' m ((S:Int)+i) then markK m k else m:=by unfold markOne;rw [hk]
     rw [markDown] at hm;obtain⟨g1,off1,rfl,hg1,hc1⟩:=Hav.out o_;obtain⟨f0,f1,f2,f3⟩:=flat_get hk;rw [Nat.mul_comm] at f0 f1 f2 f3;have hgw:∀ j,wr.cell? ⟨g1,off1+j,none⟩=w.cell? ⟨g1,off1+j,none⟩:=fun j=>hf.cell (p:=⟨g1,off1+j,none⟩) hg1 i_;have e0:=(hgw _).trans (hc1 _ _ f0);have e1:=(hgw _).trans (hc1 _ _ f1);have e2:=(hgw _).trans (hc1 _ _ f2);have e3:=(hgw _).trans (hc1 _ _ f3);simp only [← Nat.add_assoc] at e1 e2 e3;have hg1r:g1<wr.heap.size:=(by have:=hf.size;omega);obtain⟨⟨ka0,ka1⟩,⟨kb0,kb1⟩,⟨kc0,kc1⟩,⟨kd0,kd1⟩⟩:=good_kids Hg.out hk;have hci:=owns_cell ho rfl (j:=S+i) (u:=.bool (at' m ((S:Int)+i))) (by
      rw [bos,List.getElem?_map,List.getElem?_eq_getElem o_]
      unfold at'
      rw [List.getD_eq_getElem?_getD,show ((S:Int)+i).toNat=S+i by omega,List.getElem?_eq_getElem o_];rfl)
     have Ho2:=q_ ho;have Hf2:=q_ hf;have Hb2:=q_ hb;have Hml2:=q_ hml;have Hmo:=q_ hmo;have Hm2:=q_ hm;have hSi:S+i<N:=(by have:=HN.out;omega);clear hm ho hf hb hml hmo hgw hc1 f0 f1 f2 f3 hk hNi;generalize hat:at' m ((S:Int)+i)=bt at *
     clear hat;cases bt;·
      go_wp2;go_roundw;case rel =>refine⟨i,m,by go_num,o_,?_,Ho2.out,Hf2.out,Hb2.out⟩;have:=Hm2.out;rw [Hmo.out] at this;exact this
      case measure=>simp [intOf]
     ·have ⟨ka,hka⟩:∃ n:Nat,k.a=n:=⟨k.a.toNat,o_⟩;have ⟨kb,hkb⟩:∃ n:Nat,k.b=n:=⟨k.b.toNat,o_⟩;have ⟨kc,hkc⟩:∃ n:Nat,k.c=n:=⟨k.c.toNat,o_⟩;have ⟨kd,hkd⟩:∃ n:Nat,k.d=n:=⟨k.d.toNat,o_⟩;rw [hka] at e0 ka0 ka1;rw [hkb] at e1 kb0 kb1;rw [hkc] at e2 kc0 kc1;rw [hkd] at e3 kd0 kd1;have HK:=q_ (And.intro hka (And.intro hkb (And.intro hkc hkd)));clear hka hkb hkc hkd;have hNi:=HNi.out;have hka:ka<N:=o_;have hkb:kb<N:=o_;have hkc:kc<N:=o_;have hkd:kd<N:=o_;clear hNi;go_wp2_with fail;clear e0 e1 e2 e3 hci b0 b1;obtain⟨wi,rfl⟩:∃ wi:World,wi=wr:=⟨_,rfl⟩;go_loopw [59] (fun x wl=>∃ (j:Nat),x=.int .i64 j∧j≤4∧wl.ownsRow (w.heap.size+1) 4 1 (.slice (some ⟨w.heap.size+1,0,none⟩) N N) N (bos ((([k.a,k.b,k.c,k.d]:List Int).take j).foldl Go.Proofs.Qs.setT m))∧Fr [] w wl ∧
        wl.heap[w.heap.size]?=some (.cells #[.int .i64 S,.slice (some ⟨g1,off1,none⟩) ns.length c] 135 (0,0))) (fun x _=>4 - (intOf x).toNat)
      case atStart=>exact⟨0,rfl,o_,Ho2.out,Hf2.out,Hb2.out⟩
      case round =>
       obtain⟨j,rfl,hj,ho,hf,hb⟩:=hrel;obtain⟨b0,b1⟩:=e2_ hb;have hgl:w.heap.size+1<wr.heap.size:=oLT ho rfl;have hbl:=lBk hb;have hz:=owns_frozen ho rfl;have hfl:∀ q:Nat,q<N→∃ u,wr.cell? ⟨w.heap.size+1,q,none⟩=some u:=fun q hq=>⟨_,owns_cell ho rfl (j:=q) (u:=_) (List.getElem?_eq_getElem (by rw [ho.1];omega))⟩;obtain⟨_,c0⟩:=hfl ka hka;obtain⟨_,c1⟩:=hfl kb hkb;obtain⟨_,c2⟩:=hfl kc hkc;obtain⟨_,c3⟩:=hfl kd hkd;have z0:=hz ka;have z1:=hz kb;have z2:=hz kc;have z3:=hz kd;have Ho:=q_ ho;have Hf:=q_ hf;have Hb:=q_ hb;clear ho hf hb hz hfl;have hj5:j=0∨j=1∨j=2∨j=3∨j=4:=o_;rcases hj5 with rfl|rfl|rfl|rfl|rfl
       all_goals go_wp2
       all_goals first|go_roundw|skip
       any_goals (case measure=>simp [intOf])
       ·refine⟨1,by go_num,o_,?_,Hf.out.setCell (.inr i_) _,?_⟩;·
         rw [show (([k.a,k.b,k.c,k.d]:List Int).take 1).foldl Go.Proofs.Qs.setT m=Go.Proofs.Qs.setT ((([k.a,k.b,k.c,k.d]:List Int).take 0).foldl Go.Proofs.Qs.setT m) k.a from rfl,bos_setT,show k.a.toNat=ka by have:=HK.out;omega];exact owns_set Ho.out rfl (by rw [Ho.out.1];omega) _
        ·rw [sCE _ _ _ i_];exact Hb.out
       ·refine⟨2,by go_num,o_,?_,Hf.out.setCell (.inr i_) _,?_⟩;·
         rw [show (([k.a,k.b,k.c,k.d]:List Int).take 2).foldl Go.Proofs.Qs.setT m=Go.Proofs.Qs.setT ((([k.a,k.b,k.c,k.d]:List Int).take 1).foldl Go.Proofs.Qs.setT m) k.b from rfl,bos_setT,show k.b.toNat=kb by have:=HK.out;omega];exact owns_set Ho.out rfl (by rw [Ho.out.1];omega) _
        ·rw [sCE _ _ _ i_];exact Hb.out
       ·refine⟨3,by go_num,o_,?_,Hf.out.setCell (.inr i_) _,?_⟩;·
         rw [show (([k.a,k.b,k.c,k.d]:List Int).take 3).foldl Go.Proofs.Qs.setT m=Go.Proofs.Qs.setT ((([k.a,k.b,k.c,k.d]:List Int).take 2).foldl Go.Proofs.Qs.setT m) k.c from rfl,bos_setT,show k.c.toNat=kc by have:=HK.out;omega];exact owns_set Ho.out rfl (by rw [Ho.out.1];omega) _
        ·rw [sCE _ _ _ i_];exact Hb.out
       ·refine⟨4,by go_num,o_,?_,Hf.out.setCell (.inr i_) _,?_⟩;·
         rw [show (([k.a,k.b,k.c,k.d]:List Int).take 4).foldl Go.Proofs.Qs.setT m=Go.Proofs.Qs.setT ((([k.a,k.b,k.c,k.d]:List Int).take 3).foldl Go.Proofs.Qs.setT m) k.d from rfl,bos_setT,show k.d.toNat=kd by have:=HK.out;omega];exact owns_set Ho.out rfl (by rw [Ho.out.1];omega) _
        ·rw [sCE _ _ _ i_];exact Hb.out
       ·refine⟨i,markK m k,by go_num,o_,?_,Ho.out,Hf.out,Hb.out⟩;have:=Hm2.out;rw [Hmo.out] at this;exact this
theorem w6s_snoc (l:List Int) (b:Int):w6s (l++[b])=w6s l++[.int .i64 b]:=by simp [w6s]
theorem renamed_result {tmps:Array Value} {b:Nat} {w':World} {cs:Array Value} (h4:tmps.getD 4 undef=.pointer (some ⟨b,0,none⟩)) (hb:w'.heap[b]?=some (.cells cs 183 (0,0))) (hs:cs.size=4) :
  (results Tryz.f136 tmps).run Tryz.prog w'=.ok (.agg cs) w':=by
 rw [results_cell1 rfl,h4];simp only [asAddr,Sem.run_pure,Result.andThen];exact run_loadVar_row w' b _ _ cs _ _ hb Tryz.underlying183 rfl (by rw [hs];kernel_rfl)
def rj (k k':K4):Nat→Array Value
 | 0=>#[.int .i64 k.a,.int .i64 k.b,.int .i64 k.c,.int .i64 k.d]
 | 1=>#[.int .i64 k'.a,.int .i64 k.b,.int .i64 k.c,.int .i64 k.d]
 | 2=>#[.int .i64 k'.a,.int .i64 k'.b,.int .i64 k.c,.int .i64 k.d]
 | 3=>#[.int .i64 k'.a,.int .i64 k'.b,.int .i64 k'.c,.int .i64 k.d]
 | _=>#[.int .i64 k'.a,.int .i64 k'.b,.int .i64 k'.c,.int .i64 k'.d]
theorem renamed_calls {w:World} {k:K4} {t:List Int} {tv:Value} (ht:Reads w tv t.length 1 (w6s t)) (ha:0≤k.a∧k.a<t.length) (hb:0≤k.b∧k.b<t.length) (hc:0≤k.c∧k.c<t.length) (hd:0≤k.d∧k.d<t.length) :
  Calls Tryz.prog 136 #[kv k,tv] w fun e w'=>e=.returned (kv (ren t k))∧Fr [] w w':=by
 obtain⟨_,a,c,rfl,hat⟩:=ht;obtain⟨g,off,rfl,hg,hcell⟩:=hat o_;obtain⟨ka,kb,kc,kd⟩:=k;obtain⟨⟨ha,ha1⟩,⟨hb,hb1⟩,⟨hc,hc1⟩,⟨hd,hd1⟩⟩:=(⟨ha,hb,hc,hd⟩:(0≤ka∧ka<(t.length:Int))∧(0≤kb∧kb<(t.length:Int))∧(0≤kc∧kc<(t.length:Int))∧(0≤kd∧kd<(t.length:Int)));obtain⟨ka,rfl⟩:∃ n:Nat,ka=n:=⟨ka.toNat,o_⟩;obtain⟨kb,rfl⟩:∃ n:Nat,kb=n:=⟨kb.toNat,o_⟩;obtain⟨kc,rfl⟩:∃ n:Nat,kc=n:=⟨kc.toNat,o_⟩;obtain⟨kd,rfl⟩:∃ n:Nat,kd=n:=⟨kd.toNat,o_⟩;have hget:∀ n:Nat,(n:Int)<t.length→(w6s t)[n]?=some (.int .i64 (geti t n)):=fun n hn=>by unfold w6s geti;rw [List.getElem?_map,List.getElem?_eq_getElem o_,List.getD_eq_getElem?_getD,show ((n:Int)).toNat=n from rfl,List.getElem?_eq_getElem o_];rfl
 have c0:=hcell _ _ (hget ka ha1);have c1:=hcell _ _ (hget kb hb1);have c2:=hcell _ _ (hget kc hc1);have c3:=hcell _ _ (hget kd hd1);have hr:ren t ⟨ka,kb,kc,kd⟩=⟨geti t ka,geti t kb,geti t kc,geti t kd⟩:=rfl;rw [hr];generalize geti t ka=va at *
 generalize geti t kb=vb at *
 generalize geti t kc=vc at *
 generalize geti t kd=vd at *
 generalize t.length=tl at *
 clear hcell hget hr hat;unfold kv;simp only;go_enter Tryz.func136,Tryz.ntmps136;go_wp2_with fail;have C0:=q_ c0;have C1:=q_ c1;have C2:=q_ c2;have C3:=q_ c3;clear c0 c1 c2 c3;go_loopw [9] (fun x wl=>∃ (j:Nat) (o:Obj),x=.int .i64 j∧j≤4∧wl.heap[w.heap.size]?=some (.cells (rj ⟨ka,kb,kc,kd⟩ ⟨va,vb,vc,vd⟩ j) 183 (0,0))∧wl.heap[w.heap.size+1]?=some (.cells #[.int .i64 0,.int .i64 0,.int .i64 0,.int .i64 0] 183 (0,0))∧Fr [] w wl) (fun x _=>4 - (intOf x).toNat);case atStart=>exact⟨0,.cells #[] 0 (0,0),rfl,o_,by (repeat first|rw [if_pos o_]|rw [if_neg o_]|rw [hDR]|rw [hDN]|rw [hAz]|rw [hSz]|rw [hAC]|rw [hSC]|rw [oMS]|rw [uPC]|rw [lSZ]|rw [lSS]|rfl),by (repeat first|rw [if_pos o_]|rw [if_neg o_]|rw [hDR]|rw [hDN]|rw [hAz]|rw [hSz]|rw [hAC]|rw [hSC]|rw [oMS]|rw [uPC]|rw [lSZ]|rw [lSS]|rfl),Fr.t⟩
 case round =>
  obtain⟨j,_,rfl,hj,hb0,hb1,hf⟩:=hrel;have e0:=(hf.cell (p:=⟨g,off+ka,none⟩) hg i_).trans C0.out;have e1:=(hf.cell (p:=⟨g,off+kb,none⟩) hg i_).trans C1.out;have e2:=(hf.cell (p:=⟨g,off+kc,none⟩) hg i_).trans C2.out;have e3:=(hf.cell (p:=⟨g,off+kd,none⟩) hg i_).trans C3.out;have hs:=lBk hb1;have Hf:=q_ hf;clear hf;have hj5:j=0∨j=1∨j=2∨j=3∨j=4:=o_
  rcases hj5 with rfl|rfl|rfl|rfl|rfl
  all_goals
   simp only [rj] at hb0;obtain⟨d0,d1,d2,d3⟩:=e4_ hb0;have y0:=hEF hb0 0;have y1:=hEF hb0 1;have y2:=hEF hb0 2;have y3:=hEF hb0 3;have x0:=hEF hb1 0;have x1:=hEF hb1 1;have x2:=hEF hb1 2;have x3:=hEF hb1 3;obtain⟨z0,z1,z2,z3⟩:=e4_ hb1;have Hb0:=q_ hb0;have Hb1:=q_ hb1;clear hb0 hb1;go_wp2
  all_goals first|(go_roundw;case measure=>(simp [intOf];done))|skip
  ·refine⟨1,.cells #[] 0 (0,0),by go_num,o_,?_,?_,Hf.out.setCell (.inr i_) _⟩;·rw [heap_setCell_here Hb0.out];rfl
   ·rw [sCE _ _ _ i_];exact Hb1.out
  ·refine⟨2,.cells #[] 0 (0,0),by go_num,o_,?_,?_,Hf.out.setCell (.inr i_) _⟩;·rw [heap_setCell_here Hb0.out];rfl
   ·rw [sCE _ _ _ i_];exact Hb1.out
  ·refine⟨3,.cells #[] 0 (0,0),by go_num,o_,?_,?_,Hf.out.setCell (.inr i_) _⟩;·rw [heap_setCell_here Hb0.out];rfl
   ·rw [sCE _ _ _ i_];exact Hb1.out
  ·refine⟨4,.cells #[] 0 (0,0),by go_num,o_,?_,?_,Hf.out.setCell (.inr i_) _⟩;·rw [heap_setCell_here Hb0.out];rfl
   ·rw [sCE _ _ _ i_];exact Hb1.out
  ·(try simp only [Exit.inBlock,Exit.then]);refine bodyPost_ret (renamed_result (b:=w.heap.size+1) (cs:=#[.int .i64 va,.int .i64 vb,.int .i64 vc,.int .i64 vd]) rfl ?_ rfl) rfl ⟨rfl,?_⟩;·
    have h1:=Hb1.out;(repeat first|rw [if_pos o_]|rw [if_neg o_]|rw [hDR]|rw [hDN]|rw [hAz]|rw [hSz]|rw [hAC]|rw [hSC]|rw [oMS]|rw [uPC]|rw [lSZ]|rw [lSS]|rfl);rw [h1];exact hpT
   ·have h1:=Hf.out;exact Fr.t
end Go.Proofs.YtebolidfbflkmaaGreat
end
