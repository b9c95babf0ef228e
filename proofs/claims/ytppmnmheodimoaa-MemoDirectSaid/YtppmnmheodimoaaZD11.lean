/- Own texts of this claim, part 12: no condition. -/
import Derived.Test.YtppmnmheodimoaaRows
import Derived.Lib.Hide
import Derived.LoopN
import Derived.Laws.Bits64b
import Derived.Laws.BitsAllLaws
import Derived.WalkSmall
import Derived.WalkMore
import Derived.Test.YtppmnmheodimoaaZD10
import Derived.Test.YtppmnmheodimoaaZD0
import Derived.Test.YtppmnmheodimoaaZD2
import Derived.Test.YtppmnmheodimoaaZD3
set_option linter.unusedVariables false
set_option linter.unusedSimpArgs false
section
namespace Go.Proofs.Ytppmnmheodimoaa
open Go Go.RowKit Rg Mp Hp Qs Ev
theorem results_cell2 {fn:Func} {p u:Tmp} {ty:TypeId} (h:fn.results=#[.cell p ty,.tmp u]) (tmps:Array Value) (P:Program) (w:World) :
  (results fn tmps).run P w=((asAddr (tmps.getD p undef)).run P w).andThen fun a w₁=>((loadVar ty a).run P w₁).andThen fun x w₂=>.ok (.tuple #[x,tmps.getD u undef]) w₂:=by
 simp only [results,h]
 simp [Sem.run_bind,Result.andThen]
theorem results_cell1 {fn:Func} {p:Tmp} {ty:TypeId} (h:fn.results=#[.cell p ty]) (tmps:Array Value) (P:Program) (w:World) :
  (results fn tmps).run P w=((asAddr (tmps.getD p undef)).run P w).andThen fun a w₁=>(loadVar ty a).run P w₁:=by
 simp only [results,h]
 simp [Sem.run_bind,Result.andThen]
theorem node_result1 {fn:Func} {p:Tmp} (h:fn.results=#[.cell p 91]) {tmps:Array Value} {b:Nat} {w':World} {x y:Value} (h4:tmps.getD p undef=.pointer (some ⟨b,0,none⟩)) (hb:w'.heap[b]?=some (.cells #[x,y] 91 (0,0))) :
  (results fn tmps).run Try.prog w'=.ok (.agg #[x,y]) w':=by
 rw [results_cell1 h,h4]
 simp only [asAddr,Sem.run_pure,Result.andThen]
 rw [run_loadVar_row w' b _ _ _ _ _ hb Try.underlying91 rfl (by kernel_rfl)]
theorem tree_result1 {fn:Func} {p:Tmp} (h:fn.results=#[.cell p 31]) {tmps:Array Value} {b:Nat} {w':World} {x y z:Value} (h4:tmps.getD p undef=.pointer (some ⟨b,0,none⟩)) (hb:w'.heap[b]?=some (.cells #[x,y,z] 31 (0,0))) :
  (results fn tmps).run Try.prog w'=.ok (.agg #[x,y,z]) w':=by
 rw [results_cell1 h,h4]
 simp only [asAddr,Sem.run_pure,Result.andThen]
 rw [run_loadVar_row w' b _ _ _ _ _ hb Try.underlying31 rfl (by kernel_rfl)]
theorem tree_result2 {fn:Func} {p u:Tmp} (h:fn.results=#[.cell p 31,.tmp u]) {tmps:Array Value} {b:Nat} {w':World} {x y z v:Value} (h4:tmps.getD p undef=.pointer (some ⟨b,0,none⟩)) (hb:w'.heap[b]?=some (.cells #[x,y,z] 31 (0,0))) (h5:tmps.getD u undef=v) :
  (results fn tmps).run Try.prog w'=.ok (.tuple #[.agg #[x,y,z],v]) w':=by
 rw [results_cell2 h,h4]
 simp only [asAddr,Sem.run_pure,Result.andThen]
 rw [run_loadVar_row w' b _ _ _ _ _ hb Try.underlying31 rfl (by kernel_rfl)]
 simp only [h5]
set_option maxHeartbeats 4000000 in
set_option maxRecDepth 100000 in
theorem RAll_calls {w:World} {S:Nat} (hS:S≤8) (lv k:Int):Calls Try.prog 64 #[.int .i64 lv,.int .i64 S,.int .i64 k] w fun e w'=>∃ a c,e=.returned (.agg #[.int .i64 lv,.slice a S c])∧IntsAt w' (.slice a S c) (List.replicate S k)∧(∀ g,(Value.slice a S c).ownBlock=some g→w.heap.size≤g)∧Fr [] w w':=by
 go_enter Try.func64,Try.ntmps64
 go_wp2
 refine aBW (fun W=>Fr [] w W∧W.heap[w.heap.size]?=some (.cells #[.int .i64 0,.slice none 0 0] 91 (0,0))∧W.heap[w.heap.size+1]?=some (.cells #[.int .i64 lv,.slice none 0 0] 91 (0,0))∧W.heap.size=w.heap.size+2) ⟨by (repeat first|exact Fr.refl _ _|assumption|apply Fr.n|apply Fr.d|apply Fr.a|refine Fr.s ?_ (.inr (by simp;try omega)) _),by (repeat first|rw [if_pos (by omega)]|rw [if_neg (by omega)]|rw [hDR]|rw [hDN]|rw [hAz]|rw [hSz]|rw [hAC]|rw [hSC]|rw [oMS]|rw [uPC]|rw [lSZ]|rw [lSS]|rfl),by (repeat first|rw [if_pos (by omega)]|rw [if_neg (by omega)]|rw [hDR]|rw [hDN]|rw [hAz]|rw [hSz]|rw [hAC]|rw [hSC]|rw [oMS]|rw [uPC]|rw [lSZ]|rw [lSS]|rfl),by simp⟩ ?_
 rintro W ⟨hf,h6,h7,hsz⟩
 obtain⟨b6,hb6⟩:∃ b,w.heap.size=b:=⟨_,rfl⟩
 obtain⟨b7,hb7⟩:∃ b,w.heap.size+1=b:=⟨_,rfl⟩
 have hne:b6≠b7:=by omega
 have hl7:b7<W.heap.size:=by omega
 have HSZ:=Lib.hid (show b6<W.heap.size∧w.heap.size≤b6∧w.heap.size≤b7∧b6≠b7 by omega)
 have HL7:=Lib.hid hl7
 rw [hb6] at h6
 rw [hb7] at h7
 rw [hb6]
 rw [hb6] at hb7
 rw [hb7]
 have Hf:=Lib.hid hf
 have H6:=Lib.hid h6
 have H7:=Lib.hid h7
 clear hf h6 h7 hsz hb6 hb7 hl7 hne
 go_loopw [8] (fun x wr=>∃ (i:Nat) (v:Value),x=.int .i64 i∧i≤S∧Hid (wr.heap[b6]?=some (.cells #[.int .i64 0,.slice none 0 0] 91 (0,0)))∧Hid (wr.heap[b7]?=some (.cells #[.int .i64 lv,v] 91 (0,0)))∧Hid (wr.ownsRow W.heap.size 3 1 v i (iv (List.replicate i k)))∧Hid (Fr [] w wr)∧Hid (W.heap.size≤wr.heap.size)) (fun x _=>S - (intOf x).toNat)
 case atStart=>exact⟨0,_,rfl,by omega,H6,H7,Lib.hid (World.ownsRow_nil _ _ _ _),Hf,Lib.hid (Nat.le_refl _)⟩
 case round =>
  obtain⟨i,v,rfl,hi,G6,G7,HO,HF,HW⟩:=hrel
  clear H6 H7
  have c0:=hEC G7.out 0
  have c1:=hEC G7.out 1
  have z1:=hEF G7.out 1
  have l7:=lBk G7.out
  obtain⟨va,vc,rfl,_,_⟩:=oFM HO.out
  by_cases hlt:i<S
  ·have hWl:=HW.out
   go_wp2_with (at_builtin;refine append_int (base:=W.heap.size) (n:=i) (l:=List.replicate i k) (y:=k) rfl rfl rfl rfl ?a1 ?a2 ?a3 ?a4 ?_)
   case a1=>exact oOB HO.out fun y hy=>hAE _ _ _ (oLT HO.out hy)
   case a2=>first|(first|(rw [hAC,if_pos rfl];done)|exact (Array.getElem?_eq_some_iff.1 ((hAC _ _ _).trans (if_pos rfl))).2|(simp only [hDR,hDN];rw [hAC,if_pos rfl];done))|(repeat first|rw [if_pos (by omega)]|rw [if_neg (by omega)]|rw [hDR]|rw [hDN]|rw [hAz]|rw [hSz]|rw [hAC]|rw [hSC]|rw [oMS]|rw [uPC]|rw [lSZ]|rw [lSS]|rfl)
   case a3=>omega
   case a4=>(first|omega|(simp only [hDR,hDN,hAz];omega)|(simp;omega))
   intro v9 w9 hown hF9 hb9
   obtain⟨a9,c9,rfl,_,_⟩:=oFM hown
   have l6:=lBk G6.out
   have hoff:∀ b,b<W.heap.size→b∉(Value.slice va i vc).ownBlock.toList:=fun b hb hx=>by
    have:=owns_ge HO.out (show (Value.slice va i vc).ownBlock=some b by simpa using hx)
    omega
   obtain⟨s6,s7,s8,s9⟩:=HSZ.out
   have hl7:=HL7.out
   have h6:=(hF9.block b6 (by rw [hAz];omega) (hoff b6 s6)).trans ((hAE _ _ _ l6).trans G6.out)
   have h7:=(hF9.block b7 (by rw [hAz];omega) (hoff b7 hl7)).trans ((hAE _ _ _ l7).trans G7.out)
   have d1:=hEC h7 1
   have y1:=hEF h7 1
   have e7:=lBk h7
   have G6':=Lib.hid ((heap_setCell_else w9 ⟨b7,1,none⟩ (.slice a9 (i+1) c9) b6 s9).trans h6)
   have G7':=Lib.hid (heap_setCell_here h7 1 (.slice a9 (i+1) c9))
   have HO':=Lib.hid (show (w9.setCell ⟨b7,1,none⟩ (.slice a9 (i+1) c9)).ownsRow W.heap.size 3 1 (.slice a9 (i+1) c9) (i+1) (iv (List.replicate (i+1) k)) from oOB (by rw [List.replicate_succ',];exact hown) fun y hy=>heap_setCell_else _ _ _ _ (by have:=owns_ge hown hy;intro e;have e:y=b7:=e;omega))
   have HF':=Lib.hid (show Fr [] w (w9.setCell ⟨b7,1,none⟩ (.slice a9 (i+1) c9)) from (Fr.trans (HF.out.alloc _) hF9 fun x hx=>.inr (by
    have:=owns_ge HO.out (show (Value.slice va i vc).ownBlock=some x by simpa using hx)
    omega)).setCell (.inr s8) _)
   have HW':=Lib.hid (show W.heap.size≤(w9.setCell ⟨b7,1,none⟩ (.slice a9 (i+1) c9)).heap.size by have:=hF9.size;simp at this ⊢;omega)
   clear hown hF9 hb9 hoff s6 s7 s8 s9 hl7 h6 h7 c0 c1 z1 l7 G6 G7
   go_wp2
   go_roundw
   case rel=>exact⟨i+1,_,by go_num,by omega,G6',G7',HO',HF',HW'⟩
   case measure=>simp [intOf];omega
  ·obtain rfl:S=i:=by omega
   have d0:=hEC G6.out 0
   have d1:=hEC G6.out 1
   have y0:=hEF G6.out 0
   have y1:=hEF G6.out 1
   have l6:=lBk G6.out
   have HI:=Lib.hid (show IntsAt wr (.slice va S vc) (List.replicate S k) from ints_of_owns (base:=W.heap.size) (by rw [List.length_replicate];exact HO.out))
   have HSZ2:=Lib.hid (HSZ.out.2.1)
   go_wp2
   have G:=G6.out
   refine bodyPost_ret (node_result1 rfl (b:=b6) (x:=.int .i64 lv) (y:=.slice va S vc) rfl ?_) rfl ⟨va,vc,rfl,?_,fun g hg=>?_,?_⟩
   ·(repeat first|rw [if_pos (by omega)]|rw [if_neg (by omega)]|rw [hDR]|rw [hDN]|rw [hAz]|rw [hSz]|rw [hAC]|rw [hSC]|rw [oMS]|rw [uPC]|rw [lSZ]|rw [lSS]|rfl)
    rw [G]
    (repeat first|rw [if_pos (by omega)]|rw [if_neg (by omega)]|rw [hDR]|rw [hDN]|rw [hAz]|rw [hSz]|rw [hAC]|rw [hSC]|rw [oMS]|rw [uPC]|rw [lSZ]|rw [lSS]|rfl)
   ·have hlo:=HSZ.out.1
    refine Reads.keep HI.out fun x hx hlt=>?_
    have h9:=owns_ge HO.out hx
    (repeat first|rw [if_pos (by omega)]|rw [if_neg (by omega)]|rw [hDR]|rw [hDN]|rw [hAz]|rw [hSz]|rw [hAC]|rw [hSC]|rw [oMS]|rw [uPC]|rw [lSZ]|rw [lSS]|rfl)
   ·have h9:=owns_ge HO.out hg
    have h8:=HSZ.out
    omega
   ·have h9:=HSZ2.out
    have:=HF.out
    (repeat first|exact Fr.refl _ _|assumption|apply Fr.n|apply Fr.d|apply Fr.a|refine Fr.s ?_ (.inr (by simp;try omega)) _)
theorem append_node {ops:Array Oper} {rest:List Oper} {o:Oper} {a:Act} {W:World} {Q:Exit→Act→World→Prop} (hgd:o.guard=none) {s x:Operand}
  (ho:o.op=.call { callee:=.builtin .append,args:=#[s,x],argTypes:=#[29,29] }) {base n:Nat} {v u:Value} {xs:List Value} {lv:Int} {nb c:Nat} (hs:a.eval s=v) (hx:a.eval x=.slice (some ⟨nb,0,none⟩) 1 c)
  (hown:W.ownsRow base 91 2 v n xs) (hnb:W.heap[nb]?=some (.cells #[.int .i64 lv,u] 91 (0,0))) (hu:u.oneCell'=true) (hlen:n≤1000000) (hbase:base≤W.heap.size)
  (h:∀ g cap w',w'.ownsRow base 91 2 (.slice (some ⟨g,0,none⟩) (n+1) cap) (n+1) (xs++[.int .i64 lv,u])→Fr v.ownBlock.toList W w'→(v.ownBlock=some g∨g=W.heap.size)→wpList Try.prog ops Q rest (a.put o.dst (.slice (some ⟨g,0,none⟩) (n+1) cap)) w'):wpList Try.prog ops Q (o::rest) a W:=by
 have hbig:n+1≤maxLen:=by
  have:(1000001:Nat)≤maxLen:=by decide
  omega
 refine append_new hgd ho (base:=base) (size:=2) (bytes:=32) (z:=.agg #[.int .i64 0,.slice none 0 0]) (e:=91) Try.underlying29 (by kernel_rfl) rfl (by decide) hs hown hx hnb rfl (by intro z hz;simp at hz;rcases hz with rfl|rfl;rfl;exact hu) hbig (by omega) hbase ?_
 intro g cap w' h1 h2 h3 h4 h5
 exact h g cap w' h1 h3 h4
def rightNodes:List (Int×List Int):=[(1,[0,1]),(2,[0,0])]
def rightHood:List (Int×Int):=[(0,0),(1,0)]
def rightRule:Rule:=⟨2,rightHood,rightNodes⟩
theorem rightHood_ok:hoodR rightHood=true:=by decide
set_option maxHeartbeats 8000000 in
set_option maxRecDepth 100000 in
theorem RRead_calls {w:World} {hb c:Nat} (hp:PtsAt w (.slice (some ⟨hb,0,none⟩) 2 c) rightHood) :
  Calls Try.prog 39 #[.int .i64 2,.slice (some ⟨hb,0,none⟩) 2 c,.int .i64 1] w fun e w'=>∃ na nc,e=.returned (.tuple #[.agg #[.int .i64 2,.slice (some ⟨hb,0,none⟩) 2 c,.slice na 2 nc],.int .i64 0])∧(∀ w2:World,(∀ x,w.heap.size≤x→x<w'.heap.size→w2.heap[x]?=w'.heap[x]?)→NodesAt w2 (.slice na 2 nc) rightNodes)∧Fr [] w w':=by
 have HH:=Lib.hid (fun w1 (hf:Fr [] w w1)=>RHRight_calls (l:=rightHood) (hp.fr hf) (by decide))
 rw [rightHood_ok,show rightHood.length=2 from rfl] at HH
 clear hp
 go_enter Try.func39,Try.ntmps39
 go_wp2_with fail
 refine (HH.out _ (by (repeat first|exact Fr.refl _ _|assumption|apply Fr.n|apply Fr.d|apply Fr.a|refine Fr.s ?_ (.inr (by simp;try omega)) _))).mono ?_
 rintro e w1 ⟨rfl,hf⟩
 have hb_:=(hf.block (w.heap.size) (by first|(simp;done)|(simp;omega)) (by simp)).trans (show _=some (.cells #[.int .i64 0,.slice none 0 0,.slice none 0 0] 31 (0,0)) by (repeat first|rw [if_pos (by omega)]|rw [if_neg (by omega)]|rw [hDR]|rw [hDN]|rw [hAz]|rw [hSz]|rw [hAC]|rw [hSC]|rw [oMS]|rw [uPC]|rw [lSZ]|rw [lSS]|rfl))
 have b0:=hEC hb_ 0
 have b1:=hEC hb_ 1
 have b2:=hEC hb_ 2
 have bl:=lBk hb_
 have Hb:=Lib.hid hb_
 clear hb_
 have Hf:=Lib.hid (Fr.trans0 (by (repeat first|exact Fr.refl _ _|assumption|apply Fr.n|apply Fr.d|apply Fr.a|refine Fr.s ?_ (.inr (by simp;try omega)) _):Fr [] w _) hf)
 clear hf
 go_wp2
 refine aBW (fun W=>Fr [] w W∧W.heap[w.heap.size]?=some (.cells #[.int .i64 0,.slice none 0 0,.slice none 0 0] 31 (0,0))∧W.heap[w1.heap.size]?=some (.cells #[.int .i64 2,.slice (some ⟨hb,0,none⟩) 2 c,.slice none 0 0] 31 (0,0))∧W.heap[w1.heap.size+1]?=some (.cells #[.int .i64 1,.slice none 0 0] 91 (0,0))∧W.heap.size=w1.heap.size+2) ⟨by have:=Hf.out;(repeat first|exact Fr.refl _ _|assumption|apply Fr.n|apply Fr.d|apply Fr.a|refine Fr.s ?_ (.inr (by simp;try omega)) _),by have:=Hb.out;(repeat first|rw [if_pos (by omega)]|rw [if_neg (by omega)]|rw [hDR]|rw [hDN]|rw [hAz]|rw [hSz]|rw [hAC]|rw [hSC]|rw [oMS]|rw [uPC]|rw [lSZ]|rw [lSS]|rfl);exact this,by (repeat first|rw [if_pos (by omega)]|rw [if_neg (by omega)]|rw [hDR]|rw [hDN]|rw [hAz]|rw [hSz]|rw [hAC]|rw [hSC]|rw [oMS]|rw [uPC]|rw [lSZ]|rw [lSS]|rfl),by (repeat first|rw [if_pos (by omega)]|rw [if_neg (by omega)]|rw [hDR]|rw [hDN]|rw [hAz]|rw [hSz]|rw [hAC]|rw [hSC]|rw [oMS]|rw [uPC]|rw [lSZ]|rw [lSS]|rfl),by simp⟩ ?_
 rintro W ⟨hf,h6,h8,h10,hsz⟩
 obtain⟨b6,hb6⟩:∃ b,w.heap.size=b:=⟨_,rfl⟩
 obtain⟨b8,hb8⟩:∃ b,w1.heap.size=b:=⟨_,rfl⟩
 obtain⟨b10,hb10⟩:∃ b,b8+1=b:=⟨_,rfl⟩
 have hw1:=Hf.out.size
 have HSZ:=Lib.hid (show b6<b8∧b8<b10∧b10<W.heap.size∧w.heap.size≤b6 by omega)
 rw [hb8] at h8 h10
 rw [hb10] at h10
 rw [hb6] at h6
 rw [hb6,hb8,hb10]
 have HW:=Lib.hid hf
 have H6:=Lib.hid h6
 have H8:=Lib.hid h8
 have H10:=Lib.hid h10
 clear hf h6 h8 h10 hsz hb6 hb8 hb10 hw1 Hf Hb b0 b1 b2 bl
 go_loopw [11] (fun x wr=>∃ z:Int,x=.int .i64 z∧At3 (fun q=>∃ v,Hid (wr.heap[b10]?=some (.cells #[.int .i64 1,v] 91 (0,0)))∧Hid (wr.ownsRow W.heap.size 3 1 v q (iv (([0,1]:List Int).take q)))∧Hid (Fr [b10] W wr)) z) (fun x _=>2 - (intOf x).toNat)
 case atStart=>exact⟨0,rfl,.inl ⟨rfl,_,H10,Lib.hid (World.ownsRow_nil _ _ _ _),Lib.hid (Fr.refl _ _)⟩⟩
 case round =>
  obtain⟨z,rfl,hz⟩:=hrel
  clear H10
  rcases hz with ⟨rfl,v,G10,HO,HF⟩|⟨rfl,v,G10,HO,HF⟩|⟨rfl,v,G10,HO,HF⟩
  ·
   obtain⟨va,vc,rfl,_,_⟩:=oFM HO.out
   have c1:=hEC G10.out 1
   have z1:=hEF G10.out 1
   have l10:=lBk G10.out
   go_wp2
   go_loopw [12,13] (fun x12 x13 wl=>x12=.int .i64 0∧x13=.int .i64 1∧wl=wr) (fun _ _ _=>0)
   case atStart=>exact⟨rfl,rfl,rfl⟩
   case round =>
    obtain⟨rfl,rfl,rfl⟩:=hrel
    have hWl:=HF.out.size
    go_wp2_with (at_builtin;refine append_int (base:=W.heap.size) (n:=0) (l:=([0,1]:List Int).take 0) (y:=0) rfl rfl rfl rfl ?a10 ?a20 ?a30 ?a40 ?_)
    case a10=>exact oOB HO.out fun y hy=>hAE _ _ _ (oLT HO.out hy)
    case a20=>first|(first|(rw [hAC,if_pos rfl];done)|exact (Array.getElem?_eq_some_iff.1 ((hAC _ _ _).trans (if_pos rfl))).2|(simp only [hDR,hDN];rw [hAC,if_pos rfl];done))|(repeat first|rw [if_pos (by omega)]|rw [if_neg (by omega)]|rw [hDR]|rw [hDN]|rw [hAz]|rw [hSz]|rw [hAC]|rw [hSC]|rw [oMS]|rw [uPC]|rw [lSZ]|rw [lSS]|rfl)
    case a30=>omega
    case a40=>(first|omega|(simp only [hDR,hDN,hAz];omega)|(simp;omega))
    intro v9 w9 hown hF9 hb9
    obtain⟨a9,c9,rfl,_,_⟩:=oFM hown
    have hoff:b10∉(Value.slice va 0 vc).ownBlock.toList:=fun hx=>by
     have:=owns_ge HO.out (show (Value.slice va 0 vc).ownBlock=some b10 by simpa using hx)
     have:=HSZ.out
     omega
    have h10:=(hF9.block b10 (by rw [hAz];omega) hoff).trans ((hAE _ _ _ l10).trans G10.out)
    have d1:=hEC h10 1
    have y1:=hEF h10 1
    have e10:=lBk h10
    have G':=Lib.hid (heap_setCell_here h10 1 (.slice a9 (0+1) c9))
    have HO':=Lib.hid (show (w9.setCell ⟨b10,1,none⟩ (.slice a9 (0+1) c9)).ownsRow W.heap.size 3 1 (.slice a9 (0+1) c9) (0+1) (iv (([0,1]:List Int).take (0+1))) from oOB hown fun y hy=>heap_setCell_else _ _ _ _ (by have:=owns_ge hown hy;have:=HSZ.out;intro e;have e:y=b10:=e;omega))
    have HF':=Lib.hid (show Fr [b10] W (w9.setCell ⟨b10,1,none⟩ (.slice a9 (0+1) c9)) from (Fr.trans (HF.out.alloc _) hF9 fun x hx=>.inr (by
     exact owns_ge HO.out (show (Value.slice va 0 vc).ownBlock=some x by simpa using hx))).setCell (.inl (by simp)) _)
    clear hown hF9 hb9 hoff h10 c1 z1 l10 G10 HO HF
    go_wp2
    go_roundw
    case rel=>exact⟨1,rfl,(.inr (.inl ⟨rfl,_,G',HO',HF'⟩))⟩
    case measure=>simp [intOf]
  ·
   obtain⟨va,vc,rfl,_,_⟩:=oFM HO.out
   have c1:=hEC G10.out 1
   have z1:=hEF G10.out 1
   have l10:=lBk G10.out
   go_wp2
   go_loopw [12,13] (fun x12 x13 wl=>x12=.int .i64 1∧x13=.int .i64 1∧wl=wr) (fun _ _ _=>0)
   case atStart=>exact⟨rfl,rfl,rfl⟩
   case round =>
    obtain⟨rfl,rfl,rfl⟩:=hrel
    have hWl:=HF.out.size
    go_wp2_with (at_builtin;refine append_int (base:=W.heap.size) (n:=1) (l:=([0,1]:List Int).take 1) (y:=1) rfl rfl rfl rfl ?a11 ?a21 ?a31 ?a41 ?_)
    case a11=>exact oOB HO.out fun y hy=>hAE _ _ _ (oLT HO.out hy)
    case a21=>first|(first|(rw [hAC,if_pos rfl];done)|exact (Array.getElem?_eq_some_iff.1 ((hAC _ _ _).trans (if_pos rfl))).2|(simp only [hDR,hDN];rw [hAC,if_pos rfl];done))|(repeat first|rw [if_pos (by omega)]|rw [if_neg (by omega)]|rw [hDR]|rw [hDN]|rw [hAz]|rw [hSz]|rw [hAC]|rw [hSC]|rw [oMS]|rw [uPC]|rw [lSZ]|rw [lSS]|rfl)
    case a31=>omega
    case a41=>(first|omega|(simp only [hDR,hDN,hAz];omega)|(simp;omega))
    intro v9 w9 hown hF9 hb9
    obtain⟨a9,c9,rfl,_,_⟩:=oFM hown
    have hoff:b10∉(Value.slice va 1 vc).ownBlock.toList:=fun hx=>by
     have:=owns_ge HO.out (show (Value.slice va 1 vc).ownBlock=some b10 by simpa using hx)
     have:=HSZ.out
     omega
    have h10:=(hF9.block b10 (by rw [hAz];omega) hoff).trans ((hAE _ _ _ l10).trans G10.out)
    have d1:=hEC h10 1
    have y1:=hEF h10 1
    have e10:=lBk h10
    have G':=Lib.hid (heap_setCell_here h10 1 (.slice a9 (1+1) c9))
    have HO':=Lib.hid (show (w9.setCell ⟨b10,1,none⟩ (.slice a9 (1+1) c9)).ownsRow W.heap.size 3 1 (.slice a9 (1+1) c9) (1+1) (iv (([0,1]:List Int).take (1+1))) from oOB hown fun y hy=>heap_setCell_else _ _ _ _ (by have:=owns_ge hown hy;have:=HSZ.out;intro e;have e:y=b10:=e;omega))
    have HF':=Lib.hid (show Fr [b10] W (w9.setCell ⟨b10,1,none⟩ (.slice a9 (1+1) c9)) from (Fr.trans (HF.out.alloc _) hF9 fun x hx=>.inr (by
     exact owns_ge HO.out (show (Value.slice va 1 vc).ownBlock=some x by simpa using hx))).setCell (.inl (by simp)) _)
    clear hown hF9 hb9 hoff h10 c1 z1 l10 G10 HO HF
    go_wp2
    go_roundw
    case rel=>exact⟨2,rfl,(.inr (.inr ⟨rfl,_,G',HO',HF'⟩))⟩
    case measure=>simp [intOf]
  ·obtain⟨va,vc,rfl,_,_⟩:=oFM HO.out
   have n0:=hEC G10.out 0
   have n1:=hEC G10.out 1
   have l10:=lBk G10.out
   have hsz:=HSZ.out
   have hWl:=HF.out.size
   have h8:=(HF.out.block b8 (by omega) (by simp;omega)).trans H8.out
   have t2:=hEC h8 2
   have y2:=hEF h8 2
   have l8:=lBk h8
   have hi0:IntsAt wr (.slice va 2 vc) [0,1]:=ints_of_owns (base:=W.heap.size) HO.out
   have hv0:∀ g,(Value.slice va 2 vc).ownBlock=some g→g<wr.heap.size∧W.heap.size≤g:=fun g hg=>⟨oLT HO.out hg,owns_ge HO.out hg⟩
   clear hsz
   go_wp2_with (at_builtin;refine append_node (base:=wr.heap.size) (n:=0) (xs:=[]) (u:=.slice va 2 vc) (lv:=1) rfl rfl rfl rfl ?b1 ?b2 rfl ?b3 ?b4 ?_)
   case b1=>exact World.ownsRow_nil _ _ _ _
   case b2=>first|(first|(rw [hAC,if_pos rfl];done)|exact (Array.getElem?_eq_some_iff.1 ((hAC _ _ _).trans (if_pos rfl))).2|(simp only [hDR,hDN];rw [hAC,if_pos rfl];done))|(repeat first|rw [if_pos (by omega)]|rw [if_neg (by omega)]|rw [hDR]|rw [hDN]|rw [hAz]|rw [hSz]|rw [hAC]|rw [hSC]|rw [oMS]|rw [uPC]|rw [lSZ]|rw [lSS]|rfl)
   case b3=>omega
   case b4=>simp
   intro g1 cap1 w9 hown hF9 hb9
   have h8':=(hF9.block b8 (by rw [hAz];omega) (by simp [Value.ownBlock])).trans ((hAE _ _ _ l8).trans h8)
   have d2:=hEC h8' 2
   have x2:=hEF h8' 2
   have e8:=lBk h8'
   have hi9:IntsAt w9 (.slice va 2 vc) [0,1]:=(hi0.fr (by (repeat first|exact Fr.refl _ _|assumption|apply Fr.n|apply Fr.d|apply Fr.a|refine Fr.s ?_ (.inr (by simp;try omega)) _):Fr [] wr (wr.alloc _))).fr hF9
   have hw9:=hF9.size
   rw [hAz] at hw9
   have HST:=Lib.hid (show Fr [b8,b10] W (w9.setCell ⟨b8,2,none⟩ (.slice (some ⟨g1,0,none⟩) 1 cap1))∧(w9.setCell ⟨b8,2,none⟩ (.slice (some ⟨g1,0,none⟩) 1 cap1)).heap[b8]?=some (.cells #[.int .i64 2,.slice (some ⟨hb,0,none⟩) 2 c,.slice (some ⟨g1,0,none⟩) 1 cap1] 31 (0,0)) ∧
     (w9.setCell ⟨b8,2,none⟩ (.slice (some ⟨g1,0,none⟩) 1 cap1)).ownsRow wr.heap.size 91 2 (.slice (some ⟨g1,0,none⟩) 1 cap1) 1 [.int .i64 1,.slice va 2 vc]∧IntsAt (w9.setCell ⟨b8,2,none⟩ (.slice (some ⟨g1,0,none⟩) 1 cap1)) (.slice va 2 vc) [0,1] from by
    have hsz:=HSZ.out
    refine⟨(((HF.out.mono (G:=[b8,b10]) (by simp)).alloc _).trans hF9 (by simp [Value.ownBlock])).setCell (.inl (by simp)) _,heap_setCell_here h8' 2 _,oOB hown fun y hy=>heap_setCell_else _ _ _ _ ?_,Reads.keep hi9 fun x hx hlt=>heap_setCell_else _ _ _ _ ?_⟩
    ·have:=owns_ge hown hy
     intro e
     have e:y=b8:=e
     omega
    ·have:=hv0 x hx
     intro e
     have e:x=b8:=e
     omega)
   have HV0:=Lib.hid hv0
   clear h8 t2 y2 l8 hi0 hv0 hown hF9 hb9 h8' hi9 n0 n1 l10 G10 HO HF H8
   go_wp2
   obtain⟨W2,hW2⟩:∃ W2,w9.setCell ⟨b8,2,none⟩ (.slice (some ⟨g1,0,none⟩) 1 cap1)=W2:=⟨_,rfl⟩
   rw [hW2] at HST ⊢
   have hsz2:wr.heap.size<W2.heap.size:=by rw [← hW2];simp;omega
   clear hW2 d2 x2 e8 hw9
   obtain⟨B2,hB2⟩:∃ B2,wr.heap.size=B2:=⟨_,rfl⟩
   rw [hB2] at HST HV0 hsz2 hWl
   clear hB2
   go_loopw [14] (fun x wl=>∃ z:Int,x=.int .i64 z∧(z=2∧wl=W2∨z=3∧∃ g2 c2 ua uc,Hid (wl.heap[b8]?=some (.cells #[.int .i64 2,.slice (some ⟨hb,0,none⟩) 2 c,.slice (some ⟨g2,0,none⟩) 2 c2] 31 (0,0)))∧Hid (wl.ownsRow B2 91 2 (.slice (some ⟨g2,0,none⟩) 2 c2) 2 [.int .i64 1,.slice va 2 vc,.int .i64 2,.slice ua 2 uc])∧Hid (IntsAt wl (.slice va 2 vc) [0,1])∧Hid (IntsAt wl (.slice ua 2 uc) [0,0])∧Hid (Fr [b8,b10] W wl)∧Hid (∀ g,(Value.slice ua 2 uc).ownBlock=some g→B2≤g))) (fun x _=>3 - (intOf x).toNat)
   case atStart=>exact⟨2,rfl,.inl ⟨rfl,rfl⟩⟩
   case round =>
    obtain⟨z,rfl,⟨rfl,hwl⟩|⟨rfl,g2,c2,ua,uc,HB,HO,HI,HI2,HFF,HUU⟩⟩:=hrel
    ·subst hwl
     have hb8:=HST.out.2.1
     have t2:=hEC hb8 2
     have y2:=hEF hb8 2
     have l8:=lBk hb8
     clear hb8
     go_wp2
     refine wRS [([0,1,2,3,4,5,6,7,8],[1]),([9,10,11,12],[])] (by kernel_rfl) (by kernel_rfl) ?_
     (simp only [wpSegs,pick,Array.getD_eq_getD_getElem?,List.getElem?_toArray,List.getElem?_cons_succ,List.getElem?_cons_zero,Option.getD_some])
     go_wp2_with fail
     refine (RAll_calls (S:=2) (by omega) 2 0).mono ?_
     rintro e w5 ⟨ua,uc,rfl,hi,hub,hf⟩
     have hf5:Fr [] wr w5:=Fr.trans0 (by (repeat first|exact Fr.refl _ _|assumption|apply Fr.n|apply Fr.d|apply Fr.a|refine Fr.s ?_ (.inr (by simp;try omega)) _)) hf
     have h8:=(hf5.block b8 l8 (by simp)).trans HST.out.2.1
     have t2:=hEC h8 2
     have y2:=hEF h8 2
     have l8':=lBk h8
     have HST5:=Lib.hid (show Fr [b8,b10] W w5∧w5.ownsRow B2 91 2 (.slice (some ⟨g1,0,none⟩) 1 cap1) 1 [.int .i64 1,.slice va 2 vc]∧IntsAt w5 (.slice va 2 vc) [0,1] from ⟨HST.out.1.trans0 hf5,oOB HST.out.2.2.1 fun y hy=>hf5.block y (oLT HST.out.2.2.1 hy) (by simp),HST.out.2.2.2.fr hf5⟩)
     have HU:=Lib.hid hi
     have HUB:=Lib.hid (show ∀ g,(Value.slice ua 2 uc).ownBlock=some g→g<w5.heap.size∧wr.heap.size≤g from fun g hg=>by
      have hge:=hub g hg
      simp only [hDR,hDN] at hge
      obtain⟨gg,oo,rfl,hg9,_⟩:=hi.cell (i:=0) (x:=0) rfl
      have:gg=g:=by simpa [Value.ownBlock] using hg
      exact⟨by omega,hge⟩)
     have hs5:=hf5.size
     have H85:=Lib.hid h8
     clear h8 hi hub hf hf5 l8
     go_wp2
     refine Mid.intro ⟨⟨again_cell (T:=29) rfl rfl rfl Try.underlying29 rfl t2 rfl,trivial⟩,?_⟩
     go_wp2_with (at_builtin;refine append_node (base:=B2) (n:=1) (xs:=[.int .i64 1,.slice va 2 vc]) (u:=.slice ua 2 uc) (lv:=2) rfl rfl rfl rfl ?c1 ?c2 rfl ?c3 ?c4 ?_)
     case c1=>exact oOB HST5.out.2.1 fun y hy=>hAE _ _ _ (oLT HST5.out.2.1 hy)
     case c2=>first|(first|(rw [hAC,if_pos rfl];done)|exact (Array.getElem?_eq_some_iff.1 ((hAC _ _ _).trans (if_pos rfl))).2|(simp only [hDR,hDN];rw [hAC,if_pos rfl];done))|(repeat first|rw [if_pos (by omega)]|rw [if_neg (by omega)]|rw [hDR]|rw [hDN]|rw [hAz]|rw [hSz]|rw [hAC]|rw [hSC]|rw [oMS]|rw [uPC]|rw [lSZ]|rw [lSS]|rfl)
     case c3=>omega
     case c4=>(first|omega|(simp only [hDR,hDN,hAz];omega)|(simp;omega))
     intro g2 c2 w9 hown hF9 hb9
     have hg1:=oLT HST.out.2.2.1 (show (Value.slice (some ⟨g1,0,none⟩) 1 cap1).ownBlock=some g1 from rfl)
     have hgB:=owns_ge HST.out.2.2.1 (show (Value.slice (some ⟨g1,0,none⟩) 1 cap1).ownBlock=some g1 from rfl)
     have hsz:=HSZ.out
     have hn8:b8∉(Value.slice (some ⟨g1,0,none⟩) 1 cap1).ownBlock.toList:=by simp [Value.ownBlock];omega
     have h8':=(hF9.block b8 (by rw [hAz];omega) hn8).trans ((hAE _ _ _ l8').trans H85.out)
     have e2:=hEC h8' 2
     have x2:=hEF h8' 2
     have e8:=lBk h8'
     have hne:∀ x,B2≤x→x≠b8:=fun x hx e=>by omega
     have hka:IntsAt w9 (.slice va 2 vc) [0,1]:=Reads.keep (HST5.out.2.2.fr (by (repeat first|exact Fr.refl _ _|assumption|apply Fr.n|apply Fr.d|apply Fr.a|refine Fr.s ?_ (.inr (by simp;try omega)) _):Fr [] w5 (w5.alloc _))) fun x hx hlt=>hF9.block x hlt (by have:=HV0.out x hx;simp [Value.ownBlock];omega)
     have hku:IntsAt w9 (.slice ua 2 uc) [0,0]:=Reads.keep (IntsAt.fr HU.out (by (repeat first|exact Fr.refl _ _|assumption|apply Fr.n|apply Fr.d|apply Fr.a|refine Fr.s ?_ (.inr (by simp;try omega)) _):Fr [] w5 (w5.alloc _))) fun x hx hlt=>hF9.block x hlt (by have:=HUB.out x hx;simp [Value.ownBlock];omega)
     have HUU:=Lib.hid (show ∀ g,(Value.slice ua 2 uc).ownBlock=some g→B2≤g from fun g hg=>by have:=HUB.out g hg;omega)
     have hfin0:Fr [b8,b10] W w9:=(HST5.out.1.alloc _).trans hF9 fun x hx=>.inr (by
      have:g1=x:=by have h:=hx;simp [Value.ownBlock] at h;exact h.symm
      omega)
     have hfin:Fr [b8,b10] W (w9.setCell ⟨b8,2,none⟩ (.slice (some ⟨g2,0,none⟩) 2 c2)):=hfin0.setCell (.inl (by simp)) _
     have HREL:=Lib.hid (show (w9.setCell ⟨b8,2,none⟩ (.slice (some ⟨g2,0,none⟩) 2 c2)).heap[b8]?=some (.cells #[.int .i64 2,.slice (some ⟨hb,0,none⟩) 2 c,.slice (some ⟨g2,0,none⟩) 2 c2] 31 (0,0))∧(w9.setCell ⟨b8,2,none⟩ (.slice (some ⟨g2,0,none⟩) 2 c2)).ownsRow B2 91 2 (.slice (some ⟨g2,0,none⟩) 2 c2) 2 [.int .i64 1,.slice va 2 vc,.int .i64 2,.slice ua 2 uc] ∧
       IntsAt (w9.setCell ⟨b8,2,none⟩ (.slice (some ⟨g2,0,none⟩) 2 c2)) (.slice va 2 vc) [0,1]∧IntsAt (w9.setCell ⟨b8,2,none⟩ (.slice (some ⟨g2,0,none⟩) 2 c2)) (.slice ua 2 uc) [0,0]∧Fr [b8,b10] W (w9.setCell ⟨b8,2,none⟩ (.slice (some ⟨g2,0,none⟩) 2 c2)) from
      ⟨heap_setCell_here h8' 2 _,oOB hown fun y hy=>heap_setCell_else _ _ _ _ (hne y (owns_ge hown hy)),Reads.keep hka fun x hx hlt=>heap_setCell_else _ _ _ _ (fun e=>by have e:x=b8:=e;have:=HV0.out x hx;omega),Reads.keep hku fun x hx hlt=>heap_setCell_else _ _ _ _ (fun e=>by have e:x=b8:=e;have:=HUB.out x hx;omega),hfin⟩)
     clear hown hF9 hb9 hg1 hgB hsz hn8 h8' hne hka hku t2 y2 l8' hfin0 hfin
     go_wp2
     refine Mid.intro ⟨trivial,Strict.intro rfl ?_⟩
     go_wp2
     go_roundw
     case rel=>exact⟨3,rfl,.inr ⟨rfl,g2,c2,ua,uc,Lib.hid HREL.out.1,Lib.hid HREL.out.2.1,Lib.hid HREL.out.2.2.1,Lib.hid HREL.out.2.2.2.1,Lib.hid HREL.out.2.2.2.2,HUU⟩⟩
     case measure=>simp [intOf]
    ·have t0:=hEC HB.out 0
     have t1:=hEC HB.out 1
     have t2:=hEC HB.out 2
     have l8:=lBk HB.out
     have hsz:=HSZ.out
     have h6:=(HFF.out.block b6 (by omega) (by simp;omega)).trans H6.out
     have s0:=hEC h6 0
     have s1:=hEC h6 1
     have s2:=hEC h6 2
     have y0:=hEF h6 0
     have y1:=hEF h6 1
     have y2:=hEF h6 2
     have l6:=lBk h6
     have G:=Lib.hid h6
     have hg2:=oLT HO.out (show (Value.slice (some ⟨g2,0,none⟩) 2 c2).ownBlock=some g2 from rfl)
     have hg2B:=owns_ge HO.out (show (Value.slice (some ⟨g2,0,none⟩) 2 c2).ownBlock=some g2 from rfl)
     have HG2:=Lib.hid (show g2<wr.heap.size∧B2≤g2 from ⟨hg2,hg2B⟩)
     have HREF:=Lib.hid (show b6<b8∧w.heap.size≤b6 from ⟨by omega,by omega⟩)
     have HW6:=Lib.hid (show b6<W.heap.size by omega)
     clear hsz h6 hg2 hg2B
     go_wp2
     have G':=G.out
     have hne:∀ x,B2≤x→x≠b6:=fun x hx e=>by have:=HW6.out;omega
     refine bodyPost_ret (tree_result2 rfl (b:=b6) (x:=.int .i64 2) (y:=.slice (some ⟨hb,0,none⟩) 2 c) (z:=.slice (some ⟨g2,0,none⟩) 2 c2) (v:=.int .i64 0) rfl ?_ rfl) rfl ⟨_,c2,rfl,fun w2 hk2=>?_,?_⟩
     ·(repeat first|rw [if_pos (by omega)]|rw [if_neg (by omega)]|rw [hDR]|rw [hDN]|rw [hAz]|rw [hSz]|rw [hAC]|rw [hSC]|rw [oMS]|rw [uPC]|rw [lSZ]|rw [lSS]|rfl)
      rw [G']
      (repeat first|rw [if_pos (by omega)]|rw [if_neg (by omega)]|rw [hDR]|rw [hDN]|rw [hAz]|rw [hSz]|rw [hAC]|rw [hSC]|rw [oMS]|rw [uPC]|rw [lSZ]|rw [lSS]|rfl)
     ·have hk1:∀ y,W.heap.size≤y→y<wr.heap.size→w2.heap[y]?=wr.heap[y]?:=fun y hy hy2=>by
       have h1:=HREF.out
       have h2:=HW6.out
       have h3:y≠b6:=by omega
       exact (hk2 y (by omega) (by simp;exact hy2)).trans (by (repeat first|rw [if_pos (by omega)]|rw [if_neg (by omega)]|rw [hDR]|rw [hDN]|rw [hAz]|rw [hSz]|rw [hAC]|rw [hSC]|rw [oMS]|rw [uPC]|rw [lSZ]|rw [lSS]|rfl))
      refine⟨[.slice va 2 vc,.slice ua 2 uc],Reads.of_owns (base:=B2) (e:=91) (oOB HO.out fun y hy=>hk1 y (by have:=owns_ge HO.out hy;omega) (oLT HO.out hy)),fun i x hx=>?_⟩
      rcases i with _|_|i
      ·obtain rfl:=Option.some.inj hx
       exact⟨_,rfl,Reads.keep HI.out fun x hx hlt=>hk1 x (by have:=HV0.out x hx;omega) hlt⟩
      ·obtain rfl:=Option.some.inj hx
       exact⟨_,rfl,Reads.keep HI2.out fun x hx hlt=>hk1 x (by have:=HUU.out x hx;omega) hlt⟩
      ·simp [rightNodes] at hx
     ·have h1:=HREF.out
      have h2:Fr [] w wr:=HW.out.trans HFF.out fun x hx=>.inr (by have:=HSZ.out;simp at hx;rcases hx with rfl|rfl<;>omega)
      (repeat first|exact Fr.refl _ _|assumption|apply Fr.n|apply Fr.d|apply Fr.a|refine Fr.s ?_ (.inr (by simp;try omega)) _)
end Go.Proofs.Ytppmnmheodimoaa
end
section
namespace Go.Proofs.Ytppmnmheodimoaa
open Go Go.RowKit Rg Hp Bn
def u32s (l:List Nat):List Value:=l.map fun (n:Nat)=>Value.int .u32 n
theorem u32s_get {l:List Nat} {i:Nat} (h:i<l.length):(u32s l)[i]?=some (.int .u32 (l.getD i 0:Nat)):=by
 rw [u32s,List.getElem?_map,List.getElem?_eq_getElem h,List.getD_eq_getElem?_getD,List.getElem?_eq_getElem h];rfl
theorem Reads.take {w:World} {a:Option Addr} {n c k:Nat} {xs:List Value} (h:Reads w (.slice a n c) n 1 xs) (hk:k≤n):Reads w (.slice a k c) k 1 (xs.take k):=by
 obtain⟨h1,a',c',he,h2⟩:=h
 cases he
 refine⟨by rw [List.length_take,h1];omega,_,_,rfl,fun hn=>?_⟩
 obtain⟨g,off,rfl,hg,hc⟩:=h2 (by omega)
 refine⟨g,off,rfl,hg,fun j u hj=>hc j u ?_⟩
 rw [List.getElem?_take] at hj
 split at hj
 ·exact hj
 ·cases hj
def RightB (neg:Bool) (ds:List Nat):Bool:=if ds.length=0 then !neg else decide (ds.length≤64∧ds.getD (ds.length - 1) 0≠0)
def mkN (neg:Bool) (V:Nat):Bool×List Nat×Int:=if V=0 then (false,[],0) else if V<4294967296 ^ 64 then (neg,dg 4294967296 V,0) else (false,[],6)
def BigPost (w:World) (A:Nat→Prop) (r:Bool×List Nat×Int) (e:Ending) (w':World):Prop :=
 ∃ a c,(r.2.1.length≤c∧∀ g,(Value.slice a r.2.1.length c).ownBlock=some g→A g)∧e=.returned (.tuple #[.agg #[.bool r.1,.slice a r.2.1.length c],.int .i64 r.2.2])∧Reads w' (.slice a r.2.1.length c) r.2.1.length 1 (u32s r.2.1)∧Fr [] w w'
theorem own_len (a:Option Addr) (n m c d:Nat):(Value.slice a n c).ownBlock=(Value.slice a m d).ownBlock:=by
 cases a with
 | none=>rfl
 | some ad=>rfl
theorem reads_nil (w:World):Reads w (.slice none 0 0) 0 1 []:=⟨rfl,none,0,rfl,fun h=>absurd h (by omega)⟩
end Go.Proofs.Ytppmnmheodimoaa
namespace Go.Proofs.Bn
open Go Go.RowKit Hp
end Go.Proofs.Bn
namespace Go.Proofs.Ytppmnmheodimoaa
open Go Go.RowKit Rg Hp Bn
theorem wrap_u64 (n:Int):IntKind.u64.wrap n=n % 18446744073709551616:=by simp [IntKind.wrap,IntKind.bits,IntKind.signed]
def cmpN (a b:Nat):Int:=if a<b then -1 else if b<a then 1 else 0
end Go.Proofs.Ytppmnmheodimoaa
namespace Go.Proofs.Bn
open Go Go.RowKit Hp
end Go.Proofs.Bn
namespace Go.Proofs.Ytppmnmheodimoaa
open Go Go.RowKit Rg Hp Bn
theorem right_canon {neg:Bool} {ds:List Nat} (h:RightB neg ds=true):Canon ds∧ds.length≤64∧(ds=[]→neg=false):=by
 unfold RightB at h
 by_cases h0:ds.length=0
 ·rw [if_pos h0] at h
  obtain rfl:=List.eq_nil_of_length_eq_zero h0
  exact⟨by decide,by simp,fun _=>by simpa using h⟩
 ·rw [if_neg h0] at h
  simp only [decide_eq_true_eq] at h
  refine⟨?_,h.1,fun e=>absurd (by rw [e];rfl) h0⟩
  unfold Canon
  rw [List.getLast?_eq_getElem?,List.getElem?_eq_getElem (by omega)]
  intro e
  apply h.2
  rw [List.getD_eq_getElem?_getD,List.getElem?_eq_getElem (by omega)]
  exact Option.some.inj e
def addS (na:Bool) (da:List Nat) (nb:Bool) (db:List Nat):Bool×List Nat×Int :=
 if (RightB na da && RightB nb db)=false then (false,[],2) else if na=nb then mkN na (val 4294967296 da+val 4294967296 db)
 else if val 4294967296 da<val 4294967296 db then mkN nb (val 4294967296 db - val 4294967296 da) else mkN na (val 4294967296 da - val 4294967296 db)
theorem BigPost.mono {w w':World} {A A':Nat→Prop} {r:Bool×List Nat×Int} {e:Ending} (h:BigPost w A r e w') (hl:∀ g,A g→A' g):BigPost w A' r e w':=by
 obtain⟨a,c,h1,h2⟩:=h
 exact⟨a,c,⟨h1.1,fun g hg=>hl g (h1.2 g hg)⟩,h2⟩
def cmpS (na:Bool) (da:List Nat) (nb:Bool) (db:List Nat):Int :=
 if (RightB na da && RightB nb db)=false then 0 else if na=nb then (if na then cmpN (val 4294967296 db) (val 4294967296 da) else cmpN (val 4294967296 da) (val 4294967296 db)) else if na then -1 else 1
def BigPost1 (w:World) (A:Nat→Prop) (r:Bool×List Nat×Int) (e:Ending) (w':World):Prop :=
 ∃ a c,(r.2.1.length≤c∧∀ g,(Value.slice a r.2.1.length c).ownBlock=some g→A g)∧e=.returned (.agg #[.bool r.1,.slice a r.2.1.length c])∧Reads w' (.slice a r.2.1.length c) r.2.1.length 1 (u32s r.2.1)∧Fr [] w w'
def negS (na:Bool) (da:List Nat):Bool×List Nat×Int:=if RightB na da=false then (false,[],0) else mkN (!na) (val 4294967296 da)
theorem frcell {w w':World} (h:Fr [] w w'):(∀ b o,b<w.heap.size→w'.cell? ⟨b,o,none⟩=w.cell? ⟨b,o,none⟩)∧(∀ b o,b<w.heap.size→w'.frozen? ⟨b,o,none⟩=w.frozen? ⟨b,o,none⟩) :=
 ⟨fun b o hb=>h.cell (p:=⟨b,o,none⟩) hb (by simp),fun b o hb=>h.frozen (p:=⟨b,o,none⟩) hb (by simp)⟩
theorem owns_cap {w:World} {base e size n:Nat} {a:Option Addr} {c:Nat} {xs:List Value} (h:w.ownsRow base e size (.slice a n c) n xs):n≤c:=by
 rcases h.2 with ⟨h1,h0⟩|⟨g,cap,cur,h1,_,_,h2,_⟩
 ·omega
 ·cases h1;exact h2
def fromS (n:Int):Bool×List Nat×Int:=mkN (decide (n<0)) n.natAbs
def downN (neg:Bool) (V m:Nat):Nat:=V / 2 ^ m+if neg && decide (V % 2 ^ m≠0) then 1 else 0
def shiftS (neg:Bool) (ds:List Nat) (k:Int):Bool×List Nat×Int :=
 if RightB neg ds=false then (false,[],2) else if ds.length=0 then (false,[],0)
 else if k<0 then mkN neg (downN neg (val 4294967296 ds) (if k < -4096 then 4096 else (-k).toNat))
 else if 2048<k then (false,[],6) else mkN neg (val 4294967296 ds*2 ^ k.toNat)
end Go.Proofs.Ytppmnmheodimoaa
namespace Go.Proofs.Bn
open Go Go.RowKit Hp
theorem low_high (P d:Nat):P*(d % 256)+P*256*(d / 256)=P*d:=by
 have h1:=Nat.mod_add_div d 256
 rw [Nat.mul_assoc,← Nat.mul_add,h1]
end Go.Proofs.Bn
namespace Go.Proofs.Ytppmnmheodimoaa
open Go Go.RowKit Rg Hp Bn
def i64s (l:List Nat):List Value:=l.map fun (n:Nat)=>Value.int .i64 n
theorem i64s_get {l:List Nat} {i:Nat} (h:i<l.length):(i64s l)[i]?=some (.int .i64 (l.getD i 0:Nat)):=by
 rw [i64s,List.getElem?_map,List.getElem?_eq_getElem h,List.getD_eq_getElem?_getD,List.getElem?_eq_getElem h];rfl
theorem i64s_snoc (l:List Nat) (d:Nat):i64s l++[.int .i64 d]=i64s (l++[d]):=by simp [i64s]
def ListPost (w:World) (A:Nat→Prop) (ds:List Nat) (e:Ending) (w':World):Prop :=
 ∃ a c,(ds.length≤c∧∀ g,(Value.slice a ds.length c).ownBlock=some g→A g)∧e=.returned (.slice a ds.length c)∧Reads w' (.slice a ds.length c) ds.length 1 (i64s ds)∧Fr [] w w'
theorem reads_trim' {w:World} {ds:List Nat} {a:Option Addr} {c:Nat} (hv:Reads w (.slice a ds.length c) ds.length 1 (i64s ds)) (hD:Dig 256 ds) (c':Nat) :
  Reads w (.slice a (dg 256 (val 256 ds)).length c') (dg 256 (val 256 ds)).length 1 (i64s (dg 256 (val 256 ds)))∧(dg 256 (val 256 ds)).length≤ds.length:=by
 obtain⟨k,hk,hkt⟩:=trimL_prefix (by omega:2≤256) ds.length rfl hD
 have hkl:(trimL 256 ds).length=k:=by rw [hkt,List.length_take,Nat.min_eq_left hk]
 have hr:=Reads.take hv hk
 have hu:(i64s ds).take k=i64s (dg 256 (val 256 ds)):=by rw [i64s,i64s,← List.map_take,← hkt];rfl
 rw [hu] at hr
 have e:(dg 256 (val 256 ds)).length=k:=hkl
 rw [e]
 obtain⟨h1,a',c2,he,h2⟩:=hr
 cases he
 exact⟨⟨h1,_,_,rfl,h2⟩,hk⟩
theorem bytes_step {B P vo x0 d2 V:Nat} (h:vo+P*d2=V+B*x0):vo+P*(d2 % 256)+P*256*(d2 / 256)=V+B*x0:=by
 have:=low_high P d2
 omega
theorem pow256 (i:Nat):256 ^ (4*i)=4294967296 ^ i:=by rw [Nat.pow_mul]
theorem two_mono {n m:Nat} (h:n≤m):2 ^ n≤2 ^ m:=Nat.pow_le_pow_right (by omega) h
theorem pow_two_le {n m:Nat} (h:32*n≤m):4294967296 ^ n≤2 ^ m:=by
 rw [show (4294967296:Nat)=2 ^ 32 from rfl,← Nat.pow_mul]
 exact two_mono h
theorem dg_len256 {V n k:Nat} (hn:n≤k) (h:V<4294967296 ^ n):(dg 256 V).length≤4*k:=by
 rw [dg_length_le (by omega),pow256]
 exact Nat.lt_of_lt_of_le h (Nat.pow_le_pow_right (by omega) hn)
end Go.Proofs.Ytppmnmheodimoaa
namespace Go.Proofs.Bn
open Go Go.RowKit Hp
theorem val_quad (T:List Nat) (i k:Nat) (hk:k<4):val 256 ((T.drop (i+k)).take (4 - k))=T.getD (i+k) 0+256*val 256 ((T.drop (i+(k+1))).take (4 - (k+1))):=by
 have e:4 - k=(4 - (k+1))+1:=by omega
 by_cases h:i+k<T.length
 ·rw [List.drop_eq_getElem_cons h,e,List.take_succ_cons,val,List.getD_eq_getElem?_getD,List.getElem?_eq_getElem h];rfl
 ·rw [List.drop_eq_nil_of_le (by omega),List.drop_eq_nil_of_le (by omega),List.getD_eq_getElem?_getD,List.getElem?_eq_none (by omega)]
  simp [val]
theorem val_take4 (T:List Nat) (i:Nat) (h:i≤T.length):val 256 (T.take (i+4))=val 256 (T.take i)+256 ^ i*val 256 ((T.drop i).take 4):=by
 rw [List.take_add,val_append,List.length_take,Nat.min_eq_left h]
end Go.Proofs.Bn
namespace Go.Proofs.Ytppmnmheodimoaa
open Go Go.RowKit Rg Hp Bn
def ListVal (w:World) (A:Nat→Prop) (V n:Nat) (e:Ending) (w':World):Prop:=∃ L,Dig 256 L∧val 256 L=V∧L.length≤n∧ListPost w A L e w'
end Go.Proofs.Ytppmnmheodimoaa
namespace Go.Proofs.Bn
open Go Go.RowKit Hp
theorem val_chunk (B m:Nat) (T:List Nat) (i k:Nat) (hk:k<m):val B ((T.drop (i+k)).take (m - k))=T.getD (i+k) 0+B*val B ((T.drop (i+(k+1))).take (m - (k+1))):=by
 have e:m - k=(m - (k+1))+1:=by omega
 by_cases h:i+k<T.length
 ·rw [List.drop_eq_getElem_cons h,e,List.take_succ_cons,val,List.getD_eq_getElem?_getD,List.getElem?_eq_getElem h];rfl
 ·rw [List.drop_eq_nil_of_le (by omega),List.drop_eq_nil_of_le (by omega),List.getD_eq_getElem?_getD,List.getElem?_eq_none (by omega)]
  simp [val]
theorem val_takeN (B m:Nat) (T:List Nat) (i:Nat) (h:i≤T.length):val B (T.take (i+m))=val B (T.take i)+B ^ i*val B ((T.drop i).take m):=by
 rw [List.take_add,val_append,List.length_take,Nat.min_eq_left h]
theorem bit_val {ds:List Nat} (hD:Dig 256 ds) (k:Nat):ds.getD (k / 8) 0 / 2 ^ (k % 8) % 2=val 256 ds / 2 ^ k % 2:=by
 have h1:=val_digit hD (by omega) (k / 8)
 have h2:2 ^ k=256 ^ (k / 8)*2 ^ (k % 8):=by
  rw [show 256=2 ^ 8 from rfl,← Nat.pow_mul,← Nat.pow_add];congr 1;omega
 rw [h2,← Nat.div_div_eq_div_mul,← h1]
 generalize val 256 ds / 256 ^ (k / 8)=N
 have hr:k % 8<8:=Nat.mod_lt _ (by omega)
 generalize k % 8=r at *
 have h3:N=N % 256+256*(N / 256):=(Nat.mod_add_div N 256).symm
 have h4:256*(N / 256)=2 ^ r*(2*(2 ^ (7 - r)*(N / 256))):=by
  rw [← Nat.mul_assoc 2,← Nat.mul_assoc (2 ^ r)]
  congr 1
  rw [← Nat.pow_succ',← Nat.pow_add,show r+(7 - r).succ=8 by omega]
 conv=>rhs;rw [h3,h4,Nat.add_mul_div_left _ _ (Nat.pow_pos (by omega)),Nat.add_mul_mod_self_left]
end Go.Proofs.Bn
namespace Go.Proofs.Ytppmnmheodimoaa
open Go Go.RowKit Rg Hp Bn
theorem i64s_snoc0 (l:List Nat):i64s l++[.int .i64 0]=i64s (l++[0]):=i64s_snoc l 0
end Go.Proofs.Ytppmnmheodimoaa
namespace Go.Proofs.Bn
open Go Go.RowKit Hp
theorem mod_step (V i:Nat):V % 2 ^ (i+1)=V % 2 ^ i+2 ^ i*(V / 2 ^ i % 2):=by
 rw [Nat.pow_succ,Nat.mod_mul]
theorem drop_step {V i m:Nat} (h:m≤i):V % 2 ^ (i+1) / 2 ^ m=V % 2 ^ i / 2 ^ m+2 ^ (i - m)*(V / 2 ^ i % 2):=by
 rw [mod_step]
 have e:2 ^ i*(V / 2 ^ i % 2)=2 ^ m*(2 ^ (i - m)*(V / 2 ^ i % 2)):=by
  rw [← Nat.mul_assoc,← Nat.pow_add,show m+(i - m)=i by omega]
 rw [e,Nat.add_mul_div_left _ _ (Nat.pow_pos (by omega))]
theorem lost_step {V i:Nat}:(V % 2 ^ (i+1)≠0)↔(V % 2 ^ i≠0∨V / 2 ^ i % 2=1):=by
 rw [mod_step]
 have hp:=Nat.pow_pos (n:=i) (show 0<2 by omega)
 have hb:V / 2 ^ i % 2<2:=Nat.mod_lt _ (by omega)
 generalize V / 2 ^ i % 2=b at *
 rcases (show b=0∨b=1 by omega) with rfl|rfl
 ·simp
 ·first|(simp;done)|(simp;omega)
end Go.Proofs.Bn
namespace Go.Proofs.Ytppmnmheodimoaa
open Go Go.RowKit Rg Hp Bn
def shV (neg:Bool) (V p m:Nat):Nat:=2 ^ p*(V / 2 ^ m)+if neg && decide (V % 2 ^ m≠0) then 1 else 0
theorem down_big {neg:Bool} {V m M:Nat} (hV:V<2 ^ M) (hm:M≤m):downN neg V m=downN neg V M:=by
 unfold downN
 have h2:V<2 ^ m:=Nat.lt_of_lt_of_le hV (Nat.pow_le_pow_right (by omega) hm)
 rw [Nat.div_eq_of_lt hV,Nat.div_eq_of_lt h2,Nat.mod_eq_of_lt hV,Nat.mod_eq_of_lt h2]
theorem big_256 {i k x a b c:Nat} (h1:i≤a) (h2:k≤b) (h3:x<2 ^ k) (h4:a+b≤8*c:=by decide):2 ^ i*x<256 ^ c:=by
 have h5:2 ^ i*x<2 ^ a*2 ^ b:=Nat.lt_of_le_of_lt (Nat.mul_le_mul (two_mono h1) (Nat.le_refl _)) (Nat.mul_lt_mul_of_pos_left (Nat.lt_of_lt_of_le h3 (two_mono h2)) (Nat.pow_pos (by omega)))
 rw [← Nat.pow_add] at h5
 refine Nat.lt_of_lt_of_le h5 ?_
 rw [show 256=2 ^ 8 from rfl,← Nat.pow_mul]
 exact two_mono h4
theorem u32s_snoc (l:List Nat) (d:Nat):u32s l++[.int .u32 d]=u32s (l++[d]):=by simp [u32s]
end Go.Proofs.Ytppmnmheodimoaa
end
section
namespace Go.Proofs.Ytppmnmheodimoaa
open Go Go.RowKit Rg Hp Bn
theorem dg_of {B:Nat} (hB:2≤B) {V:Nat} (l:List Nat) (hV:val B l=V) (hD:Dig B l) (hC:Canon l):dg B V=l:=by rw [← hV];exact dg_val hB hD hC
theorem mkN_of {neg:Bool} {V:Nat} (l:List Nat) (hV:val 4294967296 l=V) (hD:Dig 4294967296 l) (hC:Canon l) (h0:V≠0) (hl:l.length≤64):mkN neg V=(neg,l,0):=by
 unfold mkN
 rw [if_neg h0,if_pos,dg_of (by omega) l hV hD hC]
 rw [← hV]
 exact Nat.lt_of_lt_of_le (val_lt hD) (Nat.pow_le_pow_right (by omega) hl)
theorem right_of_canon {neg:Bool} {ds:List Nat} (hC:Canon ds) (hl:ds.length≤64) (hn:ds=[]→neg=false):RightB neg ds=true:=by
 unfold RightB
 by_cases h0:ds.length=0
 ·rw [if_pos h0,hn (List.eq_nil_of_length_eq_zero h0)];rfl
 ·rw [if_neg h0,decide_eq_true_eq]
  refine⟨hl,fun e=>hC ?_⟩
  rw [List.getLast?_eq_getElem?,List.getElem?_eq_getElem (by omega)]
  rw [List.getD_eq_getElem?_getD,List.getElem?_eq_getElem (by omega)] at e
  exact congrArg some e
theorem mkN_right {neg:Bool} {ds:List Nat} (hR:RightB neg ds=true) (hD:Dig 4294967296 ds):mkN neg (val 4294967296 ds)=(neg,ds,0):=by
 obtain⟨hC,hl,hn⟩:=right_canon hR
 by_cases h0:val 4294967296 ds=0
 ·have:ds=[]:=by
   rcases Nat.eq_zero_or_pos ds.length with h|h
   ·exact List.eq_nil_of_length_eq_zero h
   ·have:=canon_pos (B:=4294967296) (by omega) hC (by intro e;rw [e] at h;simp at h);omega
  subst this
  unfold mkN
  rw [if_pos h0,hn rfl]
 ·exact mkN_of ds rfl hD hC h0 hl
theorem mkN_zero (neg:Bool):mkN neg 0=(false,[],0):=by unfold mkN;rw [if_pos rfl]
theorem val_right_lt {neg:Bool} {ds:List Nat} (hR:RightB neg ds=true) (hD:Dig 4294967296 ds):val 4294967296 ds<4294967296 ^ 64 :=
 Nat.lt_of_lt_of_le (val_lt hD) (Nat.pow_le_pow_right (by omega) (right_canon hR).2.1)
def sgn (neg:Bool) (V:Nat):Int:=if neg then -(V:Int) else V
def mkI (z:Int):Bool×List Nat×Int:=mkN (decide (z<0)) z.natAbs
theorem sgn_abs (neg:Bool) (V:Nat):(sgn neg V).natAbs=V:=by unfold sgn;cases neg<;>simp
theorem sgn_neg {neg:Bool} {V:Nat} (h:V≠0):decide (sgn neg V<0)=neg:=by
 unfold sgn
 cases neg
 ·simp
 ·simp;omega
theorem mkN_mkI (neg:Bool) (V:Nat):mkN neg V=mkI (sgn neg V):=by
 by_cases h:V=0
 ·subst h
  unfold mkI
  rw [sgn_abs,mkN_zero,mkN_zero]
 ·unfold mkI
  rw [sgn_abs,sgn_neg h]
def sv (neg:Bool) (ds:List Nat):Int:=sgn neg (val 4294967296 ds)
theorem mkI_sv {neg:Bool} {ds:List Nat} (hR:RightB neg ds=true) (hD:Dig 4294967296 ds):mkI (sv neg ds)=(neg,ds,0):=by
 unfold sv
 rw [← mkN_mkI]
 exact mkN_right hR hD
theorem addS_sv {na nb:Bool} {da db:List Nat} (ha:RightB na da=true) (hb:RightB nb db=true):addS na da nb db=mkI (sv na da+sv nb db):=by
 unfold addS sv
 rw [ha,hb,if_neg (by decide)]
 generalize val 4294967296 da=Va
 generalize val 4294967296 db=Vb
 by_cases h:na=nb
 ·subst h
  rw [if_pos rfl,mkN_mkI]
  congr 1
  unfold sgn
  cases na<;>simp<;>omega
 ·rw [if_neg h]
  split
  ·rename_i hl
   rw [mkN_mkI]
   congr 1
   unfold sgn
   cases na<;>cases nb<;>simp at h ⊢<;>omega
  ·rename_i hl
   rw [mkN_mkI]
   congr 1
   unfold sgn
   cases na<;>cases nb<;>simp at h ⊢<;>omega
end Go.Proofs.Ytppmnmheodimoaa
end
