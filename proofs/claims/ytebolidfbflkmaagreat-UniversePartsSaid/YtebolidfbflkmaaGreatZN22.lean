/- Own texts of this claim, part 23: no condition. -/
import Derived.Deep.DeepCutAuto
import Derived.Test.YtebolidfbflkmaaGreatZN20
import Derived.Test.YtebolidfbflkmaaGreatZN21
set_option linter.unusedVariables false
set_option linter.unusedSimpArgs false
set_option maxHeartbeats 16000000
set_option maxRecDepth 100000
section
namespace Go.Proofs.YtebolidfbflkmaaGreat
open Go Go.RowKit Rg Hp Ev
theorem ret_bool' {a b:Bool} (h:a=b):Ending.returned (.bool a)=Ending.returned (.bool b):=by rw [h]
theorem hoodAt_zero {l:List (Int×Int)} {x y:Int} (h:l[0]?=some (x,y)):hoodAt l 0=decide (-2≤x∧x≤2∧-2≤y∧y≤2):=by unfold hoodAt near2;rw [List.getD_eq_getElem?_getD,h];simp
theorem hoodAt_succ {l:List (Int×Int)} {k:Nat} {x y:Int} {q:Int×Int} (h:l[k+1]?=some (x,y)) (h':l[k]?=some q):hoodAt l (k+1)=(decide (-2≤x∧x≤2∧-2≤y∧y≤2) && before q (x,y)):=by unfold hoodAt near2;rw [List.getD_eq_getElem?_getD,h,Nat.add_sub_cancel,List.getD_eq_getElem?_getD,h'];simp
theorem hoodR_false {l:List (Int×Int)} {k:Nat} (hk:k<l.length) (h:hoodAt l k=false):hoodR l=false:=by
 unfold hoodR;have:(List.range l.length).all (hoodAt l)=false:=by rw [List.all_eq_false];exact⟨k,List.mem_range.2 hk,by rw [h];simp⟩
 rw [this,Bool.and_false]
theorem hoodR_true {l:List (Int×Int)} (h1:1≤l.length) (h2:l.length≤25) (h:∀ k,k<l.length→hoodAt l k=true):hoodR l=true:=by unfold hoodR;rw [decide_eq_true h1,decide_eq_true h2,Bool.true_and,Bool.true_and,List.all_eq_true];exact fun k hk=>h k (List.mem_range.1 hk)
theorem hoodR_len {l:List (Int×Int)} (h:¬ (1≤l.length∧l.length≤25)):hoodR l=false:=by
 unfold hoodR;by_cases h1:1≤l.length;·rw [decide_eq_false (show ¬ l.length≤25 from fun h2=>h ⟨h1,h2⟩),Bool.and_false,Bool.false_and]
 ·rw [decide_eq_false h1,Bool.false_and,Bool.false_and]
theorem HRight_calls {w:World} {l:List (Int×Int)} {a:Option Addr} {c:Nat} (hl:PtsAt w (.slice a l.length c) l) (hlen:l.length≤1000000) :
  Calls Tryz.prog 122 #[.slice a l.length c] w fun e w'=>e=.returned (.bool (hoodR l))∧Fr [] w w':=by
 have Hl:=q_ hl;clear hl;by_cases h1:1≤l.length∧l.length≤25;·
  obtain⟨h1,h2⟩:=h1;go_enter Tryz.func122,Tryz.ntmps122;go_wp2;go_loopw [15] (fun x wr=>∃ k:Nat,x=.int .i64 k∧k≤l.length∧(∀ j,j<k→hoodAt l j=true)∧Fr [] w wr) (fun x _=>l.length - (intOf x).toNat);case atStart=>exact⟨0,rfl,o_,o_,Fr.refl _ _⟩
  case round =>
   obtain⟨k,rfl,hk,hn,hf⟩:=hrel;have Hk:=q_ hn;have Hf:=q_ hf;clear hn hf;by_cases hlt:k<l.length;·
    obtain⟨⟨x,y⟩,hp⟩:∃ p,l[k]?=some p:=⟨_,List.getElem?_eq_getElem hlt⟩;obtain⟨g,off,rfl,hg,e0,e1⟩:=(Hl.out.fr Hf.out).cell hp;simp only at e0 e1;cases k with
    | zero =>
     have HA:=q_ (hoodAt_zero hp);clear hp;simp only [Nat.zero_mul,Nat.add_zero] at e0 e1;go_wp2;(refine wT ?_);go_wp2;all_goals
      refine sT_ rfl ?_;go_wp2;first
       | (go_ret;exact⟨ret_bool' (hoodR_false hlt (HA.out.trans (by simp;try omega))).symm,by first|(have:=Hf.out;(repeat first|exact Fr.refl _ _|assumption|apply Fr.n|apply Fr.d|apply Fr.a|refine Fr.s ?_ (.inr (by simp;try omega)) _);done)|exact Fr.trans0 (by have:=Hf.out;exact Fr.t) Hf1.out⟩)
       | (
        go_roundw
        case rel =>
         refine⟨0+1,by go_num,o_,fun j hj=>?_,by first|(have:=Hf.out;(repeat first|exact Fr.refl _ _|assumption|apply Fr.n|apply Fr.d|apply Fr.a|refine Fr.s ?_ (.inr (by simp;try omega)) _);done)|exact Fr.trans0 (by have:=Hf.out;exact Fr.t) Hf1.out⟩
         rcases Nat.lt_or_ge j (0) with h|h
         ·exact Hk.out j h
         ·obtain rfl:j=0:=o_
          exact HA.out.trans (by simp;try omega)
        case measure=>simp [intOf];omega)
    | succ k =>
     obtain⟨⟨u,v⟩,hq⟩:∃ p,l[k]?=some p:=⟨_,List.getElem?_eq_getElem o_⟩;obtain⟨g',off',he,_,e2,e3⟩:=(Hl.out.fr Hf.out).cell hq;cases he;simp only at e2 e3;have ha:=hoodAt_succ hp hq;have hb:=cmpP_before (u,v) (x,y);have hc:=fun w=>cmpP_calls (p:=(u,v)) (q:=(x,y)) (w:=w);simp only at hc;generalize cmpP (u,v) (x,y)=z at hb hc;generalize before (u,v) (x,y)=b at ha hb;have HA:=q_ ha;have HC:=q_ hc;clear hp hq ha hc;have hd:decide (0≤z)=!b:=hb;clear hb;cases b;all_goals
      simp only [Bool.not_false,Bool.not_true] at hd;go_wp2;(refine wT ?_);go_wp2_with (refine (HC.out _).mono ?_;rintro e w1 ⟨rfl,hf⟩;have Hf1:=q_ hf;clear hf);all_goals
       refine sT_ rfl ?_;go_wp2;first
        | (go_ret;exact⟨ret_bool' (hoodR_false hlt (HA.out.trans (by simp;try omega))).symm,by first|(have:=Hf.out;(repeat first|exact Fr.refl _ _|assumption|apply Fr.n|apply Fr.d|apply Fr.a|refine Fr.s ?_ (.inr (by simp;try omega)) _);done)|exact Fr.trans0 (by have:=Hf.out;exact Fr.t) Hf1.out⟩)
        | (
         go_roundw
         case rel =>
          refine⟨(k+1)+1,by go_num,o_,fun j hj=>?_,by first|(have:=Hf.out;(repeat first|exact Fr.refl _ _|assumption|apply Fr.n|apply Fr.d|apply Fr.a|refine Fr.s ?_ (.inr (by simp;try omega)) _);done)|exact Fr.trans0 (by have:=Hf.out;exact Fr.t) Hf1.out⟩
          rcases Nat.lt_or_ge j ((k+1)) with h|h
          ·exact Hk.out j h
          ·obtain rfl:j=(k+1):=o_
           exact HA.out.trans (by simp;try omega)
         case measure=>simp [intOf];omega)
   ·obtain rfl:k=l.length:=o_;go_wp2;go_ret;exact⟨ret_bool' (hoodR_true h1 h2 Hk.out).symm,Hf.out⟩
 ·rw [hoodR_len h1];have h2:l.length=0∨25<l.length:=o_
  clear h1;rcases h2 with h|h
  ·go_enter Tryz.func122,Tryz.ntmps122;go_wp2;go_ret;exact⟨rfl,Fr.t⟩
  ·go_enter Tryz.func122,Tryz.ntmps122;go_wp2;go_ret;exact⟨rfl,Fr.t⟩
theorem hood_near {l:List (Int×Int)} (h:hoodR l=true) {k:Nat} {p:Int×Int} (hk:l[k]?=some p):-2≤p.1∧p.1≤2∧-2≤p.2∧p.2≤2:=by have h1:=hood_in h (List.mem_of_getElem? hk);have h2:=radius_le l;omega
theorem foldl_take_succ {l:List (Int×Int)} {k:Nat} {p:Int×Int} (hk:l[k]?=some p) (r:Int):(l.take (k+1)).foldl radMax r=radMax ((l.take k).foldl radMax r) p:=by rw [List.take_add_one,hk];simp
theorem fold_rad2 {l:List (Int×Int)} (h:hoodR l=true) (k:Nat):0≤(l.take k).foldl radMax 0∧(l.take k).foldl radMax 0≤2:=by refine⟨(fold_rad _ 0).1,fold_rad_le _ 0 2 o_ fun p hp=>?_⟩;have h1:=hood_in h (List.mem_of_mem_take hp);have h2:=radius_le l;omega
theorem radius_true {l:List (Int×Int)} (h:hoodR l=true):radius l=l.foldl radMax 0:=by unfold radius;rw [if_pos h]
theorem radius_false {l:List (Int×Int)} (h:hoodR l=false):radius l=0:=by unfold radius;rw [h];rfl
theorem lt_fold (a b:Int):(if a<b then b else a)=max a b:=o_
theorem run_max5 (r x y:Int) (w:World):(Builtin.max_ #[3,3,3,3,3] 3 #[.int .i64 r,.int .i64 x,.int .i64 (-x),.int .i64 y,.int .i64 (-y)]).run Tryz.prog w=.ok (.int .i64 (radMax r (x,y))) w:=by unfold Builtin.max_;simp [Builtin.max2];simp only [lt_fold];rfl
theorem HRadius_calls {w:World} {l:List (Int×Int)} {a:Option Addr} {c:Nat} (hl:PtsAt w (.slice a l.length c) l) (hlen:l.length≤1000000) :
  Calls Tryz.prog 84 #[.slice a l.length c] w fun e w'=>e=.returned (.int .i64 (radius l))∧Fr [] w w':=by
 have hr:=fun w1 (hf:Fr [] w w1)=>HRight_calls (hl.fr hf) hlen;have HR:=q_ hr;have Hl:=q_ hl;clear hl hr;cases hR:hoodR l with
 | false =>have H:=q_ (radius_false hR);rw [hR] at HR;clear hR;go_enter Tryz.func84,Tryz.ntmps84;go_wp2_with fail;refine (HR.out _ (Fr.t)).mono ?_;rintro e w1 ⟨rfl,hf⟩;have Hf:=q_ hf;clear hf;go_wp2;go_ret;exact⟨ret_int' H.out.symm,Fr.trans0 (Fr.t) Hf.out⟩
 | true =>
  have H:=q_ (radius_true hR);have HF:=q_ (fold_rad2 hR);have HN:=q_ (fun k p (h:l[k]?=some p)=>hood_near hR h);rw [hR] at HR;clear hR;go_enter Tryz.func84,Tryz.ntmps84;go_wp2_with fail;refine (HR.out _ (Fr.t)).mono ?_;rintro e w1 ⟨rfl,hf⟩;have Hf:=q_ (Fr.trans0 (Fr.t:Fr [] w _) hf);clear hf;go_wp2;go_loopw [3,10] (fun r x wr=>∃ k:Nat,x=.int .i64 k∧k≤l.length∧r=.int .i64 ((l.take k).foldl radMax 0)∧Fr [] w wr) (fun _ x _=>l.length - (intOf x).toNat);case atStart=>exact⟨0,rfl,o_,rfl,Hf.out⟩
  case round =>
   clear Hf;obtain⟨k,rfl,hk,rfl,hf⟩:=hrel;have Hf:=q_ hf;clear hf;by_cases hlt:k<l.length;·
    obtain⟨⟨x,y⟩,hp⟩:∃ p,l[k]?=some p:=⟨_,List.getElem?_eq_getElem hlt⟩;obtain⟨g,off,rfl,hg,e0,e1⟩:=(Hl.out.fr Hf.out).cell hp;have HS:=q_ (foldl_take_succ hp 0);obtain⟨n1,n2,n3,n4⟩:=HN.out k _ hp;obtain⟨f1,f2⟩:=HF.out k;simp only at e0 e1 n1 n2 n3 n4;generalize (l.take k).foldl radMax 0=r at HS f1 f2 ⊢;clear hp;have hmx:=fun w=>run_max5 r x y w;obtain⟨r',hr'⟩:∃ r',radMax r (x,y)=r':=⟨_,rfl⟩;rw [hr'] at HS;simp only [hr'] at hmx;clear hr';go_wp2;go_roundw;case rel=>exact⟨k+1,by go_num,o_,by rw [HS.out],by have:=Hf.out;exact Fr.t⟩
    case measure=>simp [intOf];omega
   ·obtain rfl:k=l.length:=o_;have e:(l.take l.length).foldl radMax 0=radius l:=(by rw [List.take_length];exact H.out.symm);rw [e];clear e;go_wp2;go_ret;exact⟨rfl,Hf.out⟩
end Go.Proofs.YtebolidfbflkmaaGreat
end
section
namespace Go.Proofs.Ev
open Qs
theorem rightR_S {r:Rule} (h:¬ (2≤r.S∧r.S≤8)):rightR r=false:=by unfold rightR;rw [decide_eq_false h];simp
theorem rightR_hood {r:Rule} (h:hoodR r.hood=false):rightR r=false:=by unfold rightR;rw [h];simp
theorem rightR_len {r:Rule} (h:¬ (1≤r.nodes.length∧r.nodes.length≤4096)):rightR r=false:=by unfold rightR;rw [decide_eq_false h];simp
theorem rightR_root {r:Rule} (h:¬ levelAt r (r.nodes.length - 1:Int)=r.hood.length):rightR r=false:=by unfold rightR;rw [decide_eq_false h];simp
theorem rightR_node {r:Rule} {i:Nat} (hi:i<r.nodes.length) (h:nodeOK r i=false):rightR r=false:=by
 unfold rightR;have:(List.range r.nodes.length).all (nodeOK r)=false:=by rw [List.all_eq_false];exact⟨i,List.mem_range.2 hi,by rw [h];simp⟩
 rw [this,Bool.and_false]
theorem rightR_true {r:Rule} (h1:2≤r.S∧r.S≤8) (h2:hoodR r.hood=true) (h3:1≤r.nodes.length∧r.nodes.length≤4096) (h4:levelAt r (r.nodes.length - 1:Int)=r.hood.length) (h5:∀ i,i<r.nodes.length→nodeOK r i=true):rightR r=true:=by unfold rightR;rw [decide_eq_true h1,h2,decide_eq_true h3,decide_eq_true h4,Bool.true_and,Bool.true_and,Bool.true_and,Bool.true_and,List.all_eq_true];exact fun i hi=>h5 i (List.mem_range.1 hi)
theorem levelAt_of {r:Rule} {i:Nat} {x:Int×List Int} (hx:r.nodes[i]?=some x):levelAt r i=x.1:=by unfold levelAt;rw [Int.toNat_natCast,List.getD_eq_getElem?_getD,hx];rfl
theorem levelAt_last {r:Rule} {x:Int×List Int} (h:1≤r.nodes.length) (hx:r.nodes[r.nodes.length - 1]?=some x):levelAt r (r.nodes.length - 1:Int)=x.1:=by rw [show ((r.nodes.length:Int) - 1)=((r.nodes.length - 1:Nat):Int) by omega];exact levelAt_of hx
theorem nodeOK_eq {r:Rule} {i:Nat} {x:Int×List Int} (hx:r.nodes[i]?=some x):nodeOK r i=(decide (1≤x.1∧x.1≤r.hood.length∧((x.2.length:Nat):Int)=r.S) && x.2.all (entOK r x.1 i)):=by unfold nodeOK;rw [List.getD_eq_getElem?_getD,hx];rfl
theorem all_false {α:Type} {l:List α} {f:α→Bool} {i:Nat} {x:α} (hx:l[i]?=some x) (h:f x=false):l.all f=false:=by rw [List.all_eq_false];exact⟨x,List.mem_of_getElem? hx,by rw [h];simp⟩
theorem all_true {α:Type} {l:List α} {f:α→Bool} (h:∀ i x,l[i]?=some x→i<l.length→f x=true):l.all f=true:=by rw [List.all_eq_true];intro x hx;obtain⟨i,hi,rfl⟩:=List.mem_iff_getElem.1 hx;exact h i _ (List.getElem?_eq_getElem hi) hi
theorem entOK_neg {r:Rule} {lv:Int} {i:Nat} {k:Int} (h:k<0):entOK r lv i k=false:=by unfold entOK;rw [decide_eq_false o_];simp
theorem entOK_one {r:Rule} {lv:Int} {i:Nat} {k:Int} (h:0≤k) (h1:lv=1):entOK r lv i k=decide (k<r.S):=by unfold entOK;rw [decide_eq_true h,if_pos h1,if_neg o_];simp
theorem entOK_more {r:Rule} {lv:Int} {i:Nat} {k:Int} (h:0≤k) (h1:1<lv):entOK r lv i k=decide (k<i∧levelAt r k=lv - 1):=by unfold entOK;rw [decide_eq_true h,if_pos h1,if_neg o_];simp
end Go.Proofs.Ev
namespace Go.Proofs.YtebolidfbflkmaaGreat
open Go Go.RowKit Rg Hp Ev
theorem TRight_calls {w:World} {r:Rule} {ha na:Option Addr} {hc nc:Nat} (hr:RuleAt w (.slice ha r.hood.length hc) (.slice na r.nodes.length nc) r) (hlh:r.hood.length≤1000000) (hln:r.nodes.length≤1000000) :
  Calls Tryz.prog 80 #[.agg #[.int .i64 r.S,.slice ha r.hood.length hc,.slice na r.nodes.length nc]] w fun e w'=>e=.returned (.bool (rightR r))∧Fr [] w w':=by
 have hh:=fun w1 (hf:Fr [] w w1)=>HRight_calls (hr.1.fr hf) hlh;have HH:=q_ hh;have Hr:=q_ hr.2;clear hh hr;by_cases hS:2≤r.S∧r.S≤8;·
  obtain⟨hs1,hs2⟩:=hS;cases hH:hoodR r.hood with
  | false =>
   have HN:=q_ (rightR_hood hH);rw [hH] at HH;clear hH;go_enter Tryz.func80,Tryz.ntmps80;go_wp2;(refine wT ?_);go_wp2_with fail;refine (HH.out _ (Fr.t)).mono ?_;rintro e w1 ⟨rfl,hf⟩;have hb_:=(hf.block (w.heap.size) (by first|(simp;done)|(simp;omega)) i_).trans (show _=some (.cells #[.int .i64 r.S,.slice ha r.hood.length hc,.slice na r.nodes.length nc] 25 (0,0)) from hpT);obtain⟨b0,b1,b2,bl⟩:=l3_ hb_;have Hb:=q_ hb_;clear hb_;have Hf:=q_ (Fr.trans0 (Fr.t:Fr [] w _) hf);clear hf;go_wp2;all_goals
    refine sT_ rfl ?_;go_wp2;go_ret;exact⟨ret_bool' HN.out.symm,by first|((repeat first|exact Fr.refl _ _|assumption|apply Fr.n|apply Fr.d|apply Fr.a|refine Fr.s ?_ (.inr (by simp;try omega)) _);done)|(have:=Hf.out;(repeat first|exact Fr.refl _ _|assumption|apply Fr.n|apply Fr.d|apply Fr.a|refine Fr.s ?_ (.inr (by simp;try omega)) _);done)⟩
  | true =>
   rw [hH] at HH;have HHT:=q_ hH;clear hH;by_cases hn:1≤r.nodes.length∧r.nodes.length≤4096;·
    obtain⟨hn1,hn2⟩:=hn;obtain⟨⟨lv,nx⟩,hx⟩:∃ x,r.nodes[r.nodes.length - 1]?=some x:=⟨_,List.getElem?_eq_getElem o_⟩;have hroot:=levelAt_last hn1 hx;obtain⟨m,hm⟩:∃ m,r.nodes.length - 1=m:=⟨_,rfl⟩;have hm':(r.nodes.length:Int) - 1=m:=o_;rw [hm] at hx;by_cases hl:lv=r.hood.length;·
     have hlb:(lv != (r.hood.length:Int))=false:=(by simp [hl]);have HRT:=q_ (hroot.trans hl);clear hroot;go_enter Tryz.func80,Tryz.ntmps80;go_wp2;(refine wT ?_);go_wp2_with fail;refine (HH.out _ (Fr.t)).mono ?_;rintro e w1 ⟨rfl,hf⟩;have hb_:=(hf.block (w.heap.size) (by first|(simp;done)|(simp;omega)) i_).trans (show _=some (.cells #[.int .i64 r.S,.slice ha r.hood.length hc,.slice na r.nodes.length nc] 25 (0,0)) from hpT);obtain⟨b0,b1,b2,bl⟩:=l3_ hb_;have Hb:=q_ hb_;clear hb_;have Hf:=q_ (Fr.trans0 (Fr.t:Fr [] w _) hf);clear hf;obtain⟨g,off,ra,rc,rfl,hg,e0,_,_⟩:=(Hr.out.fr Hf.out).node hx;simp only at e0;have HX:=q_ hx;have HL:=q_ hl;clear hx hl;go_wp2;refine sT_ rfl ?_;go_wp2;go_loopw [49] (fun x wr=>∃ k:Nat,x=.int .i64 k∧k≤r.nodes.length∧(∀ j,j<k→nodeOK r j=true)∧Fr [] w wr∧wr.heap[w.heap.size]?=some (.cells #[.int .i64 r.S,.slice ha r.hood.length hc,.slice (some ⟨g,off,none⟩) r.nodes.length nc] 25 (0,0))) (fun x _=>r.nodes.length - (intOf x).toNat);case atStart=>exact⟨0,rfl,o_,o_,by have:=Hf.out;exact Fr.t,by have:=Hb.out;(repeat first|rw [if_pos o_]|rw [if_neg o_]|rw [hDR]|rw [hDN]|rw [hAz]|rw [hSz]|rw [hAC]|rw [hSC]|rw [oMS]|rw [uPC]|rw [lSZ]|rw [lSS]|rfl);exact this⟩
     case round =>
      clear e0 hlb Hf Hb b0 b1 b2 bl HX hg HL hm hm';obtain⟨k,rfl,hk,hok,hf,hb⟩:=hrel;have Hok:=q_ hok;have Hf:=q_ hf;obtain⟨b0,b1,b2,bl⟩:=l3_ hb;simp at b0 b1 b2;have Hb:=q_ hb;clear hok hf hb;by_cases hlt:k<r.nodes.length;·
       obtain⟨⟨lw,ny⟩,hx⟩:∃ x,r.nodes[k]?=some x:=⟨_,List.getElem?_eq_getElem hlt⟩;obtain⟨_,_,ra,rc,he,hg,e0,e1,hi⟩:=(Hr.out.fr Hf.out).node hx;cases he;have hnk:=nodeOK_eq hx;simp only at e0 e1 hi hnk;have HX:=q_ hnk;have HI:=q_ hi;clear hx hi hnk;by_cases hA:1≤lw∧lw≤r.hood.length∧((ny.length:Nat):Int)=r.S;·
        obtain⟨a1,a2,a3⟩:=hA;have a4:(((ny.length:Nat):Int) != r.S)=false:=(by simp [a3]);have HX:=q_ (show nodeOK r k=ny.all (entOK r lw k) by rw [HX.out,decide_eq_true ⟨a1,a2,a3⟩,Bool.true_and]);have HA3:=q_ a3;have a5:ny.length≤8:=o_;clear a3;go_wp2;refine aBW (fun W=>Fr [] wr W∧W.heap[w.heap.size]?=some (.cells #[.int .i64 r.S,.slice ha r.hood.length hc,.slice (some ⟨g,off,none⟩) r.nodes.length nc] 25 (0,0))∧W.heap[wr.heap.size]?=some (.cells #[.int .i64 lw,.slice ra ny.length rc] 118 (0,0))) ⟨Fr.t,by have:=Hb.out;(repeat first|rw [if_pos o_]|rw [if_neg o_]|rw [hDR]|rw [hDN]|rw [hAz]|rw [hSz]|rw [hAC]|rw [hSC]|rw [oMS]|rw [uPC]|rw [lSZ]|rw [lSS]|rfl);exact this,by (repeat first|rw [if_pos o_]|rw [if_neg o_]|rw [hDR]|rw [hDN]|rw [hAz]|rw [hSz]|rw [hAC]|rw [hSC]|rw [oMS]|rw [uPC]|rw [lSZ]|rw [lSS]|rfl)⟩ ?_;rintro W ⟨hfW,hb,hp⟩;have HfW:=q_ hfW;obtain⟨c0,c1,c2⟩:=e3_ hb;obtain⟨p0,p1⟩:=e2_ hp;have cl:=lBk hb;have pl:=lBk hp;simp at c0 c1 c2 p0 p1;have HbW:=q_ hb;have HpW:=q_ hp;clear hfW hb hp b0 b1 b2 bl e0 e1;go_loopw [76] (fun x wl=>∃ j:Nat,x=.int .i64 j∧j≤ny.length∧(∀ i y,ny[i]?=some y→i<j→entOK r lw k y=true)∧Drew W wl) (fun x _=>ny.length - (intOf x).toNat);case atStart=>exact⟨0,rfl,o_,fun i y h1 h2=>by omega,Drew.refl _⟩
        case round =>
         obtain⟨j,rfl,hj,hent,m,rfl⟩:=hrel;have Hent:=q_ hent;clear hent;by_cases hlt2:j<ny.length;·
          obtain⟨y,hy⟩:∃ y,ny[j]?=some y:=⟨_,List.getElem?_eq_getElem hlt2⟩;obtain⟨g2,off2,rfl,hg2,d0⟩:=(HI.out.fr HfW.out).cell hy;have HY:=q_ hy;clear hy;by_cases hneg:y<0;·
           have HN:=q_ (rightR_node hlt (by rw [HX.out,all_false HY.out (entOK_neg hneg)]));go_wp2;(refine wT ?_);go_wp2;refine sT_ rfl ?_;go_wp2;go_ret;exact⟨ret_bool' HN.out.symm,by have:=Hf.out.trans0 HfW.out;exact Fr.t⟩
          ·obtain⟨z,rfl⟩:∃ z:Nat,y=z:=⟨y.toNat,o_⟩;clear hneg;by_cases hone:lw=1;·
            have hone':(lw == 1)=true:=(by simpa using hone);have hone2:lw≤1:=o_;have HO:=q_ hone;clear hone;by_cases hz:(z:Int)<r.S;·
             have HE:=q_ (((entOK_one o_ HO.out).trans (decide_eq_true hz): entOK r lw k z=true));go_wp2;(refine wT ?_);go_wp2;refine sT_ rfl ?_;go_wp2;go_roundw;case rel =>
              refine⟨j+1,by go_num,o_,fun i u hu hi=>?_,⟨m+1,rfl⟩⟩;rcases Nat.lt_or_ge i j with h|h
              ·exact Hent.out i u hu h
              ·obtain rfl:i=j:=o_;obtain rfl:=Option.some.inj (HY.out.symm.trans hu);exact HE.out
             case measure=>simp [intOf];omega
            ·have HN:=q_ (rightR_node hlt (by rw [HX.out,all_false HY.out ((entOK_one o_ HO.out).trans (decide_eq_false hz))]));go_wp2;(refine wT ?_);go_wp2;refine sT_ rfl ?_;go_wp2;go_ret;exact⟨ret_bool' HN.out.symm,by have:=Hf.out.trans0 HfW.out;exact Fr.t⟩
           ·have hone':(lw == 1)=false:=(by simpa using hone);by_cases hz:(z:Int)<k;·
             obtain⟨⟨lz,nz⟩,hxz⟩:∃ x,r.nodes[z]?=some x:=⟨_,List.getElem?_eq_getElem o_⟩;obtain⟨_,_,rz,cz,he,_,f0,_,_⟩:=(Hr.out.fr (Hf.out.trans0 HfW.out)).node hxz;cases he;have hlz:=levelAt_of hxz;simp only at f0 hlz;have HLZ:=q_ hlz;clear hxz hlz;by_cases hle:lz=lw - 1;·
              subst hle;have HE:=q_ (((entOK_more o_ o_).trans (decide_eq_true ⟨hz,HLZ.out⟩): entOK r lw k z=true));go_wp2;(refine wT ?_);go_wp2;refine sT_ rfl ?_;go_wp2;go_roundw;case rel =>
               refine⟨j+1,by go_num,o_,fun i u hu hi=>?_,⟨m+1,rfl⟩⟩;rcases Nat.lt_or_ge i j with h|h
               ·exact Hent.out i u hu h
               ·obtain rfl:i=j:=o_;obtain rfl:=Option.some.inj (HY.out.symm.trans hu);exact HE.out
              case measure=>simp [intOf];omega
             ·have hle':(lz != lw - 1)=true:=(by simpa using hle);have HNE:=q_ (show ¬ ((z:Int)<k∧levelAt r z=lw - 1) from fun h=>hle (HLZ.out.symm.trans h.2));clear hle;have HN:=q_ (rightR_node hlt (by rw [HX.out,all_false HY.out ((entOK_more o_ o_).trans (decide_eq_false HNE.out))]));go_wp2;(refine wT ?_);go_wp2;refine sT_ rfl ?_;go_wp2;go_ret;exact⟨ret_bool' HN.out.symm,by have:=Hf.out.trans0 HfW.out;exact Fr.t⟩
            ·have HNE:=q_ (show ¬ ((z:Int)<k∧levelAt r z=lw - 1) from fun h=>hz h.1);have HN:=q_ (rightR_node hlt (by rw [HX.out,all_false HY.out ((entOK_more o_ o_).trans (decide_eq_false HNE.out))]));go_wp2;(refine wT ?_);go_wp2;refine sT_ rfl ?_;go_wp2;go_ret;exact⟨ret_bool' HN.out.symm,by have:=Hf.out.trans0 HfW.out;exact Fr.t⟩
         ·obtain rfl:j=ny.length:=o_;have Hall:=q_ (show nodeOK r k=true from HX.out.trans (all_true fun i y h1 h2=>Hent.out i y h1 h2));go_wp2;go_roundw;case rel =>
           refine⟨k+1,by go_num,o_,fun i hi=>?_,by have:=Hf.out.trans0 HfW.out;exact Fr.t,by have:=HbW.out;(repeat first|rw [if_pos o_]|rw [if_neg o_]|rw [hDR]|rw [hDN]|rw [hAz]|rw [hSz]|rw [hAC]|rw [hSC]|rw [oMS]|rw [uPC]|rw [lSZ]|rw [lSS]|rfl);exact this⟩;rcases Nat.lt_or_ge i k with h|h
           ·exact Hok.out i h
           ·obtain rfl:i=k:=o_;exact Hall.out
          case measure=>simp [intOf];omega
       ·have hA':lw<1∨r.hood.length<lw∨1≤lw∧lw≤r.hood.length∧(((ny.length:Nat):Int) != r.S)=true:=by
         simp only [bne_iff_ne];omega
        have HN:=q_ (rightR_node hlt (by rw [HX.out,decide_eq_false hA,Bool.false_and]));clear hA;rcases hA' with h|h|⟨h1,h2,h3⟩
        ·go_wp2;go_ret;exact⟨ret_bool' HN.out.symm,by have:=Hf.out;exact Fr.t⟩
        ·go_wp2;all_goals
          go_ret;exact⟨ret_bool' HN.out.symm,by have:=Hf.out;exact Fr.t⟩
        ·go_wp2;go_ret;exact⟨ret_bool' HN.out.symm,by have:=Hf.out;exact Fr.t⟩
      ·obtain rfl:k=r.nodes.length:=o_;go_wp2;go_ret;exact⟨ret_bool' (rightR_true ⟨hs1,hs2⟩ HHT.out ⟨hn1,hn2⟩ HRT.out Hok.out).symm,Hf.out⟩
    ·have HN:=q_ (rightR_root (r:=r) (by rw [hroot];exact hl));clear hroot;go_enter Tryz.func80,Tryz.ntmps80;go_wp2;(refine wT ?_);go_wp2_with fail;refine (HH.out _ (Fr.t)).mono ?_;rintro e w1 ⟨rfl,hf⟩;have hb_:=(hf.block (w.heap.size) (by first|(simp;done)|(simp;omega)) i_).trans (show _=some (.cells #[.int .i64 r.S,.slice ha r.hood.length hc,.slice na r.nodes.length nc] 25 (0,0)) from hpT);obtain⟨b0,b1,b2,bl⟩:=l3_ hb_;have Hb:=q_ hb_;clear hb_;have Hf:=q_ (Fr.trans0 (Fr.t:Fr [] w _) hf);clear hf;obtain⟨g,off,ra,rc,rfl,hg,e0,_,_⟩:=(Hr.out.fr Hf.out).node hx;simp only at e0;have hlb:(lv == (r.hood.length:Int))=false:=(by simpa using hl);have hlc:(lv != (r.hood.length:Int))=true:=(by simpa using hl);have HX:=q_ hx;have HL:=q_ hl;clear hx hl;go_wp2;all_goals
      refine sT_ rfl ?_;go_wp2;go_ret;exact⟨ret_bool' HN.out.symm,by first|((repeat first|exact Fr.refl _ _|assumption|apply Fr.n|apply Fr.d|apply Fr.a|refine Fr.s ?_ (.inr (by simp;try omega)) _);done)|(have:=Hf.out;(repeat first|exact Fr.refl _ _|assumption|apply Fr.n|apply Fr.d|apply Fr.a|refine Fr.s ?_ (.inr (by simp;try omega)) _);done)⟩
   ·have HN:=q_ (rightR_len hn);have hn':r.nodes.length<1∨4096<r.nodes.length:=o_;clear hn;rcases hn' with h|h
    ·go_enter Tryz.func80,Tryz.ntmps80;go_wp2;(refine wT ?_);go_wp2_with fail;refine (HH.out _ (Fr.t)).mono ?_;rintro e w1 ⟨rfl,hf⟩;have hb_:=(hf.block (w.heap.size) (by first|(simp;done)|(simp;omega)) i_).trans (show _=some (.cells #[.int .i64 r.S,.slice ha r.hood.length hc,.slice na r.nodes.length nc] 25 (0,0)) from hpT);obtain⟨b0,b1,b2,bl⟩:=l3_ hb_;have Hb:=q_ hb_;clear hb_;have Hf:=q_ (Fr.trans0 (Fr.t:Fr [] w _) hf);clear hf;go_wp2;all_goals
      refine sT_ rfl ?_;go_wp2;go_ret;exact⟨ret_bool' HN.out.symm,by first|((repeat first|exact Fr.refl _ _|assumption|apply Fr.n|apply Fr.d|apply Fr.a|refine Fr.s ?_ (.inr (by simp;try omega)) _);done)|(have:=Hf.out;(repeat first|exact Fr.refl _ _|assumption|apply Fr.n|apply Fr.d|apply Fr.a|refine Fr.s ?_ (.inr (by simp;try omega)) _);done)⟩
    ·go_enter Tryz.func80,Tryz.ntmps80;go_wp2;(refine wT ?_);go_wp2_with fail;refine (HH.out _ (Fr.t)).mono ?_;rintro e w1 ⟨rfl,hf⟩;have hb_:=(hf.block (w.heap.size) (by first|(simp;done)|(simp;omega)) i_).trans (show _=some (.cells #[.int .i64 r.S,.slice ha r.hood.length hc,.slice na r.nodes.length nc] 25 (0,0)) from hpT);obtain⟨b0,b1,b2,bl⟩:=l3_ hb_;have Hb:=q_ hb_;clear hb_;have Hf:=q_ (Fr.trans0 (Fr.t:Fr [] w _) hf);clear hf;go_wp2;all_goals
      refine sT_ rfl ?_;go_wp2;go_ret;exact⟨ret_bool' HN.out.symm,by first|((repeat first|exact Fr.refl _ _|assumption|apply Fr.n|apply Fr.d|apply Fr.a|refine Fr.s ?_ (.inr (by simp;try omega)) _);done)|(have:=Hf.out;(repeat first|exact Fr.refl _ _|assumption|apply Fr.n|apply Fr.d|apply Fr.a|refine Fr.s ?_ (.inr (by simp;try omega)) _);done)⟩
 ·have HN:=q_ (rightR_S hS);have hS':r.S<2∨8<r.S:=o_
  clear hS;rcases hS' with h|h
  ·go_enter Tryz.func80,Tryz.ntmps80;go_wp2;(refine wT ?_);go_wp2;all_goals
    refine sT_ rfl ?_;go_wp2;go_ret;exact⟨ret_bool' HN.out.symm,by first|((repeat first|exact Fr.refl _ _|assumption|apply Fr.n|apply Fr.d|apply Fr.a|refine Fr.s ?_ (.inr (by simp;try omega)) _);done)|(have:=Hf.out;(repeat first|exact Fr.refl _ _|assumption|apply Fr.n|apply Fr.d|apply Fr.a|refine Fr.s ?_ (.inr (by simp;try omega)) _);done)⟩
  ·go_enter Tryz.func80,Tryz.ntmps80;go_wp2;(refine wT ?_);go_wp2;all_goals
    refine sT_ rfl ?_;go_wp2;go_ret;exact⟨ret_bool' HN.out.symm,by first|((repeat first|exact Fr.refl _ _|assumption|apply Fr.n|apply Fr.d|apply Fr.a|refine Fr.s ?_ (.inr (by simp;try omega)) _);done)|(have:=Hf.out;(repeat first|exact Fr.refl _ _|assumption|apply Fr.n|apply Fr.d|apply Fr.a|refine Fr.s ?_ (.inr (by simp;try omega)) _);done)⟩
open Mp Qs
theorem setCell_swap (w:World) {a b i j:Nat} (h:a≠b) (u v:Value):(w.setCell ⟨a,i,none⟩ u).setCell ⟨b,j,none⟩ v=(w.setCell ⟨b,j,none⟩ v).setCell ⟨a,i,none⟩ u:=by
 unfold World.setCell;congr 1;apply Array.ext_getElem?;intro k;simp only [Array.getElem?_modify];by_cases ha:a=k;·
  by_cases hb:b=k;·exact absurd (ha.trans hb.symm) h
  ·simp [ha,hb]
 ·by_cases hb:b=k;·simp [ha,hb]
  ·simp [ha,hb]
theorem make_rows4 (w:World):(Instr.makeSlice 217 (.int .i64 4) (.int .i64 4)).run Tryz.prog w=.ok (.slice (some ⟨w.heap.size,0,none⟩) 4 4) (w.alloc (.cells #[.slice none 0 0,.slice none 0 0,.slice none 0 0,.slice none 0 0] 72 (0,0))):=by kernel_rfl
theorem make_row4 (w:World):(Instr.makeSlice 72 (.int .i64 4) (.int .i64 4)).run Tryz.prog w=.ok (.slice (some ⟨w.heap.size,0,none⟩) 4 4) (w.alloc (.cells #[.int .i64 0,.int .i64 0,.int .i64 0,.int .i64 0] 3 (0,0))):=by kernel_rfl
def pmatR (ob m:Nat) (bs:List Nat):Res where
 holds w G:=(bs.length≤m∧w.heap[ob]?=some (.cells (bs.map (rowV m)++List.replicate (m - bs.length) (Value.slice none 0 0)).toArray 72 (0,0))∧(∀ (i b:Nat),bs[i]?=some b→w.heap[b]?=some (Obj.cells (iv (List.replicate m 0)).toArray 3 (0,0)))∧bs.Nodup∧ob∉bs)∧G=ob::bs
 keep:=fun ⟨⟨h1,h2,h3,h4,h5⟩,h6⟩ hk=>⟨⟨h1,by rw [hk ob (by simp [h6])];exact h2,fun i b hb=>by rw [hk b (by rw [h6];simp [List.mem_of_getElem? hb])];exact h3 i b hb,h4,h5⟩,h6⟩
 lt:=fun ⟨⟨h1,h2,h3,h4,h5⟩,h6⟩ x hx=>by
  rw [h6,List.mem_cons] at hx;rcases hx with rfl|hx
  ·exact lBk h2
  ·obtain⟨i,hi,rfl⟩:=List.mem_iff_getElem.1 hx;exact lBk (h3 i _ (List.getElem?_eq_getElem hi))
theorem pmat_list {m b:Nat} {bs:List Nat} (hl:bs.length<m):(bs.map (rowV m)++List.replicate (m - bs.length) (Value.slice none 0 0)).set bs.length (rowV m b)=(bs++[b]).map (rowV m)++List.replicate (m - (bs++[b]).length) (Value.slice none 0 0):=by obtain⟨d,hd⟩:∃ d,m - bs.length=d+1:=⟨m - bs.length - 1,o_⟩;rw [hd,List.replicate_succ,List.set_append_right _ _ i_,List.map_append,List.append_assoc];simp;congr 1;omega
section
variable {W w:World} {ob m:Nat} {bs:List Nat} {Ps:List Res}
theorem pmat_start {cs:Array Value} (h:Has W w (Hp.blk ob (.cells cs 72 (0,0))::Ps)) (hc:cs=(List.replicate m (.slice none 0 0)).toArray):Has W w (pmatR ob m []::Ps) :=
 h.turn fun F ⟨h1,h2⟩=>⟨F,⟨⟨i_,by rw [h1,hc];simp,i_,i_,i_⟩,h2⟩,Fr.refl _ _,fun x hx=>.inl hx⟩
theorem pmat_put {b:Nat} {cs:Array Value} (h:Has W w (Hp.blk b (.cells cs 3 (0,0))::pmatR ob m bs::Ps)) (hc:cs=(iv (List.replicate m 0)).toArray) (hl:bs.length<m):Has W (w.setCell ⟨ob,bs.length,none⟩ (rowV m b)) (pmatR ob m (bs++[b])::Ps):=by
 obtain⟨G,⟨F1,F2,⟨h1,h2⟩,⟨G1,G2,⟨⟨g1,g2,g3,g4,g5⟩,g6⟩,k2,k3,rfl⟩,h4,rfl⟩,hf,hge⟩:=h;subst h2;subst g6;have hbo:b≠ob:=fun e=>h4 b i_ (by rw [e];simp);have hbb:b∉bs:=fun e=>h4 b i_ (by simp [e]);refine⟨ob::(bs++[b])++G2,⟨ob::(bs++[b]),G2,⟨⟨by simp;omega,?_,fun i c hc'=>?_,?_,?_⟩,rfl⟩,?_,?_,rfl⟩,?_,?_⟩;·
  rw [heap_setCell_here g2 bs.length (rowV m b),← pmat_list hl];simp
 ·have hne:c≠ob:=by
   intro e;rw [e] at hc';have:=List.mem_of_getElem? hc';simp only [List.mem_append,List.mem_singleton] at this;rcases this with h|h
   ·exact g5 h
   ·exact hbo h.symm
  rw [heap_setCell_else _ _ _ _ hne];rcases List.mem_append.1 (List.mem_of_getElem? hc') with h|h
  ·obtain⟨j,hj,hje⟩:=List.mem_iff_getElem.1 h;exact g3 j c (by rw [List.getElem?_eq_getElem hj,hje])
  ·rw [List.mem_singleton] at h;rw [h,h1,hc]
 ·rw [List.nodup_append];exact⟨g4,i_,fun x hx y hy e=>by simp at hy;subst hy;subst e;exact hbb hx⟩
 ·simp only [List.mem_append,List.mem_singleton,not_or];exact⟨g5,Ne.symm hbo⟩
 ·exact k2.keep fun x hx=>heap_setCell_else _ _ _ _ fun e:x=ob=>k3 ob i_ (by rw [← e];exact hx)
 ·intro x hx hx2;simp only [List.mem_cons,List.mem_append,List.not_mem_nil,or_false] at hx;rcases hx with rfl|hx|rfl
  ·exact k3 x i_ hx2
  ·exact k3 x (by simp [hx]) hx2
  ·exact h4 x i_ (by simp [hx2])
 ·exact hf.setCell (.inr (hge ob i_)) _
 ·intro x hx;refine hge x ?_;simp only [List.mem_append,List.mem_cons,List.not_mem_nil,or_false] at hx ⊢;rcases hx with (rfl|hx|rfl)|hx<;>simp [*]
theorem pmat_full (h:Has W w (pmatR ob m bs::Ps)) (hl:bs.length=m):Has W w (matR ob m bs (fun _ _=>0)::Ps) :=
 h.turn fun F ⟨⟨h1,h2,h3,h4,h5⟩,h6⟩=>⟨F,⟨⟨hl,by rw [h2,hl];simp,fun i b hb=>by rw [h3 i b hb];congr 4;apply List.ext_getElem?;intro j;simp [rowL];by_cases hj:j<m<;>simp [hj],h4,h5⟩,h6⟩,Fr.refl _ _,fun x hx=>.inl hx⟩
theorem pmat_cell (h:Has W w (pmatR ob m bs::Ps)) (hl:bs.length<m):(∃ v,w.cell? ⟨ob,bs.length,none⟩=some v∧v=.slice none 0 0)∧w.frozen? ⟨ob,bs.length,none⟩=false∧ob<w.heap.size:=by obtain⟨F,⟨⟨h1,h2,h3,h4,h5⟩,h6⟩⟩:=h.head;refine⟨⟨_,?_,rfl⟩,hEF h2 _,lBk h2⟩;rw [hEC h2];obtain⟨d,hd⟩:∃ d,m - bs.length=d+1:=⟨m - bs.length - 1,o_⟩;rw [hd];simp
theorem has_two5 {A B C D E:Res} (h:Has W w (E::D::A::B::C::Ps)):Has W w (A::B::C::D::E::Ps) :=
 Has.fifth (h.perm ((List.perm_append_comm (l₁:=[E,D]) (l₂:=[A,B,C])).append_right Ps))
theorem two_tabs {A B C:Res} {X:Array Value} (h:Has W w (A::B::C::Ps)) (hX:X=(List.replicate m (.slice none 0 0)).toArray) :
  Has W ((w.alloc (.cells X 72 (0,0))).alloc (.cells X 72 (0,0))) (A::B::C::pmatR w.heap.size m []::pmatR (w.heap.size+1) m []::Ps):=by
 have h1:=hAL (hAL h X 72) X 72;rw [hAz] at h1;exact has_two5 (pmat_start (pmat_start h1.swap hX).swap hX)
theorem two_rows {A B C:Res} {X:Array Value} {oa ob:Nat} {aL bs:List Nat} (h:Has W w (A::B::C::pmatR oa m aL::pmatR ob m bs::Ps)) (hX:X=(iv (List.replicate m 0)).toArray) (ha:aL.length<m) (hb:bs.length<m) :
  Has W ((((w.alloc (.cells X 3 (0,0))).alloc (.cells X 3 (0,0))).setCell ⟨oa,aL.length,none⟩ (rowV m w.heap.size)).setCell ⟨ob,bs.length,none⟩ (rowV m (w.heap.size+1))) (A::B::C::pmatR oa m (aL++[w.heap.size])::pmatR ob m (bs++[w.heap.size+1])::Ps):=by
 have h1:=hAL (hAL h X 3) X 3;rw [hAz] at h1;have p:[Hp.blk (w.heap.size+1) (.cells X 3 (0,0)),Hp.blk w.heap.size (.cells X 3 (0,0)),A,B,C,pmatR oa m aL,pmatR ob m bs].Perm [Hp.blk w.heap.size (.cells X 3 (0,0)),pmatR oa m aL,Hp.blk (w.heap.size+1) (.cells X 3 (0,0)),pmatR ob m bs,A,B,C]:=by refine (List.Perm.swap _ _ _).trans (List.Perm.cons _ ?_);refine ((List.perm_append_comm (l₁:=[Hp.blk (w.heap.size+1) (.cells X 3 (0,0)),A,B,C]) (l₂:=[pmatR oa m aL])).append_right [pmatR ob m bs]).trans (List.Perm.cons _ (List.Perm.cons _ ?_));exact List.perm_append_comm (l₁:=[A,B,C]) (l₂:=[pmatR ob m bs])
 have h2:=pmat_put (h1.perm (p.append_right Ps)) hX ha;have q:[pmatR oa m (aL++[w.heap.size]),Hp.blk (w.heap.size+1) (.cells X 3 (0,0)),pmatR ob m bs,A,B,C].Perm [Hp.blk (w.heap.size+1) (.cells X 3 (0,0)),pmatR ob m bs,pmatR oa m (aL++[w.heap.size]),A,B,C] :=
  (List.Perm.swap _ _ _).trans (List.Perm.cons _ (List.Perm.swap _ _ _))
 have h3:=pmat_put (h2.perm (q.append_right Ps)) hX hb;exact has_two5 h3
theorem pmat_ne {A B C:Res} {oa ob:Nat} {al bl:List Nat} (h:Has W w (A::B::C::pmatR oa m al::pmatR ob m bl::Ps)):oa≠ob:=by have p:[A,B,C,pmatR oa m al,pmatR ob m bl].Perm [pmatR oa m al,pmatR ob m bl,A,B,C]:=List.perm_append_comm (l₁:=[A,B,C]) (l₂:=[pmatR oa m al,pmatR ob m bl]);obtain⟨F,⟨F1,F2,h1,⟨G1,G2,g1,_,_,rfl⟩,h3,_⟩,_⟩:=h.perm (p.append_right Ps);obtain⟨_,rfl⟩:=h1;obtain⟨_,rfl⟩:=g1;intro e;exact h3 oa i_ (by simp [e])
theorem pmat_lt {A B C:Res} {oa ob:Nat} {al bl:List Nat} (h:Has W w (A::B::C::pmatR oa m al::pmatR ob m bl::Ps)):oa<w.heap.size∧ob<w.heap.size:=by obtain⟨F,⟨⟨_,h2,_⟩,_⟩⟩:=h.fourth.head;obtain⟨G,⟨⟨_,g2,_⟩,_⟩⟩:=h.fifth.fourth.head;exact⟨lBk h2,lBk g2⟩
theorem two_rows' {A B C:Res} {X:Array Value} {oa ob i:Nat} {al bl:List Nat} (h:Has W w (A::B::C::pmatR oa m al::pmatR ob m bl::Ps)) (hX:X=(iv (List.replicate m 0)).toArray) (ha:al.length=i) (hb:bl.length=i) (hi:i<m) :
  Has W ((((w.setCell ⟨oa,i,none⟩ (rowV m w.heap.size)).setCell ⟨ob,i,none⟩ (rowV m (w.heap.size+1))).alloc (.cells X 3 (0,0))).alloc (.cells X 3 (0,0))) (A::B::C::pmatR oa m (al++[w.heap.size])::pmatR ob m (bl++[w.heap.size+1])::Ps):=by
 obtain⟨l1,l2⟩:=pmat_lt h;have h1:=two_rows h hX o_ o_;rw [ha,hb] at h1;rw [World.setCell_alloc_past _ _ _ _ (by simp;omega),World.setCell_alloc_past _ _ _ _ l1,World.setCell_alloc_past _ _ _ _ (by simp;omega),World.setCell_alloc_past _ _ _ _ (by simp;omega)] at h1;exact h1
end
structure NextSt (W wr:World) (r:Rule) (hv nv:Value) (mb sb rb:Nat) (ns:List K4) (mm:List ((Int×Int)×Int)) (Ps:List Res) (oa ob m:Nat) (al bl:List Nat) (F0 G:Fld) (lo y x:Nat):Prop where
 has:Has W wr (memoL r hv nv mb sb rb ns mm (matR oa m al F0::matR ob m bl G::Ps))
 done:∀ i j:Nat,lo≤i→i<m - lo→lo≤j→j<m - lo→(j<y∨j=y∧i<x)→G i j=gen r F0 i j
theorem NextSt.put {W wr wr':World} {r:Rule} {hv nv:Value} {mb sb rb:Nat} {ns:List K4} {mm:List ((Int×Int)×Int)} {Ps:List Res} {oa ob m:Nat} {al bl:List Nat} {F0 G:Fld} {lo y x b:Nat} (h:NextSt W wr r hv nv mb sb rb ns mm Ps oa ob m al bl F0 G lo y x)
  (hf:Fr [] wr wr') (hx:x<m) (hb:bl[y]?=some b) {v:Int} (hv':v=gen r F0 x y):∃ G',NextSt W (wr'.setCell ⟨b,x,none⟩ (.int .i64 v)) r hv nv mb sb rb ns mm Ps oa ob m al bl F0 G' lo y (x+1):=by
 refine⟨fun i j=>if i=x∧j=y then v else G i j,⟨?_,fun i j h1 h2 h3 h4 h5=>?_⟩⟩
 ·have h1:=mat_set (h.has.step hf).fifth.fourth hx hb (v:=v) (G:=fun i j=>if i=x∧j=y then v else G i j) fun i j=>by
   by_cases e:i=x∧j=y;·rw [if_pos e,if_pos o_]
   ·rw [if_neg e,if_neg o_]
  exact h1.back4.fifth
 ·by_cases e:i=x∧j=y;·
   obtain⟨rfl,rfl⟩:=e;show (if _∧_ then v else _)=_;rw [if_pos ⟨rfl,rfl⟩];exact hv'
  ·show (if _∧_ then v else _)=_;rw [if_neg o_];exact h.done i j h1 h2 h3 h4 o_
theorem take_map_succ {l:List (Int×Int)} {k:Nat} {p:Int×Int} (hk:l[k]?=some p) (f:Int×Int→Int):(l.take (k+1)).map f=(l.take k).map f++[f p]:=by rw [List.take_add_one,hk];simp
theorem down_cell {w:World} {r:Rule} {na:Option Addr} {nc:Nat} (hR:rightR r=true) (hn:NodesAt w (.slice na r.nodes.length nc) r.nodes) {ss:List Int} (hs:∀ s∈ss,0≤s∧s<r.S) (hl:ss.length<r.hood.length) {s:Int} (hs0:0≤s) (hs1:s<r.S) :
  ∃ (k:Nat) (g off:Nat) (g2 off2 rl rc:Nat),down r ss=k∧k<r.nodes.length∧na=some ⟨g,off,none⟩∧g<w.heap.size∧w.cell? ⟨g,off+k*2+1,none⟩=some (.slice (some ⟨g2,off2,none⟩) rl rc)∧(rl:Int)=r.S∧g2<w.heap.size∧w.cell? ⟨g2,off2+s.toNat,none⟩=some (.int .i64 (nextAt r k s)):=by
 obtain⟨h1,h2,h3⟩:=(down_at hR hs o_).1 hl;obtain⟨k,hk⟩:∃ k:Nat,down r ss=k:=⟨(down r ss).toNat,o_⟩;rw [hk] at h2 h3;have hlt:k<r.nodes.length:=o_
 have hx:r.nodes[k]?=some r.nodes[k]:=List.getElem?_eq_getElem hlt;have hok:=right_node hR hlt;rw [nodeOK_eq hx,Bool.and_eq_true,decide_eq_true_eq] at hok;obtain⟨⟨_,_,hS⟩,_⟩:=hok;obtain⟨g,off,ra,rc,rfl,hg,_,hc,hi⟩:=hn.node hx;have hsx:(r.nodes[k]).2[s.toNat]?=some (nextAt r k s):=by unfold nextAt;rw [Int.toNat_natCast,show r.nodes.getD k (0,[])=r.nodes[k] by rw [List.getD_eq_getElem?_getD,hx];rfl,List.getD_eq_getElem?_getD,List.getElem?_eq_getElem o_];rfl
 obtain⟨g2,off2,rfl,hg2,hc2⟩:=hi.cell hsx;exact⟨k,g,off,g2,off2,_,rc,hk,hlt,rfl,hg,hc,hS,hg2,hc2⟩
end Go.Proofs.YtebolidfbflkmaaGreat
end
